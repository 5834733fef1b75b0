/- More rules: bytes of a string. -/
import Derived.Test.YtgeahmmepfmcoaaDoorCore7
import Derived.Laws.IdiomStrings
namespace Go.Proofs.YtgeahmmepfmcoaaDoor.L
open Go Go.RowKit
set_option linter.unusedVariables false
set_option linter.unusedSimpArgs false

variable {P : Program} {Q : Exit → Act → World → Prop} {n : Nat} {K : Slots} {w0 : World} {G : List Ent}
variable {ops : Array Oper} {md md' : Md} {rest : List Oper} {d : Nat} {ty : TypeId} {pos : String} {af : Array Edge}

theorem bytesRow_list (p : List UInt8) (cap : Nat) : bytesRow ⟨p.toArray⟩ cap = (By p ++ List.replicate (cap - p.length) (Value.int .u8 0)).toArray := by
  refine Array.toList_inj.1 ?_
  simp [bytesRow, By, ByteArray.size]

/-- []byte(s) -/
theorem V_s2b {x : Operand} {s t e : TypeId} {p : List UInt8} (m : MdStep md .e md') (hs : P.underlying s = some .string) (ht : P.underlying t = some (.slice e)) (he : P.underlying e = some (.int .u8)) (hx : ev K x = some (.string ⟨p.toArray⟩)) (hd : Nat.blt d n = true)
    (hK : ∀ b sp fz, Keep md (.f b e (By p ++ sp) fz :: G))
    (kk : ∀ b c sp fz, V P ops Q md' rest n ((d, .slice (some ⟨b, 0, none⟩) p.length c) :: K) w0 (.f b e (By p ++ sp) fz :: G)) : V P ops Q md (⟨some d, .convert s t x, ty, pos, af, none⟩ :: rest) n K w0 G :=
  V_act (post := fun v G' => ∃ b c sp fz, v = .slice (some ⟨b, 0, none⟩) p.length c ∧ G' = .f b e (By p ++ sp) fz :: G) m rfl (by simpa using hd)
    (fun a w hk hw => by
      have hr := run_bytes_of_string (P := P) w s t e ⟨p.toArray⟩ hs ht he
      have hsz : (ByteArray.mk p.toArray).size = p.length := by simp [ByteArray.size]
      rw [bytesRow_list, hsz] at hr
      have hw1 : St w0 G w.drew := hw.drewN (w.drawn + 1)
      generalize grownCap w p.length 0 e = cap at hr
      generalize hfz : ((By p ++ List.replicate (cap - p.length) (Value.int .u8 0)).toArray.size, (By p ++ List.replicate (cap - p.length) (Value.int .u8 0)).toArray.size + 1) = fz at hr
      generalize List.replicate (cap - p.length) (Value.int .u8 0) = sp at hr
      have hr2 : (execOp a.eval ⟨some d, .convert s t x, ty, pos, af, none⟩).run P w = .ok (.value (.slice (some ⟨w.heap.size, 0, none⟩) p.length cap)) (w.drew.alloc (.cells (By p ++ sp).toArray e fz)) := by
        simp only [execOp]; rw [hk.eval hx]
        simp [hr, -List.append_toArray]
      exact .inl ⟨_, _, hr2, _, _, rfl, hw1.alloc (x := .f w.heap.size e (By p ++ sp) fz) rfl (heap_new w.drew _), w.heap.size, cap, sp, fz, rfl, rfl⟩)
    (by rintro v G' ⟨b, c, sp, fz, rfl, rfl⟩; exact hK b sp fz) (by rintro v G' ⟨b, c, sp, fz, rfl, rfl⟩; exact kk b c sp fz)

theorem By_getNs {xs : List UInt8} {sp : List Value} {i : Nat} (h : i < xs.length) : (By xs ++ sp)[((i : Nat) : Int).toNat * 1]? = some (.int .u8 ((xs.getD i 0).toNat : Int)) := by simp [By, h, List.getElem?_append]

end Go.Proofs.YtgeahmmepfmcoaaDoor.L
