/- parts that the proof of BathTours uses -/
import Derived.Test.YtgeahmmepfmcoaaDoorOf
namespace Go.Proofs.YtgeahmmepfmcoaaDoor.L
open Go Go.RowKit
set_option linter.unusedVariables false
set_option linter.unusedSimpArgs false

variable {P : Program} {Q : Exit → Act → World → Prop} {n : Nat} {K : Slots} {w0 : World} {G : List Ent}
variable {ops : Array Oper} {md md' : Md} {rest : List Oper} {d : Nat} {ty : TypeId} {pos : String} {af : Array Edge}

theorem st_empty {w0 w : World} {Xs : List Ent} (h : St w0 Xs w) : St w0 (.e :: Xs) w :=
  ⟨h.base, h.nodup, h.ge, fun x hx => by
    rcases List.mem_cons.1 hx with rfl | hx
    · trivial
    · exact h.has _ hx⟩

theorem V_appU {x y : Operand} {s t z m s2 e2 : Nat} {A0 : Option Addr} {ms : List Value} {A2 : Option Addr} {c2 : Nat} {i : TypeInfo} {zv : Value} (mm : MdStep md (.u fun v' D => ∃ X', D = [X'] ∧ Own t z v' m ms X') md')
    (hu : P.underlying s = some (.slice t)) (hu2 : P.underlying s2 = some (.slice e2)) (hi : ∀ w, (typeInfo t).run P w = .ok i w) (hz : i.size = z) (hb0 : Nat.beq i.bytes 0 = false) (hb1 : Nat.ble i.bytes 4096 = true) (hzv : i.zero = some zv) (hzs : zv.cells.size = z)
    (hx : ev K x = some (.slice A0 0 0)) (hy : ev K y = some (.slice A2 m c2)) (hr : ∀ w, St w0 (rd md G) w → Rd w A2 ms) (hms : ms.length = m * z) (hone : ∀ u ∈ ms, u.oneCell' = true) (hlim : m ≤ 16777216) (hd : Nat.blt d n = true) (hs : Keep md G)
    (kk : ∀ v' X', Own t z v' m ms X' → V P ops Q md' rest n ((d, v') :: K) w0 (X' :: G)) : V P ops Q md (⟨some d, .call ⟨.builtin .append, #[x, y], #[s, s2]⟩, ty, pos, af, none⟩ :: rest) n K w0 G :=
  V_beside mm rfl (by simpa using hd)
    (fun G0 h0 a w hk hw => by
      obtain ⟨v', X', w', hrun, ho', hw'⟩ := append_run (G1 := []) (x := .e) (G2 := G0) (len := 0) (cs := []) (m := m) (tr := ty) (c2 := c2) hu hu2 hi hz hb0 hb1 hzv hzs (st_empty hw) (.inl ⟨A0, rfl, rfl, rfl⟩) (hr w (h0 w hw)) hms hone (by omega)
      rw [Nat.zero_add, List.nil_append] at ho'
      refine .inl ⟨v', w', ?_, v', _, rfl, hw', [X'], rfl, X', rfl, ho'⟩
      simp only [execOp, resolve, List.map_toArray, List.map_cons, List.map_nil]; rw [hk.eval hx, hk.eval hy]
      simp [invoke, builtin, hrun])
    hs (by rintro v' D ⟨X', rfl, ho'⟩; exact kk v' X' ho')

theorem V_appE {x y : Operand} {s t z len m s2 e2 : Nat} {v : Value} {cs ms : List Value} {X : Ent} {A2 : Option Addr} {c2 : Nat} {i : TypeInfo} {zv : Value} {G1 G2 : List Ent} (mm : MdStep md .e md')
    (hu : P.underlying s = some (.slice t)) (hu2 : P.underlying s2 = some (.slice e2)) (hi : ∀ w, (typeInfo t).run P w = .ok i w) (hz : i.size = z) (hb0 : Nat.beq i.bytes 0 = false) (hb1 : Nat.ble i.bytes 4096 = true) (hzv : i.zero = some zv) (hzs : zv.cells.size = z)
    (hx : ev K x = some v) (hy : ev K y = some (.slice A2 m c2)) (hG : G = G1 ++ X :: G2) (ho : Own t z v len cs X) (hr : ∀ w, St w0 G w → Rd w A2 ms) (hms : ms.length = m * z) (hone : ∀ u ∈ ms, u.oneCell' = true) (hlim : len + m ≤ 16777216) (hd : Nat.blt d n = true) (hs : ∀ X', Keep md (G1 ++ X' :: G2))
    (kk : ∀ v' X', Own t z v' (len + m) (cs ++ ms) X' → V P ops Q md' rest n ((d, v') :: K) w0 (G1 ++ X' :: G2)) : V P ops Q md (⟨some d, .call ⟨.builtin .append, #[x, y], #[s, s2]⟩, ty, pos, af, none⟩ :: rest) n K w0 G :=
  V_act (post := fun v' G' => ∃ X', Own t z v' (len + m) (cs ++ ms) X' ∧ G' = G1 ++ X' :: G2) mm rfl (by simpa using hd)
    (fun a w hk hw => by
      subst hG
      obtain ⟨v', X', w', hrun, ho', hw'⟩ := append_run (tr := ty) (c2 := c2) hu hu2 hi hz hb0 hb1 hzv hzs hw ho (hr w hw) hms hone hlim
      refine .inl ⟨v', w', ?_, v', _, rfl, hw', X', ho', rfl⟩
      simp only [execOp, resolve, List.map_toArray, List.map_cons, List.map_nil]; rw [hk.eval hx, hk.eval hy]
      simp [invoke, builtin, hrun])
    (by rintro v' G' ⟨X', ho', rfl⟩; exact hs X') (by rintro v' G' ⟨X', ho', rfl⟩; exact kk v' X' ho')

theorem V_callCE {f : FuncId} {x : Operand} {fs cap : Array Value} {ags : List Operand} {vs : List Value} {ats : Array TypeId} {post : Value → List Ent → Prop} (m : MdStep md .e md') (hf : ∀ args w, (callFunc f args).run P w = .ok (.enter f args) w)
    (hx : ev K x = some (.func (.func f) fs cap)) (ha : Evs K ags vs)
    (hc : ∀ w, St w0 G w → Calls P f (fs ++ vs.toArray ++ cap) w fun e w' => ∃ v G', e = .returned v ∧ St w0 G' w' ∧ post v G') (hd : Nat.blt d n = true) (hs : ∀ v G', post v G' → Keep md G')
    (kk : ∀ v G', post v G' → V P ops Q md' rest n ((d, v) :: K) w0 G') : V P ops Q md (⟨some d, .call ⟨.value x, ags.toArray, ats⟩, ty, pos, af, none⟩ :: rest) n K w0 G :=
  V_act (post := post) m rfl (by simpa using hd)
    (fun a w hk hw => .inr (.inr ⟨f, _, w, by
        simp only [execOp, resolve, List.map_toArray, ha.eval hk]; rw [hk.eval hx]
        simp [Deferred.ofValue, invoke, hf], (hc w hw).mono fun e w' ⟨v, D, he, hD, hp⟩ => ⟨v, he, v, _, rfl, hD, hp⟩⟩))
    hs (by intro v G' hp; exact kk v G' hp)

end Go.Proofs.YtgeahmmepfmcoaaDoor.L
