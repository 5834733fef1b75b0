/- parts that the proof of BathTours uses -/
import Derived.Test.YtgeahmmepfmcoaaDoorCore5
namespace Go.Proofs.YtgeahmmepfmcoaaDoor.L
open Go Go.RowKit
set_option linter.unusedVariables false
set_option linter.unusedSimpArgs false

variable {P : Program} {Q : Exit → Act → World → Prop} {n : Nat} {K : Slots} {w0 : World} {G : List Ent}
variable {ops : Array Oper} {md md' : Md} {rest : List Oper} {d : Nat} {ty : TypeId} {pos : String} {af : Array Edge}

theorem V_sidx {x y : Operand} {t : TypeId} {p : List UInt8} {i : Int} {k : IntKind} (m : MdStep md .p md') (hu : P.underlying t = some .string) (hx : ev K x = some (.string ⟨p.toArray⟩)) (hy : ev K y = some (.int k i)) (h0 : 0 ≤ i) (h1 : i < p.length) (hd : Nat.blt d n = true)
    (kk : V P ops Q md' rest n ((d, .int .u8 ((p.getD i.toNat 0).toNat : Int)) :: K) w0 G) : V P ops Q md (⟨some d, .index t x y, ty, pos, af, none⟩ :: rest) n K w0 G :=
  V_pure m rfl rfl hd (fun a hk w => by
    simp only [execOp]; rw [hk.eval hx, hk.eval hy]
    have hlt : i.toNat < p.length := by omega
    have e : (ByteArray.mk p.toArray)[i.toNat]? = some (p[i.toNat]) := by
      rw [getElem?_pos _ _ (by simpa [bsize] using hlt)]
      rfl
    simp [Instr.index, asIntOf, run_underlying hu, h0, e, hlt]) kk

theorem extract_list (p : List UInt8) (l h : Nat) : (ByteArray.mk p.toArray).extract l h = ⟨((p.take h).drop l).toArray⟩ := by
  refine Go.WideShapes.bytes_inj ?_
  simp [ByteArray.data_extract, List.drop_take]

theorem run_sslice {t : TypeId} (hu : P.underlying t = some .string) {p : List UInt8} {lo hi : Option Value} {l h : Int} (hlo : lo = none ∧ l = 0 ∨ ∃ k, lo = some (.int k l)) (hhi : hi = none ∧ h = p.length ∨ ∃ k, hi = some (.int k h)) (h0 : 0 ≤ l) (h1 : l ≤ h) (h2 : h ≤ p.length) (w : World) :
    (Instr.sliceAt t (.string ⟨p.toArray⟩) lo hi none).run P w = .ok (.string ⟨((p.take h.toNat).drop l.toNat).toArray⟩) w := by
  have hn : h.toNat ≤ p.length := by omega
  have c1 : (0 ≤ h ∧ h ≤ (p.length : Int)) := ⟨by omega, h2⟩
  have c2 : (0 ≤ l ∧ l ≤ (h.toNat : Int)) := ⟨h0, by omega⟩
  rcases hlo with ⟨rfl, rfl⟩ | ⟨k, rfl⟩ <;> rcases hhi with ⟨rfl, rfl⟩ | ⟨k', rfl⟩ <;>
    simp [Instr.sliceAt, Instr.slice, run_underlying hu, Instr.sliceBounds, Instr.sliceBound, asIntOf, bsize, c1, extract_list]
  · simp at c2; simp [c2]; intro hh; omega
  · simp [h0]; omega

theorem V_sslcL {x lo : Operand} {t : TypeId} {p : List UInt8} {l : Int} {k : IntKind} (m : MdStep md .p md') (hu : P.underlying t = some .string) (hx : ev K x = some (.string ⟨p.toArray⟩)) (hlo : ev K lo = some (.int k l)) (h0 : 0 ≤ l) (h1 : l ≤ p.length) (hd : Nat.blt d n = true)
    (kk : V P ops Q md' rest n ((d, .string ⟨(p.drop l.toNat).toArray⟩) :: K) w0 G) : V P ops Q md (⟨some d, .slice t x (some lo) none none, ty, pos, af, none⟩ :: rest) n K w0 G :=
  V_pure m rfl rfl hd (fun a hk w => by
    simp only [execOp, Option.map_some, Option.map_none]; rw [hk.eval hx, hk.eval hlo]
    have := run_sslice (P := P) hu (p := p) (h := p.length) (.inr ⟨k, rfl⟩) (.inl ⟨rfl, rfl⟩) h0 h1 (Int.le_refl _) w
    simp at this
    simp [this]) kk
theorem V_sslcH {x hi : Operand} {t : TypeId} {p : List UInt8} {h : Int} {k : IntKind} (m : MdStep md .p md') (hu : P.underlying t = some .string) (hx : ev K x = some (.string ⟨p.toArray⟩)) (hhi : ev K hi = some (.int k h)) (h0 : 0 ≤ h) (h1 : h ≤ p.length) (hd : Nat.blt d n = true)
    (kk : V P ops Q md' rest n ((d, .string ⟨(p.take h.toNat).toArray⟩) :: K) w0 G) : V P ops Q md (⟨some d, .slice t x none (some hi) none, ty, pos, af, none⟩ :: rest) n K w0 G :=
  V_pure m rfl rfl hd (fun a hk w => by
    simp only [execOp, Option.map_some, Option.map_none]; rw [hk.eval hx, hk.eval hhi]
    have := run_sslice (P := P) hu (p := p) (l := 0) (.inl ⟨rfl, rfl⟩) (.inr ⟨k, rfl⟩) (Int.le_refl _) h0 h1 w
    simp at this
    simp [this]) kk

theorem run_slice {s t z : Nat} (hu : P.underlying s = some (.slice t)) (hz : Sz P t z) {A : Option Addr} {len cap : Nat} {lo hi : Option Value} {l h : Int} (hlo : lo = none ∧ l = 0 ∨ ∃ k, lo = some (.int k l)) (hhi : hi = none ∧ h = len ∨ ∃ k, hi = some (.int k h))
    (h0 : 0 ≤ l) (h1 : l ≤ h) (h2 : h ≤ cap) (hl : len ≤ cap) (w : World) :
    (Instr.sliceAt s (.slice A len cap) lo hi none).run P w = .ok (.slice (if cap = l.toNat then A else A.map (·.add (l.toNat * z))) (h.toNat - l.toNat) (cap - l.toNat)) w := by
  have c1 : (0 ≤ h ∧ h ≤ (cap : Int)) := ⟨by omega, h2⟩
  have c2 : (0 ≤ l ∧ l ≤ (h.toNat : Int)) := ⟨h0, by omega⟩
  rcases hlo with ⟨rfl, rfl⟩ | ⟨k, rfl⟩ <;> rcases hhi with ⟨rfl, rfl⟩ | ⟨k', rfl⟩ <;>
    simp [Instr.sliceAt, Instr.slice, run_underlying hu, Instr.sliceBounds, Instr.sliceBound, asIntOf, c1, hz w]
  · simp at c2; simp [c2]; intro hh; omega
  · simp [h0, hz w]; intro hh; omega

theorem V_slcL {x lo : Operand} {s t z len cap : Nat} {A : Option Addr} {l : Int} {k : IntKind} (m : MdStep md .p md') (hu : P.underlying s = some (.slice t)) (hz : Sz P t z) (hx : ev K x = some (.slice A len cap)) (hlo : ev K lo = some (.int k l)) (h0 : 0 ≤ l) (h1 : l ≤ len) (hl : len ≤ cap) (hd : Nat.blt d n = true)
    (kk : V P ops Q md' rest n ((d, .slice (if cap = l.toNat then A else A.map (·.add (l.toNat * z))) (len - l.toNat) (cap - l.toNat)) :: K) w0 G) : V P ops Q md (⟨some d, .slice s x (some lo) none none, ty, pos, af, none⟩ :: rest) n K w0 G :=
  V_pure m rfl rfl hd (fun a hk w => by
    simp only [execOp, Option.map_some, Option.map_none]; rw [hk.eval hx, hk.eval hlo]
    have := run_slice (P := P) hu hz (A := A) (len := len) (cap := cap) (h := len) (.inr ⟨k, rfl⟩) (.inl ⟨rfl, rfl⟩) h0 h1 (by omega) hl w
    simp at this
    simp [this]) kk
theorem V_slcH {x hi : Operand} {s t z len cap : Nat} {A : Option Addr} {h : Int} {k : IntKind} (m : MdStep md .p md') (hu : P.underlying s = some (.slice t)) (hz : Sz P t z) (hx : ev K x = some (.slice A len cap)) (hhi : ev K hi = some (.int k h)) (h0 : 0 ≤ h) (h1 : h ≤ cap) (hl : len ≤ cap) (hd : Nat.blt d n = true)
    (kk : V P ops Q md' rest n ((d, .slice A h.toNat cap) :: K) w0 G) : V P ops Q md (⟨some d, .slice s x none (some hi) none, ty, pos, af, none⟩ :: rest) n K w0 G :=
  V_pure m rfl rfl hd (fun a hk w => by
    simp only [execOp, Option.map_some, Option.map_none]; rw [hk.eval hx, hk.eval hhi]
    have := run_slice (P := P) hu hz (A := A) (len := len) (cap := cap) (l := 0) (.inl ⟨rfl, rfl⟩) (.inr ⟨k, rfl⟩) (Int.le_refl _) h0 h1 hl w
    have e : (if cap = (0 : Int).toNat then A else A.map (·.add ((0 : Int).toNat * z))) = A := by cases A <;> simp [Addr.add]
    rw [e] at this
    simp at this
    simp [this]) kk
inductive Put : List Value → Nat → List Value → List Value → Prop where
  | nil {cs : List Value} {o : Nat} : Put cs o [] cs
  | cons {cs c1 c2 : List Value} {o : Nat} {u : Value} {us : List Value} : LSet cs o u c1 → Put c1 (o + 1) us c2 → Put cs o (u :: us) c2

theorem Put.eq {cs cs' us : List Value} {o : Nat} (h : Put cs o us cs') : over cs o us = cs' ∧ (us = [] ∨ o + us.length ≤ cs.length) ∧ cs'.length = cs.length := by
  induction h with
  | nil => simp [over]
  | @cons cs c1 c2 o u us h1 h2 ih =>
    obtain ⟨e1, e2⟩ := h1.eq
    obtain ⟨i1, i2, i3⟩ := ih
    subst e1
    rw [over_set e2] at i1
    refine ⟨i1, .inr ?_, by simpa using i3⟩
    rcases i2 with rfl | i2
    · simp; omega
    · simp at i2 ⊢; omega

inductive Fills (K : Slots) (pl : Nat → Option (Nat × Nat)) : List (Nat × Operand) → List Value → List Value → Prop where
  | nil {cs : List Value} : Fills K pl [] cs cs
  | cons {i o z : Nat} {x : Operand} {v : Value} {us cs c1 c2 : List Value} {r : List (Nat × Operand)} : pl i = some (o, z) → ev K x = some v → v.cells = us.toArray → us.length = z → Nat.beq z 0 = false → Put cs o us c1 → Fills K pl r c1 c2 → Fills K pl ((i, x) :: r) cs c2

theorem fill_fills {a : Act} (hk : Kn n K a) {pl : Nat → Option (Nat × Nat)} : ∀ {ps : List (Nat × Operand)} {cs cs' : List Value}, Fills K pl ps cs cs' → Instr.fill pl cs.toArray (ps.map fun (i, x) => (i, a.eval x)) = some cs'.toArray
  | _, _, _, .nil => by simp [Instr.fill]
  | _, _, _, .cons (i := i) (o := o) (z := z) (x := x) (v := v) (us := us) (cs := cs) (c1 := c1) (c2 := c2) (r := r) hp hx hv hu h0 hput hr => by
    have hz0 : z ≠ 0 := fun e => by subst e; simp at h0
    obtain ⟨e1, e2, e3⟩ := hput.eq
    have hne : us ≠ [] := by rintro rfl; simp at hu; exact hz0 hu.symm
    have hle := e2.resolve_left hne
    simp only [List.map_cons, Instr.fill, hk.eval hx, hv, hp]
    have c : ¬ (us.toArray.size ≠ z ∨ o + us.toArray.size > cs.toArray.size) := by simp [hu]; omega
    rw [if_neg (by simpa using c)]
    have ih := fill_fills hk hr
    rw [← ih]
    congr 1
    have := foldl_put us o cs 0 (by omega)
    rw [Nat.add_zero, e1] at this
    rw [← this, ← Array.foldl_toList]
    simp

structure Pls (P : Program) (t : TypeId) (zs : List Value) (pl : List (Nat × Nat)) : Prop where
  run : ∀ w (parts : Array (Nat × Value)) (cs : List Value), Instr.fill (pl[·]?) zs.toArray parts.toList = some cs.toArray → (Instr.build t parts).run P w = .ok (.agg cs.toArray) w

theorem mapM_sizes {w : World} : ∀ (fs : List Field) (pl : List (Nat × Nat)), fs.length = pl.length → (∀ (i : Nat) f x, fs[i]? = some f → pl[i]? = some x → f.offset = x.1 ∧ Sz P f.type x.2) →
    ((fs.mapM fun f => do pure (f.offset, ← sizeOf f.type) : Sem (List (Nat × Nat)))).run P w = .ok pl w
  | [], [], _, _ => rfl
  | f :: fs, x :: pl, hl, h => by
    obtain ⟨h1, h2⟩ := h 0 f x rfl rfl
    have ih := mapM_sizes (w := w) fs pl (by simpa using hl) (fun i f y hf hy => h (i + 1) f y (by simpa using hf) (by simpa using hy))
    rw [List.mapM_cons]
    simp only [Sem.run_bind, Sem.run_pure, h2 w, Result.andThen_ok]
    rw [ih]
    simp [h1]

theorem Pls.struct {t : TypeId} {fs : List Field} {zv : Value} {zs : List Value} {pl : List (Nat × Nat)} (hu : P.underlying t = some (.struct fs.toArray)) (hz : ∀ w, (zeroValue t).run P w = .ok zv w) (hc : zv.cells = zs.toArray) (hl : fs.length = pl.length)
    (h : ∀ (i : Nat) f x, fs[i]? = some f → pl[i]? = some x → f.offset = x.1 ∧ Sz P f.type x.2) : Pls P t zs pl := ⟨by
  intro w parts cs hf
  have hm := mapM_sizes (P := P) (w := w) fs pl hl h
  have e : ((fs.toArray.mapM fun f => do pure (f.offset, ← sizeOf f.type)) : Sem (Array (Nat × Nat))) = List.toArray <$> (fs.mapM fun f => do pure (f.offset, ← sizeOf f.type)) := by
    rw [List.mapM_toArray]
  simp only [Instr.build, Sem.run_bind, hz w, Result.andThen_ok, run_underlying hu, hc, e, Sem.run_map, hm]
  have : (fun x : Nat => pl.toArray[x]?) = (fun x : Nat => pl[x]?) := by funext x; simp
  rw [this, hf]
  rfl⟩

theorem Pls.array {t e L z : TypeId} {zv : Value} {zs : List Value} (hu : P.underlying t = some (.array L e)) (hz : ∀ w, (zeroValue t).run P w = .ok zv w) (hc : zv.cells = zs.toArray) (he : Sz P e z) (w : World) (parts : Array (Nat × Value)) (cs : List Value)
    (hf : Instr.fill (fun i => some (i * z, z)) zs.toArray parts.toList = some cs.toArray) : (Instr.build t parts).run P w = .ok (.agg cs.toArray) w := by
  simp only [Instr.build, Sem.run_bind, hz w, Result.andThen_ok, run_underlying hu, hc, he w, hf]
  rfl

theorem V_build {t : TypeId} {ps : List (Nat × Operand)} {zs cs : List Value} {pl : List (Nat × Nat)} (m : MdStep md .p md') (hp : Pls P t zs pl) (hf : Fills K (pl[·]?) ps zs cs) (hd : Nat.blt d n = true)
    (kk : V P ops Q md' rest n ((d, .agg cs.toArray) :: K) w0 G) : V P ops Q md (⟨some d, .build t ps.toArray, ty, pos, af, none⟩ :: rest) n K w0 G :=
  V_pure m rfl rfl hd (fun a hk w => by
    simp only [execOp]
    have h1 := hp.run w ((ps.toArray).map fun (i, x) => (i, a.eval x)) cs (by simpa using fill_fills hk hf)
    simp only [Sem.run_bind, h1]
    rfl) kk
theorem V_cvi {x : Operand} {s t : TypeId} {i j : IntKind} {p : Int} {u : TypeDesc} (m : MdStep md .p md') (hs : P.underlying s = some u) (ht : P.underlying t = some (.int j)) (hx : ev K x = some (.int i p)) (hb : j.wrap p = p) (hd : Nat.blt d n = true)
    (kk : V P ops Q md' rest n ((d, .int j p) :: K) w0 G) : V P ops Q md (⟨some d, .convert s t x, ty, pos, af, none⟩ :: rest) n K w0 G :=
  V_pure m rfl rfl hd (fun a hk w => by
    simp only [execOp]; rw [hk.eval hx]
    simp [convert, run_underlying hs, run_underlying ht, Conv.intToInt, hb]) kk
theorem V_cvr {x : Operand} {s t : TypeId} {i : IntKind} {p : Int} {u : TypeDesc} {q : List UInt8} (m : MdStep md .p md') (hs : P.underlying s = some u) (ht : P.underlying t = some .string) (hx : ev K x = some (.int i p)) (hb : Utf8.encode p = ⟨q.toArray⟩) (hd : Nat.blt d n = true)
    (kk : V P ops Q md' rest n ((d, .string ⟨q.toArray⟩) :: K) w0 G) : V P ops Q md (⟨some d, .convert s t x, ty, pos, af, none⟩ :: rest) n K w0 G :=
  V_pure m rfl rfl hd (fun a hk w => by
    simp only [execOp]; rw [hk.eval hx]
    simp [convert, run_underlying hs, run_underlying ht, Conv.intToString, hb]) kk
theorem V_mkf {f : Fn} {cap : List Operand} {vs : List Value} (m : MdStep md .p md') (hc : Evs K cap vs) (hd : Nat.blt d n = true)
    (kk : V P ops Q md' rest n ((d, .func f #[] vs.toArray) :: K) w0 G) : V P ops Q md (⟨some d, .makeFunc f #[] cap.toArray, ty, pos, af, none⟩ :: rest) n K w0 G :=
  V_pure m rfl rfl hd (fun a hk w => by
    simp only [execOp, List.map_toArray, hc.eval hk]
    simp [Instr.makeFunc]) kk

end Go.Proofs.YtgeahmmepfmcoaaDoor.L
