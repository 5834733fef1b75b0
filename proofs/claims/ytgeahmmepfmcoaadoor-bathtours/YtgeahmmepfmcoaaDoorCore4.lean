/- parts that the proof of BathTours uses -/
import Derived.Test.YtgeahmmepfmcoaaDoorCore3
namespace Go.Proofs.YtgeahmmepfmcoaaDoor.L
open Go Go.RowKit
set_option linter.unusedVariables false
set_option linter.unusedSimpArgs false

variable {P : Program} {Q : Exit → Act → World → Prop} {n : Nat} {K : Slots} {w0 : World} {G : List Ent}
variable {ops : Array Oper} {md md' : Md} {rest : List Oper} {d : Nat} {ty : TypeId} {pos : String} {af : Array Edge}

def Sz (P : Program) (t : TypeId) (k : Nat) : Prop := ∀ w, (sizeOf t).run P w = .ok k w
def Ag (P : Program) (t : TypeId) (b : Bool) : Prop := ∀ w, (isAgg t).run P w = .ok b w
def Fo (P : Program) (s : TypeId) (f k : Nat) : Prop := ∀ w (a : Addr), (Instr.fieldAt s (.pointer (some a)) f).run P w = .ok (.pointer (some (a.add k))) w

theorem Fo.mk {s : TypeId} {fs : Array Field} {f k : Nat} {fd : Field} {z : Nat} (hu : P.underlying s = some (.struct fs)) (hf : fs[f]? = some fd) (hz : Sz P fd.type z) (h0 : Nat.beq z 0 = false) (hk : fd.offset = k) : Fo P s f k := by
  intro w a
  have hz0 : z ≠ 0 := fun e => by subst e; simp at h0
  subst hk
  simp [Instr.fieldAt, run_underlying hu, hf, Instr.sureAddr, fieldPlace, hz w, hz0]

theorem add_plain (b o k : Nat) : (Addr.mk b o none).add k = ⟨b, o + k, none⟩ := by
  unfold Addr.add; split <;> simp_all

def adr (A : Option Addr) (j : Nat) : Addr := match A with | some a => ⟨a.block, a.off + j, none⟩ | none => ⟨0, j, none⟩

theorem adr_add (A : Option Addr) (j k : Nat) : (adr A j).add k = adr A (j + k) := by
  cases A <;> simp [adr, add_plain, Nat.add_assoc]
theorem adr_own (b j : Nat) : adr (some ⟨b, 0, none⟩) j = ⟨b, j, none⟩ := by simp [adr]

theorem V_fa0 {x : Operand} {s f b k : Nat} (m : MdStep md .p md') (hf : Fo P s f k) (hx : ev K x = some (.pointer (some ⟨b, 0, none⟩))) (hd : Nat.blt d n = true)
    (kk : V P ops Q md' rest n ((d, .pointer (some ⟨b, k, none⟩)) :: K) w0 G) : V P ops Q md (⟨some d, .fieldAddr s x f, ty, pos, af, none⟩ :: rest) n K w0 G :=
  V_pure m rfl rfl hd (fun a hk w => by
    simp only [execOp]; rw [hk.eval hx]
    simp [hf w, add_plain]) kk
theorem V_fa {x : Operand} {s f b o k : Nat} (m : MdStep md .p md') (hf : Fo P s f k) (hx : ev K x = some (.pointer (some ⟨b, o, none⟩))) (hd : Nat.blt d n = true)
    (kk : V P ops Q md' rest n ((d, .pointer (some ⟨b, o + k, none⟩)) :: K) w0 G) : V P ops Q md (⟨some d, .fieldAddr s x f, ty, pos, af, none⟩ :: rest) n K w0 G :=
  V_pure m rfl rfl hd (fun a hk w => by
    simp only [execOp]; rw [hk.eval hx]
    simp [hf w, add_plain]) kk
theorem V_faz {x : Operand} {s f j k : Nat} {A : Option Addr} (m : MdStep md .p md') (hf : Fo P s f k) (hx : ev K x = some (.pointer (some (adr A j)))) (hd : Nat.blt d n = true)
    (kk : V P ops Q md' rest n ((d, .pointer (some (adr A (j + k)))) :: K) w0 G) : V P ops Q md (⟨some d, .fieldAddr s x f, ty, pos, af, none⟩ :: rest) n K w0 G :=
  V_pure m rfl rfl hd (fun a hk w => by
    simp only [execOp]; rw [hk.eval hx]
    simp [hf w, adr_add]) kk

def Pl (A : Option Addr) (l : Nat) : Prop := 0 < l → ∃ b o, A = some ⟨b, o, none⟩
theorem Pl.own (b o l : Nat) : Pl (some ⟨b, o, none⟩) l := fun _ => ⟨b, o, rfl⟩

theorem run_indexAt {t e z : Nat} {A : Option Addr} {l c : Nat} {i : Int} {k : IntKind} (hu : P.underlying t = some (.slice e)) (hz : Sz P e z) (hA : Pl A l) (h0 : 0 ≤ i) (h1 : i < l) (w : World) :
    (Instr.indexAt t (.slice A l c) (.int k i)).run P w = .ok (.pointer (some (adr A (i.toNat * z)))) w := by
  obtain ⟨b, o, rfl⟩ := hA (by omega)
  simp [Instr.indexAt, asIntOf, run_underlying hu, h0, h1, hz w, adr, add_plain]

theorem V_ixz {x y : Operand} {t e z : Nat} {A : Option Addr} {l c : Nat} {i : Int} {k : IntKind} (m : MdStep md .p md') (hu : P.underlying t = some (.slice e)) (hz : Sz P e z) (hx : ev K x = some (.slice A l c)) (hy : ev K y = some (.int k i))
    (hA : Pl A l) (h0 : 0 ≤ i) (h1 : i < l) (hd : Nat.blt d n = true) (kk : V P ops Q md' rest n ((d, .pointer (some (adr A (i.toNat * z)))) :: K) w0 G) : V P ops Q md (⟨some d, .indexAddr t x y, ty, pos, af, none⟩ :: rest) n K w0 G :=
  V_pure m rfl rfl hd (fun a hk w => by
    simp only [execOp]; rw [hk.eval hx, hk.eval hy]
    simp [run_indexAt hu hz hA h0 h1 w]) kk
theorem V_ix {x y : Operand} {t e z : Nat} {b l c : Nat} {i : Int} {k : IntKind} (m : MdStep md .p md') (hu : P.underlying t = some (.slice e)) (hz : Sz P e z) (hx : ev K x = some (.slice (some ⟨b, 0, none⟩) l c)) (hy : ev K y = some (.int k i))
    (h0 : 0 ≤ i) (h1 : i < l) (hd : Nat.blt d n = true) (kk : V P ops Q md' rest n ((d, .pointer (some ⟨b, i.toNat * z, none⟩)) :: K) w0 G) : V P ops Q md (⟨some d, .indexAddr t x y, ty, pos, af, none⟩ :: rest) n K w0 G :=
  V_ixz m hu hz hx hy (Pl.own _ _ _) h0 h1 hd (by rw [adr_own]; exact kk)

theorem cell_of {w : World} {b t : Nat} {cs : List Value} {fz : Nat × Nat} (h : w.heap[b]? = some (.cells cs.toArray t fz)) {j : Nat} {v : Value} (hv : cs[j]? = some v) : w.cell? ⟨b, j, none⟩ = some v := by
  simp [World.cell?, h, hv]

theorem run_loadAt1 {t : TypeId} (hA : Ag P t false) {a : Addr} {v : Value} {w : World} (hc : w.cell? a = some v) : (Instr.loadAt t (.pointer (some a))).run P w = .ok v w := by
  simp [Instr.loadAt, Instr.sureAddr, loadVar, hA w, hc]

theorem V_ld {x : Operand} {t e b j : Nat} {cs : List Value} {v : Value} (m : MdStep md .r md') (hA : Ag P t false) (hx : ev K x = some (.pointer (some ⟨b, j, none⟩))) (hm : Ent.c b e cs ∈ rd md G) (hv : cs[j]? = some v)
    (hd : Nat.blt d n = true) (kk : V P ops Q md' rest n ((d, v) :: K) w0 G) : V P ops Q md (⟨some d, .load t x, ty, pos, af, none⟩ :: rest) n K w0 G :=
  V_read m rfl rfl hd (fun a w hk hw => by
    simp only [execOp]; rw [hk.eval hx]
    have hc : w.cell? ⟨b, j, none⟩ = some v := cell_of (hw.has _ hm) hv
    simp [run_loadAt1 hA hc]) kk
theorem V_ldf {x : Operand} {t e b j : Nat} {cs : List Value} {fz : Nat × Nat} {v : Value} (m : MdStep md .r md') (hA : Ag P t false) (hx : ev K x = some (.pointer (some ⟨b, j, none⟩))) (hm : Ent.f b e cs fz ∈ rd md G) (hv : cs[j]? = some v)
    (hd : Nat.blt d n = true) (kk : V P ops Q md' rest n ((d, v) :: K) w0 G) : V P ops Q md (⟨some d, .load t x, ty, pos, af, none⟩ :: rest) n K w0 G :=
  V_read m rfl rfl hd (fun a w hk hw => by
    simp only [execOp]; rw [hk.eval hx]
    have hc : w.cell? ⟨b, j, none⟩ = some v := cell_of (hw.has _ hm) hv
    simp [run_loadAt1 hA hc]) kk

theorem loadCellsFrom_run {P : Program} {w : World} {a : Addr} : ∀ (vs : List Value) (i : Nat) (acc : Array Value), (∀ j v, vs[j]? = some v → w.cell? (a.add (i + j)) = some v) →
    (loadCellsFrom a i vs.length acc).run P w = .ok (acc ++ vs.toArray) w
  | [], i, acc, _ => by simp [loadCellsFrom]
  | v :: vs, i, acc, h => by
    have h0 := h 0 v rfl
    simp only [Nat.add_zero] at h0
    have ih := loadCellsFrom_run (P := P) vs (i + 1) (acc.push v) (fun j u hj => by have := h (j + 1) u (by simpa using hj); rwa [show i + 1 + j = i + (j + 1) by omega])
    simp only [List.length_cons, loadCellsFrom]
    simp [h0, ih]

theorem run_loadAtN {t k : TypeId} (hA : Ag P t true) (hz : Sz P t k) {a : Addr} {vs : List Value} {w : World} (hl : vs.length = k) (hc : ∀ j v, vs[j]? = some v → w.cell? (a.add j) = some v) :
    (Instr.loadAt t (.pointer (some a))).run P w = .ok (.agg vs.toArray) w := by
  subst hl
  have := loadCellsFrom_run (P := P) (w := w) (a := a) vs 0 #[] (fun j v h => by rw [Nat.zero_add]; exact hc j v h)
  simp [Instr.loadAt, Instr.sureAddr, loadVar, hA w, hz w, loadCells, this]

theorem V_ldN {x : Operand} {t e b j k : Nat} {cs vs : List Value} (m : MdStep md .r md') (hA : Ag P t true) (hz : Sz P t k) (hx : ev K x = some (.pointer (some ⟨b, j, none⟩))) (hm : Ent.c b e cs ∈ rd md G) (hv : (cs.drop j).take k = vs) (hl : vs.length = k)
    (hd : Nat.blt d n = true) (kk : V P ops Q md' rest n ((d, .agg vs.toArray) :: K) w0 G) : V P ops Q md (⟨some d, .load t x, ty, pos, af, none⟩ :: rest) n K w0 G :=
  V_read m rfl rfl hd (fun a w hk hw => by
    simp only [execOp]; rw [hk.eval hx]
    have hc : ∀ i v, vs[i]? = some v → w.cell? ((Addr.mk b j none).add i) = some v := by
      intro i v hi
      rw [add_plain]
      refine cell_of (hw.has _ hm) ?_
      subst hv
      have hlt : i < k := by
        have := (List.getElem?_eq_some_iff.1 hi).1
        simp at this; omega
      rw [List.getElem?_take_of_lt hlt, List.getElem?_drop] at hi
      exact hi
    simp [run_loadAtN hA hz hl hc]) kk

def Rd (w : World) (A : Option Addr) (cs : List Value) : Prop :=
  ∀ j v, cs[j]? = some v → (∃ b o, A = some ⟨b, o, none⟩) ∧ w.cell? (adr A j) = some v

theorem Rd.pl {w : World} {A : Option Addr} {cs : List Value} (h : Rd w A cs) {l : Nat} (hl : l ≤ cs.length) : Pl A l := by
  intro h0
  have : ∃ v, cs[0]? = some v := by
    cases cs with
    | nil => simp at hl; omega
    | cons v _ => exact ⟨v, rfl⟩
  obtain ⟨v, hv⟩ := this
  exact (h 0 v hv).1

theorem cell_below {w0 w : World} {G : List Ent} (h : St w0 G w) {a : Addr} {v : Value} (hc : w0.cell? a = some v) : w.cell? a = some v := by
  have hlt : a.block < w0.heap.size := by
    unfold World.cell? at hc
    cases hb : w0.heap[a.block]? with
    | none => simp [hb] at hc
    | some o => exact (Array.getElem?_eq_some_iff.1 hb).1
  rw [h.base.cell hlt]; exact hc

theorem Rd.keep {w0 w : World} {G : List Ent} (h : St w0 G w) {A : Option Addr} {cs : List Value} (r : Rd w0 A cs) : Rd w A cs :=
  fun j v hv => ⟨(r j v hv).1, cell_below h (r j v hv).2⟩

theorem Rd.own {w : World} {G : List Ent} (h : St w0 G w) {b t : Nat} {cs : List Value} (hm : Ent.c b t cs ∈ G) : Rd w (some ⟨b, 0, none⟩) cs :=
  fun j v hv => ⟨⟨b, 0, rfl⟩, by rw [adr_own]; exact cell_of (h.has _ hm) hv⟩

theorem Rd.take {w : World} {A : Option Addr} {cs : List Value} (h : Rd w A cs) (k : Nat) : Rd w A (cs.take k) := by
  intro j v hv
  refine h j v ?_
  rw [List.getElem?_take] at hv
  split at hv
  · exact hv
  · simp at hv

theorem V_ldz {x : Operand} {t j : Nat} {A : Option Addr} {cs : List Value} {v : Value} (m : MdStep md .r md') (hA : Ag P t false) (hx : ev K x = some (.pointer (some (adr A j)))) (h : Rd w0 A cs) (hv : cs[j]? = some v)
    (hd : Nat.blt d n = true) (kk : V P ops Q md' rest n ((d, v) :: K) w0 G) : V P ops Q md (⟨some d, .load t x, ty, pos, af, none⟩ :: rest) n K w0 G :=
  V_read m rfl rfl hd (fun a w hk hw => by
    simp only [execOp]; rw [hk.eval hx]
    simp [run_loadAt1 hA (cell_below hw (h j v hv).2)]) kk

theorem bsize (l : List UInt8) : (ByteArray.mk l.toArray).size = l.length := rfl

theorem V_len {x : Operand} {t e : TypeId} {A : Option Addr} {l c : Nat} (m : MdStep md .p md') (hu : P.underlying t = some (.slice e)) (hx : ev K x = some (.slice A l c)) (hd : Nat.blt d n = true)
    (kk : V P ops Q md' rest n ((d, .int .i64 l) :: K) w0 G) : V P ops Q md (⟨some d, .call ⟨.builtin .len, #[x], #[t]⟩, ty, pos, af, none⟩ :: rest) n K w0 G :=
  V_pure m rfl rfl hd (fun a hk w => by
    simp only [execOp, resolve, List.map_toArray, List.map_cons, List.map_nil]; rw [hk.eval hx]
    simp [invoke, builtin, Builtin.len_, run_underlying hu, goInt]) kk
theorem V_slen {x : Operand} {t : TypeId} {p : List UInt8} (m : MdStep md .p md') (hu : P.underlying t = some .string) (hx : ev K x = some (.string ⟨p.toArray⟩)) (hd : Nat.blt d n = true)
    (kk : V P ops Q md' rest n ((d, .int .i64 p.length) :: K) w0 G) : V P ops Q md (⟨some d, .call ⟨.builtin .len, #[x], #[t]⟩, ty, pos, af, none⟩ :: rest) n K w0 G :=
  V_pure m rfl rfl hd (fun a hk w => by
    simp only [execOp, resolve, List.map_toArray, List.map_cons, List.map_nil]; rw [hk.eval hx]
    simp [invoke, builtin, Builtin.len_, run_underlying hu, goInt, bsize]) kk
theorem V_min {x y : Operand} {t u : TypeId} {p q : Int} {i : IntKind} (m : MdStep md .p md') (hx : ev K x = some (.int i p)) (hy : ev K y = some (.int i q)) (hd : Nat.blt d n = true)
    (kk : V P ops Q md' rest n ((d, .int i (min p q)) :: K) w0 G) : V P ops Q md (⟨some d, .call ⟨.builtin .min, #[x, y], #[t, u]⟩, ty, pos, af, none⟩ :: rest) n K w0 G :=
  V_pure m rfl rfl hd (fun a hk w => by
    simp only [execOp, resolve, List.map_toArray, List.map_cons, List.map_nil]; rw [hk.eval hx, hk.eval hy]
    have e : (if q < p then q else p) = min p q := by rw [Int.min_def]; split <;> split <;> omega
    simp [invoke, builtin, Builtin.min_, Builtin.min2, e]) kk
theorem V_max {x y : Operand} {t u : TypeId} {p q : Int} {i : IntKind} (m : MdStep md .p md') (hx : ev K x = some (.int i p)) (hy : ev K y = some (.int i q)) (hd : Nat.blt d n = true)
    (kk : V P ops Q md' rest n ((d, .int i (max p q)) :: K) w0 G) : V P ops Q md (⟨some d, .call ⟨.builtin .max, #[x, y], #[t, u]⟩, ty, pos, af, none⟩ :: rest) n K w0 G :=
  V_pure m rfl rfl hd (fun a hk w => by
    simp only [execOp, resolve, List.map_toArray, List.map_cons, List.map_nil]; rw [hk.eval hx, hk.eval hy]
    have e : (if q > p then q else p) = max p q := by rw [Int.max_def]; split <;> split <;> omega
    simp [invoke, builtin, Builtin.max_, Builtin.max2]
    omega) kk

theorem heap_new (w : World) (o : Obj) : (w.alloc o).heap[w.heap.size]? = some o := by
  show (w.heap.push o)[w.heap.size]? = some o
  simp

theorem V_box {x : Operand} {t : TypeId} {v : Value} {cs : List Value} (m : MdStep md .e md') (hx : ev K x = some v) (hc : v.cells = cs.toArray) (hd : Nat.blt d n = true) (hs : ∀ b, Keep md (.c b t cs :: G))
    (kk : ∀ b, V P ops Q md' rest n ((d, .pointer (some ⟨b, 0, none⟩)) :: K) w0 (.c b t cs :: G)) : V P ops Q md (⟨some d, .box t x, ty, pos, af, none⟩ :: rest) n K w0 G :=
  V_act (post := fun v G' => ∃ b, v = .pointer (some ⟨b, 0, none⟩) ∧ G' = .c b t cs :: G) m rfl (by simpa using hd)
    (fun a w hk hw => .inl ⟨_, w.alloc (.cells cs.toArray t), by simp only [execOp]; rw [hk.eval hx]; simp [Instr.box, newVar, newRow, hc],
      _, _, rfl, hw.alloc (x := .c w.heap.size t cs) rfl (heap_new w _), w.heap.size, rfl, rfl⟩)
    (by rintro v G' ⟨b, rfl, rfl⟩; exact hs b) (by rintro v G' ⟨b, rfl, rfl⟩; exact kk b)

theorem EF_alloc {t : TypeId} {z : Value} {cs : List Value} (hz : ∀ w, (zeroValue t).run P w = .ok z w) (hc : z.cells = cs.toArray) : EF P ⟨some d, .alloc t, ty, pos, af, none⟩ n K w0 G (fun v G' => ∃ b, v = .pointer (some ⟨b, 0, none⟩) ∧ G' = .c b t cs :: G) :=
    (fun a w hk hw => .inl ⟨_, w.alloc (.cells cs.toArray t), by simp only [execOp]; simp [Instr.alloc, hz w, newVar, newRow, hc],
      _, _, rfl, hw.alloc (x := .c w.heap.size t cs) rfl (heap_new w _), w.heap.size, rfl, rfl⟩)
theorem V_alloc {t : TypeId} {z : Value} {cs : List Value} (m : MdStep md .e md') (hz : ∀ w, (zeroValue t).run P w = .ok z w) (hc : z.cells = cs.toArray) (hd : Nat.blt d n = true) (hs : ∀ b, Keep md (.c b t cs :: G))
    (kk : ∀ b, V P ops Q md' rest n ((d, .pointer (some ⟨b, 0, none⟩)) :: K) w0 (.c b t cs :: G)) : V P ops Q md (⟨some d, .alloc t, ty, pos, af, none⟩ :: rest) n K w0 G :=
  V_act m rfl (by simpa using hd) (EF_alloc hz hc)
    (by rintro v G' ⟨b, rfl, rfl⟩; exact hs b) (by rintro v G' ⟨b, rfl, rfl⟩; exact kk b)
inductive SetAt : List Ent → Ent → Ent → List Ent → Prop where
  | z {x y : Ent} {r : List Ent} : SetAt (x :: r) x y (y :: r)
  | s {x y u : Ent} {r r' : List Ent} : SetAt r x y r' → SetAt (u :: r) x y (u :: r')

theorem SetAt.split {G G' : List Ent} {x y : Ent} (h : SetAt G x y G') : ∃ G1 G2, G = G1 ++ x :: G2 ∧ G' = G1 ++ y :: G2 := by
  induction h with
  | z => exact ⟨[], _, rfl, rfl⟩
  | s _ ih => obtain ⟨G1, G2, rfl, rfl⟩ := ih; exact ⟨_ :: G1, G2, rfl, rfl⟩

inductive LSet : List Value → Nat → Value → List Value → Prop where
  | z {x v : Value} {r : List Value} : LSet (x :: r) 0 v (v :: r)
  | s {x v : Value} {r r' : List Value} {i : Nat} : LSet r i v r' → LSet (x :: r) (i + 1) v (x :: r')

theorem LSet.eq {cs cs' : List Value} {i : Nat} {v : Value} (h : LSet cs i v cs') : cs.set i v = cs' ∧ i < cs.length := by
  induction h with
  | z => exact ⟨rfl, by simp⟩
  | s _ ih => exact ⟨by simp [ih.1], by simp; exact ih.2⟩

theorem heap_setCell_same (w : World) {b j t : Nat} {cs : List Value} (h : w.heap[b]? = some (.cells cs.toArray t (0, 0))) (v : Value) :
    (w.setCell ⟨b, j, none⟩ v).heap[b]? = some (.cells (cs.set j v).toArray t (0, 0)) := by
  simp [World.setCell, Array.getElem?_modify, h]

theorem run_storeAt1 {t : TypeId} (hz : Sz P t 1) {b j e : Nat} {cs : List Value} {v : Value} (hv : v.oneCell' = true) {w : World} (h : w.heap[b]? = some (.cells cs.toArray e (0, 0))) (hj : j < cs.length) :
    (Instr.storeAt t (.pointer (some ⟨b, j, none⟩)) v).run P w = .ok () (w.setCell ⟨b, j, none⟩ v) := by
  have hc : v.cells = #[v] := by cases v <;> simp_all [Value.oneCell', Value.cells]
  obtain ⟨u, hu⟩ : ∃ u, cs[j]? = some u := ⟨cs[j], by simp [hj]⟩
  have h1 := cell_of h hu
  have h2 : w.frozen? ⟨b, j, none⟩ = false := by simp [World.frozen?, h]
  simp [Instr.storeAt, Instr.sureAddr, storeVar, hz w, hc, storeCells, run_store P w _ v .plain hv, add_plain, h1, h2]

theorem V_st {x y : Operand} {t e b j : Nat} {cs cs' : List Value} {v : Value} {G' : List Ent} (m : MdStep md .w md') (hz : Sz P t 1) (hx : ev K x = some (.pointer (some ⟨b, j, none⟩))) (hy : ev K y = some v) (hv : v.oneCell' = true)
    (hm : SetAt G (.c b e cs) (.c b e cs') G') (hc : cs.set j v = cs') (hj : j < cs.length)
    (kk : V P ops Q md' rest n K w0 G') : V P ops Q md (⟨none, .store t x y, ty, pos, af, none⟩ :: rest) n K w0 G :=
  V_wild (post := fun _ G2 => G2 = G') m rfl rfl
    (fun a w hk hw => by
      obtain ⟨G1, G2, rfl, rfl⟩ := hm.split
      have h := hw.has (.c b e cs) (by simp)
      refine .inr (.inl ⟨w.setCell ⟨b, j, none⟩ v, by simp only [execOp]; rw [hk.eval hx, hk.eval hy]; simp [run_storeAt1 hz hv h hj], undef, _, rfl, ?_, rfl⟩)
      exact hw.write (x := .c b e cs) (y := .c b e cs') rfl rfl rfl rfl rfl (by simp [World.setCell]) (fun k hk => Below.heap_setCell _ _ _ _ hk) (by subst hc; exact heap_setCell_same w h v))
    (by rintro v G2 rfl; exact kk)

theorem V_stF {x y : Operand} {t e b j : Nat} {cs cs' : List Value} {v : Value} {G' : List Ent} (m : MdStep md .w md') (hz : Sz P t 1) (hx : ev K x = some (.pointer (some ⟨b, j, none⟩))) (hy : ev K y = some v) (hv : v.oneCell' = true)
    (hm : SetAt G (.c b e cs) (.c b e cs') G') (hl : LSet cs j v cs')
    (kk : V P ops Q md' rest n K w0 G') : V P ops Q md (⟨none, .store t x y, ty, pos, af, none⟩ :: rest) n K w0 G :=
  V_st m hz hx hy hv hm hl.eq.1 hl.eq.2 kk

inductive Evs (K : Slots) : List Operand → List Value → Prop where
  | nil : Evs K [] []
  | cons {x : Operand} {v : Value} {r : List Operand} {vs : List Value} : ev K x = some v → Evs K r vs → Evs K (x :: r) (v :: vs)

theorem Evs.eval {a : Act} (hk : Kn n K a) {l : List Operand} {vs : List Value} (h : Evs K l vs) : l.map a.eval = vs := by
  induction h with
  | nil => rfl
  | cons h _ ih => simp [hk.eval h, ih]

theorem Keep.app {G D : List Ent} (h : Keep md G) : Keep md (D ++ G) := by
  cases md with
  | none => trivial
  | some x => exact fun w0 w hw => h w0 w (hw.sublist (List.sublist_append_right _ _))

theorem V_call {f : FuncId} {as : List Operand} {vs : List Value} {ats : Array TypeId} {post : Value → List Ent → Prop} (m : MdStep md .e md') (hf : ∀ args w, (callFunc f args).run P w = .ok (.enter f args) w) (ha : Evs K as vs)
    (hc : ∀ w, St w0 G w → Calls P f vs.toArray w fun e w' => ∃ v D, e = .returned v ∧ St w D w' ∧ post v D) (hd : Nat.blt d n = true) (hs : Keep md G)
    (kk : ∀ v D, post v D → V P ops Q md' rest n ((d, v) :: K) w0 (D ++ G)) : V P ops Q md (⟨some d, .call ⟨.value (.func f), as.toArray, ats⟩, ty, pos, af, none⟩ :: rest) n K w0 G :=
  V_act (post := fun v G' => ∃ D, G' = D ++ G ∧ post v D) m rfl (by simpa using hd)
    (fun a w hk hw => .inr (.inr ⟨f, vs.toArray, w, by
        simp only [execOp, resolve, List.map_toArray, ha.eval hk]
        simp [Act.eval, Deferred.ofValue, invoke, hf], (hc w hw).mono fun e w' ⟨v, D, he, hD, hp⟩ => ⟨v, he, v, _, rfl, hw.trans hD, D, rfl, hp⟩⟩))
    (by rintro v G' ⟨D, rfl, _⟩; exact hs.app) (by rintro v G' ⟨D, rfl, hp⟩; exact kk v D hp)

theorem V_call0 {f : FuncId} {as : List Operand} {vs : List Value} {ats : Array TypeId} {v : Value} (m : MdStep md .e md') (hf : ∀ args w, (callFunc f args).run P w = .ok (.enter f args) w) (ha : Evs K as vs)
    (hc : ∀ w, St w0 G w → Calls P f vs.toArray w fun e w' => e = .returned v ∧ St w [] w') (hd : Nat.blt d n = true) (hs : Keep md G)
    (kk : V P ops Q md' rest n ((d, v) :: K) w0 G) : V P ops Q md (⟨some d, .call ⟨.value (.func f), as.toArray, ats⟩, ty, pos, af, none⟩ :: rest) n K w0 G :=
  V_call (post := fun u D => u = v ∧ D = []) m hf ha (fun w hw => (hc w hw).mono fun e w' ⟨he, hD⟩ => ⟨v, [], he, hD, rfl, rfl⟩) hd hs
    (by rintro u D ⟨rfl, rfl⟩; exact kk)

theorem V_callW {f : FuncId} {as : List Operand} {vs : List Value} {ats : Array TypeId} {post : Value → List Ent → Prop} (m : MdStep md .w md') (hf : ∀ args w, (callFunc f args).run P w = .ok (.enter f args) w) (ha : Evs K as vs)
    (hc : ∀ w, St w0 G w → Calls P f vs.toArray w fun e w' => ∃ v G', e = .returned v ∧ St w0 G' w' ∧ post v G') (hd : Nat.blt d n = true)
    (kk : ∀ v G', post v G' → V P ops Q md' rest n ((d, v) :: K) w0 G') : V P ops Q md (⟨some d, .call ⟨.value (.func f), as.toArray, ats⟩, ty, pos, af, none⟩ :: rest) n K w0 G :=
  V_wild (post := post) m rfl (by simpa using hd)
    (fun a w hk hw => .inr (.inr ⟨f, vs.toArray, w, by
        simp only [execOp, resolve, List.map_toArray, ha.eval hk]
        simp [Act.eval, Deferred.ofValue, invoke, hf], (hc w hw).mono fun e w' ⟨v, D, he, hD, hp⟩ => ⟨v, he, v, _, rfl, hD, hp⟩⟩))
    (by intro v G' hp; exact kk v G' hp)
theorem V_callC {f : FuncId} {x : Operand} {fs cap : Array Value} {as : List Operand} {vs : List Value} {ats : Array TypeId} {post : Value → List Ent → Prop} (m : MdStep md .w md') (hf : ∀ args w, (callFunc f args).run P w = .ok (.enter f args) w)
    (hx : ev K x = some (.func (.func f) fs cap)) (ha : Evs K as vs)
    (hc : ∀ w, St w0 G w → Calls P f (fs ++ vs.toArray ++ cap) w fun e w' => ∃ v G', e = .returned v ∧ St w0 G' w' ∧ post v G') (hd : Nat.blt d n = true)
    (kk : ∀ v G', post v G' → V P ops Q md' rest n ((d, v) :: K) w0 G') : V P ops Q md (⟨some d, .call ⟨.value x, as.toArray, ats⟩, ty, pos, af, none⟩ :: rest) n K w0 G :=
  V_wild (post := post) m rfl (by simpa using hd)
    (fun a w hk hw => .inr (.inr ⟨f, _, w, by
        simp only [execOp, resolve, List.map_toArray, ha.eval hk]; rw [hk.eval hx]
        simp [Deferred.ofValue, invoke, hf], (hc w hw).mono fun e w' ⟨v, D, he, hD, hp⟩ => ⟨v, he, v, _, rfl, hD, hp⟩⟩))
    (by intro v G' hp; exact kk v G' hp)

end Go.Proofs.YtgeahmmepfmcoaaDoor.L
