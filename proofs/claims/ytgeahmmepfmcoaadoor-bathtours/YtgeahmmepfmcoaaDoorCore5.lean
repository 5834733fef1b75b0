/- parts that the proof of BathTours uses -/
import Derived.Test.YtgeahmmepfmcoaaDoorCore4
namespace Go.Proofs.YtgeahmmepfmcoaaDoor.L
open Go Go.RowKit
set_option linter.unusedVariables false
set_option linter.unusedSimpArgs false

variable {P : Program} {Q : Exit → Act → World → Prop} {n : Nat} {K : Slots} {w0 : World} {G : List Ent}
variable {ops : Array Oper} {md md' : Md} {rest : List Oper} {d : Nat} {ty : TypeId} {pos : String} {af : Array Edge}

def Own (t : TypeId) (z : Nat) (v : Value) (len : Nat) (cs : List Value) (x : Ent) : Prop :=
  (∃ A, v = .slice A 0 0 ∧ len = 0 ∧ cs = []) ∨
  (∃ b off pre sp cap, v = .slice (some ⟨b, off, none⟩) len cap ∧ x = .c b t (pre ++ cs ++ sp) ∧ pre.length = off ∧ cs.length = len * z ∧ sp.length = (cap - len) * z ∧ len ≤ cap)

theorem Own.nil (t : TypeId) (z : Nat) (x : Ent) : Own t z (.slice none 0 0) 0 [] x := .inl ⟨none, rfl, rfl, rfl⟩
theorem Own.row {t z b len : Nat} {cs : List Value} (h : cs.length = len * z) : Own t z (.slice (some ⟨b, 0, none⟩) len len) len cs (.c b t cs) :=
  .inr ⟨b, 0, [], [], len, rfl, by simp, rfl, h, by simp, Nat.le_refl _⟩
theorem Own.is {t z len : Nat} {v : Value} {cs : List Value} {x : Ent} (h : Own t z v len cs x) : ∃ A cap, v = .slice A len cap ∧ len ≤ cap := by
  rcases h with ⟨A, rfl, rfl, rfl⟩ | ⟨b, off, pre, sp, cap, rfl, _, _, _, _, h⟩
  · exact ⟨A, 0, rfl, Nat.le_refl _⟩
  · exact ⟨_, cap, rfl, h⟩
theorem Own.len {t z len : Nat} {v : Value} {cs : List Value} {x : Ent} (h : Own t z v len cs x) : cs.length = len * z := by
  rcases h with ⟨A, rfl, rfl, rfl⟩ | ⟨b, off, pre, sp, cap, rfl, _, _, h, _, _⟩
  · simp
  · exact h
theorem Own.rd {t z len : Nat} {A : Option Addr} {l c : Nat} {cs : List Value} {x : Ent} (h : Own t z (.slice A l c) len cs x) {w : World} (hx : x.ok w) : Rd w A cs := by
  rcases h with ⟨A', e, rfl, rfl⟩ | ⟨b, off, pre, sp, cap, e, rfl, hp, hl, _, _⟩
  · intro j v hv; simp at hv
  · cases e
    intro j v hv
    refine ⟨⟨b, off, rfl⟩, ?_⟩
    simp only [adr]
    refine cell_of hx ?_
    have hj := (List.getElem?_eq_some_iff.1 hv).1
    rw [List.append_assoc, List.getElem?_append_right (by omega), hp, Nat.add_sub_cancel_left, List.getElem?_append_left hj]
    exact hv

theorem zeroCells_size (z : Array Value) (k : Nat) : (Builtin.zeroCells z k).toList.length = k * z.size := by simp [Builtin.zeroCells]

theorem growBy_le (need : Nat) : ∀ (r c : Nat), c < need → Builtin.growBy need r c ≤ 2 * need + 768
  | 0, c, h => by simp [Builtin.growBy]; omega
  | r + 1, c, h => by
    simp only [Builtin.growBy]
    split
    · omega
    · by_cases h2 : c + (c + 768) / 4 < need
      · exact growBy_le need r _ h2
      · cases r with
        | zero => simp only [Builtin.growBy]; omega
        | succ r =>
          simp only [Builtin.growBy]
          rw [if_pos (by omega)]; omega

theorem nextslicecap_le {need cap : Nat} (h : cap < need) : Builtin.nextslicecap need cap ≤ 2 * need + 768 := by
  unfold Builtin.nextslicecap
  split
  · omega
  · split
    · omega
    · exact growBy_le need 4 cap h

def over (cs : List Value) (off : Nat) (vs : List Value) : List Value := cs.take off ++ vs ++ cs.drop (off + vs.length)

theorem over_set {cs vs : List Value} {k : Nat} {v : Value} (h : k < cs.length) : over (cs.set k v) (k + 1) vs = over cs k (v :: vs) := by
  unfold over
  have e1 : (cs.set k v).take (k + 1) = cs.take k ++ [v] := by
    rw [List.take_succ_eq_append_getElem (by simpa using h)]
    simp [List.take_set_of_le]
  have e2 : (cs.set k v).drop (k + 1 + vs.length) = cs.drop (k + (vs.length + 1)) := by
    rw [List.drop_set_of_lt (by omega)]
    congr 1; omega
  rw [e1, e2]; simp

theorem storeCells_run {P : Program} {b t : Nat} : ∀ (vs : List Value) (off i : Nat) (cs : List Value) (w : World), w.heap[b]? = some (.cells cs.toArray t (0, 0)) → (∀ v ∈ vs, v.oneCell' = true) → off + i + vs.length ≤ cs.length →
    ∃ w', (storeCells ⟨b, off, none⟩ vs i).run P w = .ok () w' ∧ w'.os = w.os ∧ w'.tape = w.tape ∧ w'.output = w.output ∧ w'.heap.size = w.heap.size ∧ (∀ k, k ≠ b → w'.heap[k]? = w.heap[k]?) ∧
      w'.heap[b]? = some (.cells (over cs (off + i) vs).toArray t (0, 0))
  | [], off, i, cs, w, h, _, _ => ⟨w, by simp [storeCells], rfl, rfl, rfl, rfl, fun _ _ => rfl, by rw [h]; simp [over]⟩
  | v :: vs, off, i, cs, w, h, hv, hl => by
    have hlt : off + i < cs.length := by simp at hl; omega
    obtain ⟨u, hu⟩ : ∃ u, cs[off + i]? = some u := ⟨cs[off + i], by simp [hlt]⟩
    have h1 := cell_of h hu
    have h2 : w.frozen? ⟨b, off + i, none⟩ = false := by simp [World.frozen?, h]
    have h3 := heap_setCell_same w (j := off + i) h v
    obtain ⟨w', hr, a1, a2, a3, a4, a5, a6⟩ := storeCells_run (P := P) vs off (i + 1) _ _ h3 (fun v hv' => hv v (by simp [hv'])) (by simp at hl ⊢; omega)
    refine ⟨w', ?_, a1, a2, a3, by rw [a4]; simp [World.setCell], fun k hk => by rw [a5 k hk]; exact Below.heap_setCell _ _ _ _ hk, ?_⟩
    · simp only [storeCells]
      simp [run_store P w _ v .plain (hv v (by simp)), add_plain, h1, h2, hr]
    · rw [a6]
      congr 3
      rw [show off + (i + 1) = (off + i) + 1 by omega]
      exact over_set hlt

theorem run_sizeOf {t : TypeId} {i : TypeInfo} (hi : ∀ w, (typeInfo t).run P w = .ok i w) (w : World) : (sizeOf t).run P w = .ok i.size w := by simp [sizeOf, hi w]

theorem loadCells_run {w : World} {A : Option Addr} {cs : List Value} {k : Nat} (h : Rd w A cs) (hk : k = cs.length) (a : Addr) (ha : A = some a) : (loadCells a k).run P w = .ok cs.toArray w := by
  subst hk
  have := loadCellsFrom_run (P := P) (w := w) (a := a) cs 0 #[] (by
    intro j v hj
    obtain ⟨⟨b, o, e⟩, hc⟩ := h j v hj
    rw [ha] at e; cases e
    rw [Nat.zero_add, add_plain]
    rw [ha] at hc
    exact hc)
  simpa [loadCells] using this

theorem firstCells_run {w : World} {A : Option Addr} {l c z : Nat} {cs : List Value} (h : Rd w A cs) (hz : l * z = cs.length) (hn : A = none → cs = []) : (Builtin.firstCells z l (.slice A l c)).run P w = .ok cs.toArray w := by
  cases A with
  | none => simp [Builtin.firstCells, hn rfl]
  | some a => simp only [Builtin.firstCells]; exact loadCells_run h hz a rfl

theorem rd_none {w : World} {cs : List Value} (h : Rd w none cs) : cs = [] := by
  cases cs with
  | nil => rfl
  | cons v _ => obtain ⟨⟨b, o, e⟩, _⟩ := h 0 v rfl; cases e

theorem append_run {s t z len m : Nat} {v : Value} {cs ms : List Value} {x : Ent} {A2 : Option Addr} {c2 s2 : Nat} {i : TypeInfo} {zv : Value} {G1 G2 : List Ent} {w : World} {tr e2 : TypeId}
    (hu : P.underlying s = some (.slice t)) (hu2 : P.underlying s2 = some (.slice e2)) (hi : ∀ w, (typeInfo t).run P w = .ok i w) (hz : i.size = z) (hb0 : Nat.beq i.bytes 0 = false) (hb1 : Nat.ble i.bytes 4096 = true) (hzv : i.zero = some zv) (hzs : zv.cells.size = z)
    (hw : St w0 (G1 ++ x :: G2) w) (ho : Own t z v len cs x) (hr : Rd w A2 ms) (hms : ms.length = m * z) (hone : ∀ u ∈ ms, u.oneCell' = true) (hlim : len + m ≤ 16777216) :
    ∃ v' x' w', (Builtin.append_ #[s, s2] tr #[v, .slice A2 m c2]).run P w = .ok v' w' ∧ Own t z v' (len + m) (cs ++ ms) x' ∧ St w0 (G1 ++ x' :: G2) w' := by
  have hx : x.ok w := hw.has x (by simp)
  obtain ⟨A, cap, rfl, hlc⟩ := ho.is
  have hb0' : i.bytes ≠ 0 := fun e => by rw [e] at hb0; simp at hb0
  have hb1' : i.bytes ≤ 4096 := Nat.le_of_ble_eq_true hb1
  have hcs := ho.rd hx
  have hf2 : (Builtin.firstCells z m (.slice A2 m c2)).run P w = .ok ms.toArray w := firstCells_run hr hms.symm (fun e => rd_none (e ▸ hr))
  have hlen := ho.len
  have hf1 : ∀ w1, Rd w1 A cs → (Builtin.firstCells z len (.slice A len cap)).run P w1 = .ok cs.toArray w1 := fun w1 h => firstCells_run h hlen.symm (fun e => rd_none (e ▸ h))
  have hzeros : (match (TypeDesc.slice e2 : TypeDesc) with | .int _ => true | _ => false) = false := rfl
  by_cases hfit : len + m ≤ cap
  · -- in place
    by_cases hm0 : ms = []
    · -- nothing is stored
      subst hm0
      have hstore : ∀ a : Addr, (storeCells a [] : Sem Unit).run P w = .ok () w := fun a => by simp [storeCells]
      refine ⟨.slice A (len + m) cap, x, w, ?_, ?_, hw⟩
      · simp only [Builtin.append_]
        simp [run_underlying hu, run_underlying hu2, run_sizeOf hi, hz, Builtin.lenOf, hfit, hf2]
        cases A <;> simp [storeCells]
      · have hmz : m * z = 0 := by simpa using hms.symm
        rcases ho with ⟨A', e, rfl, rfl⟩ | ⟨b, off, pre, sp, cap', e, rfl, hp, hl, hs, hc⟩
        · cases e
          have : m = 0 := by omega
          subst this
          exact .inl ⟨A, rfl, rfl, rfl⟩
        · cases e
          refine .inr ⟨b, off, pre, sp, cap, rfl, by simp, hp, by rw [List.append_nil, hl, Nat.add_mul]; omega, ?_, by omega⟩
          rw [hs, show cap - len = (cap - (len + m)) + m by omega, Nat.add_mul]; omega
    · rcases ho with ⟨A', e, rfl, rfl⟩ | ⟨b, off, pre, sp, cap', e, rfl, hp, hl, hs, hc⟩
      · cases e
        have : m = 0 := by omega
        subst this
        simp at hms; exact (hm0 hms).elim
      · cases e
        have hspm : ms.length ≤ sp.length := by rw [hms, hs]; exact Nat.mul_le_mul_right _ (by omega)
        obtain ⟨w', hr', a1, a2, a3, a4, a5, a6⟩ := storeCells_run (P := P) ms (off + len * z) 0 (pre ++ cs ++ sp) w hx hone (by simp; omega)
        have hov : over (pre ++ cs ++ sp) (off + len * z + 0) ms = pre ++ (cs ++ ms) ++ sp.drop ms.length := by
          unfold over
          have e1 : (pre ++ cs ++ sp).take (off + len * z + 0) = pre ++ cs := by
            rw [List.take_append_of_le_length (by simp; omega), List.take_of_length_le (by simp; omega)]
          have e2 : (pre ++ cs ++ sp).drop (off + len * z + 0 + ms.length) = sp.drop ms.length := by
            rw [show off + len * z + 0 + ms.length = (pre ++ cs).length + ms.length by simp; omega, List.drop_append]
            simp
          rw [e1, e2]; simp [List.append_assoc]
        rw [hov] at a6
        refine ⟨.slice (some ⟨b, off, none⟩) (len + m) cap, .c b t (pre ++ (cs ++ ms) ++ sp.drop ms.length), w', ?_, ?_, ?_⟩
        · simp only [Builtin.append_]
          simp [run_underlying hu, run_underlying hu2, run_sizeOf hi, hz, Builtin.lenOf, hfit, hf2, add_plain, hr']
        · refine .inr ⟨b, off, pre, sp.drop ms.length, cap, rfl, rfl, hp, by rw [List.length_append, hl, hms, Nat.add_mul], ?_, by omega⟩
          rw [List.length_drop, hs, hms, ← Nat.sub_mul]
          congr 1; omega
        · exact hw.write (x := .c b t (pre ++ cs ++ sp)) (y := .c b t (pre ++ (cs ++ ms) ++ sp.drop ms.length)) rfl rfl a1 a2 a3 a4 a5 a6
  · -- a new row
    have hcap : cap < len + m := by omega
    have hns := nextslicecap_le hcap
    have hnb : ¬ 281474976710656 < Builtin.nextslicecap (len + m) cap * i.bytes := by
      have : Builtin.nextslicecap (len + m) cap * i.bytes ≤ (2 * 16777216 + 768) * 4096 := Nat.mul_le_mul (by omega) hb1'
      omega
    have hw1 : St w0 (G1 ++ x :: G2) w.drew := hw.drewN _
    generalize hC : (Question.appendCap (len + m) cap t).cut (w.tape w.drawn (.appendCap (len + m) cap t)) = C
    have hCge : len + m ≤ C := by rw [← hC]; simp [Question.cut]
    have hcs1 : Rd w.drew A cs := ho.rd (hw1.has x (by simp))
    have hr1 : Rd w.drew A2 ms := fun j u hj => hr j u hj
    have hf2' : (Builtin.firstCells z m (.slice A2 m c2)).run P w.drew = .ok ms.toArray w.drew := firstCells_run hr1 hms.symm (fun e => rd_none (e ▸ hr1))
    let row := cs ++ ms ++ (Builtin.zeroCells zv.cells (C - (len + m))).toList
    refine ⟨.slice (some ⟨w.heap.size, 0, none⟩) (len + m) C, .c w.heap.size t row, w.drew.alloc (.cells row.toArray t), ?_, ?_, ?_⟩
    · simp only [Builtin.append_]
      simp [run_underlying hu, run_underlying hu2, run_sizeOf hi, hi, hz, Builtin.lenOf, hfit, hb0', Question.forced]
      rw [if_neg hnb]
      simp [hC, hf1 w.drew hcs1, hf2', zeroValue, hi, hzv, newRow, row]
      congr 2
      refine Array.toList_inj.1 ?_
      simp
    · refine .inr ⟨w.heap.size, 0, [], (Builtin.zeroCells zv.cells (C - (len + m))).toList, C, rfl, by simp [row], rfl, by rw [List.length_append, hlen, hms, Nat.add_mul], by rw [zeroCells_size, hzs], hCge⟩
    · have h1 : St w0 (.c w.heap.size t row :: (G1 ++ x :: G2)) (w.drew.alloc (.cells row.toArray t)) := hw1.alloc rfl (heap_new w.drew _)
      have h2 : St w0 (.c w.heap.size t row :: (G1 ++ G2)) (w.drew.alloc (.cells row.toArray t)) := h1.sublist (by simp)
      exact h2.perm (List.perm_middle)

theorem V_app {x y : Operand} {s t z len m s2 e2 : Nat} {v : Value} {cs ms : List Value} {X : Ent} {A2 : Option Addr} {c2 : Nat} {i : TypeInfo} {zv : Value} {G1 G2 : List Ent} (mm : MdStep md .w md')
    (hu : P.underlying s = some (.slice t)) (hu2 : P.underlying s2 = some (.slice e2)) (hi : ∀ w, (typeInfo t).run P w = .ok i w) (hz : i.size = z) (hb0 : Nat.beq i.bytes 0 = false) (hb1 : Nat.ble i.bytes 4096 = true) (hzv : i.zero = some zv) (hzs : zv.cells.size = z)
    (hx : ev K x = some v) (hy : ev K y = some (.slice A2 m c2)) (hG : G = G1 ++ X :: G2) (ho : Own t z v len cs X) (hr : ∀ w, St w0 G w → Rd w A2 ms) (hms : ms.length = m * z) (hone : ∀ u ∈ ms, u.oneCell' = true) (hlim : len + m ≤ 16777216) (hd : Nat.blt d n = true)
    (kk : ∀ v' X', Own t z v' (len + m) (cs ++ ms) X' → V P ops Q md' rest n ((d, v') :: K) w0 (G1 ++ X' :: G2)) : V P ops Q md (⟨some d, .call ⟨.builtin .append, #[x, y], #[s, s2]⟩, ty, pos, af, none⟩ :: rest) n K w0 G :=
  V_wild (post := fun v' G' => ∃ X', Own t z v' (len + m) (cs ++ ms) X' ∧ G' = G1 ++ X' :: G2) mm rfl (by simpa using hd)
    (fun a w hk hw => by
      subst hG
      obtain ⟨v', X', w', hrun, ho', hw'⟩ := append_run (tr := ty) (c2 := c2) hu hu2 hi hz hb0 hb1 hzv hzs hw ho (hr w hw) hms hone hlim
      refine .inl ⟨v', w', ?_, v', _, rfl, hw', X', ho', rfl⟩
      simp only [execOp, resolve, List.map_toArray, List.map_cons, List.map_nil]; rw [hk.eval hx, hk.eval hy]
      simp [invoke, builtin, hrun])
    (by rintro v' G' ⟨X', ho', rfl⟩; exact kk v' X' ho')

inductive Parts (K : Slots) (z : Nat) : Nat → List (Nat × Operand) → List Value → Prop where
  | nil {i : Nat} : Parts K z i [] []
  | cons {i : Nat} {x : Operand} {v : Value} {us cs : List Value} {r : List (Nat × Operand)} : ev K x = some v → v.cells = us.toArray → us.length = z → Parts K z (i + 1) r cs → Parts K z i ((i, x) :: r) (us ++ cs)

theorem foldl_put (us : List Value) : ∀ (off : Nat) (cs : List Value) (j0 : Nat), off + j0 + us.length ≤ cs.length →
    (us.zipIdx j0).foldl (fun (c : Array Value) (x : Value × Nat) => c.setIfInBounds (off + x.2) x.1) cs.toArray = (over cs (off + j0) us).toArray := by
  induction us with
  | nil => intro off cs j0 h; simp [over]
  | cons u us ih =>
    intro off cs j0 h
    simp only [List.zipIdx_cons, List.foldl_cons, List.setIfInBounds_toArray]
    rw [ih off _ (j0 + 1) (by simp at h ⊢; omega)]
    congr 1
    rw [show off + (j0 + 1) = off + j0 + 1 by omega]
    exact over_set (by simp at h; omega)

theorem fill_parts {a : Act} (hk : Kn n K a) {z : Nat} : ∀ {i : Nat} {ps : List (Nat × Operand)} {cs : List Value}, Parts K z i ps cs → ∀ (pre suf : List Value), pre.length = i * z → suf.length = cs.length →
    Instr.fill (fun i => some (i * z, z)) (pre ++ suf).toArray (ps.map fun (i, x) => (i, a.eval x)) = some (pre ++ cs).toArray
  | _, _, _, .nil, pre, suf, hp, hs => by
    have : suf = [] := List.length_eq_zero_iff.1 (by simpa using hs)
    simp [Instr.fill, this]
  | i, _, _, .cons (x := x) (v := v) (us := us) (cs := cs) (r := r) hx hv hu hr, pre, suf, hp, hs => by
    have hs' : suf.length = us.length + cs.length := by simpa using hs
    simp only [List.map_cons, Instr.fill, hk.eval hx, hv]
    have c1 : ¬ (us.toArray.size ≠ z ∨ i * z + us.toArray.size > (pre ++ suf).toArray.size) := by simp [hu]; omega
    have c2 : (decide (us.toArray.size ≠ z) || decide (i * z + us.toArray.size > (pre ++ suf).toArray.size)) = false := by simp [hu]; omega
    rw [if_neg (by simpa using c1)]
    have hz := foldl_put us (i * z) (pre ++ suf) 0 (by simp [hp]; omega)
    have e : over (pre ++ suf) (i * z + 0) us = (pre ++ us) ++ suf.drop us.length := by
      unfold over
      rw [Nat.add_zero, ← hp, List.take_left' rfl, List.drop_append, List.drop_of_length_le (by omega)]
      simp
    rw [e] at hz
    have ih := fill_parts hk hr (pre ++ us) (suf.drop us.length) (by simp [hp, hu, Nat.add_mul]) (by simp; omega)
    rw [show (pre ++ (us ++ cs)) = pre ++ us ++ cs by simp, ← ih]
    congr 1
    rw [← hz, ← Array.foldl_toList]
    simp

theorem EF_lit {s t z len : Nat} {ps : List (Nat × Operand)} {cs : List Value} {zv : Value} (hu : P.underlying s = some (.slice t)) (hz : Sz P t z) (hzv : ∀ w, (zeroValue t).run P w = .ok zv w)
    (hp : Parts K z 0 ps cs) (hl : cs.length = len * z) (hlim : Nat.ble (len * z) 16777216 = true) : EF P ⟨some d, .buildSlice s len ps.toArray, ty, pos, af, none⟩ n K w0 G (fun v G' => ∃ b, v = .slice (some ⟨b, 0, none⟩) len len ∧ G' = .c b t cs :: G) :=
    (fun a w hk hw => by
      have hlim' : ¬ 16777216 < len * z := by have := Nat.le_of_ble_eq_true hlim; omega
      refine .inl ⟨_, w.alloc (.cells cs.toArray t), ?_, _, _, rfl, hw.alloc (x := .c w.heap.size t cs) rfl (heap_new w _), w.heap.size, rfl, rfl⟩
      simp only [execOp, Instr.buildSlice]
      by_cases h0 : len * z = 0
      · have hcs : cs = [] := List.length_eq_zero_iff.1 (by omega)
        have hf := fill_parts hk hp [] [] (by simp) (by simp [hcs])
        simp only [List.nil_append, hcs] at hf
        have e : (Array.map (fun x : Nat => (#[] : Array Value)[x % (#[] : Array Value).size]!) (Array.range (len * z))) = #[] := by simp [h0]
        have e2 : Array.range 0 = #[] := by simp
        simp [run_underlying hu, hz w, h0, newRow, hcs, -Array.map_map, e2]
        rw [hf]
        simp
      · have hf := fill_parts hk hp [] ((Array.range (len * z)).map (zv.cells[· % zv.cells.size]!)).toList (by simp) (by simp [hl])
        simp only [List.nil_append] at hf
        simp [run_underlying hu, hz w, h0, hlim', hzv w, newRow]
        have e3 : Array.map (fun x => zv.cells[x % zv.cells.size]!) (Array.range (len * z)) = (List.map (fun x => zv.cells[x % zv.cells.size]!) (List.range (len * z))).toArray := by refine Array.toList_inj.1 ?_; simp
        simp at hf
        rw [e3, hf]
        simp)
theorem V_lit {s t z len : Nat} {ps : List (Nat × Operand)} {cs : List Value} {zv : Value} (m : MdStep md .e md') (hu : P.underlying s = some (.slice t)) (hz : Sz P t z) (hzv : ∀ w, (zeroValue t).run P w = .ok zv w)
    (hp : Parts K z 0 ps cs) (hl : cs.length = len * z) (hlim : Nat.ble (len * z) 16777216 = true) (hd : Nat.blt d n = true) (hs : ∀ b, Keep md (.c b t cs :: G))
    (kk : ∀ b, V P ops Q md' rest n ((d, .slice (some ⟨b, 0, none⟩) len len) :: K) w0 (.c b t cs :: G)) : V P ops Q md (⟨some d, .buildSlice s len ps.toArray, ty, pos, af, none⟩ :: rest) n K w0 G :=
  V_act m rfl (by simpa using hd) (EF_lit hu hz hzv hp hl hlim)
    (by rintro v G' ⟨b, rfl, rfl⟩; exact hs b) (by rintro v G' ⟨b, rfl, rfl⟩; exact kk b)
theorem V_litU {s t z len : Nat} {ps : List (Nat × Operand)} {cs : List Value} {zv : Value} (m : MdStep md (.u fun v D => ∃ b, v = .slice (some ⟨b, 0, none⟩) len len ∧ D = [.c b t cs]) md') (hu : P.underlying s = some (.slice t)) (hz : Sz P t z) (hzv : ∀ w, (zeroValue t).run P w = .ok zv w)
    (hp : Parts K z 0 ps cs) (hl : cs.length = len * z) (hlim : Nat.ble (len * z) 16777216 = true) (hd : Nat.blt d n = true) (hs : Keep md G)
    (kk : ∀ b, V P ops Q md' rest n ((d, .slice (some ⟨b, 0, none⟩) len len) :: K) w0 (.c b t cs :: G)) : V P ops Q md (⟨some d, .buildSlice s len ps.toArray, ty, pos, af, none⟩ :: rest) n K w0 G :=
  V_beside m rfl (by simpa using hd) (fun G0 _ => (EF_lit hu hz hzv hp hl hlim).mono fun v G' ⟨b, h1, h2⟩ => ⟨[.c b t cs], h2, b, h1, rfl⟩) hs
    (by rintro v D ⟨b, rfl, rfl⟩; exact kk b)

theorem EF_make {x y : Operand} {s t z : Nat} {k : Int} {ki kj : IntKind} {i : TypeInfo} {zv : Value} (hu : P.underlying s = some (.slice t)) (hi : ∀ w, (typeInfo t).run P w = .ok i w) (hz : i.size = z) (hb : Nat.ble i.bytes 4096 = true) (hzv : i.zero = some zv)
    (hx : ev K x = some (.int ki k)) (hy : ev K y = some (.int kj k)) (h0 : 0 ≤ k) (h1 : k ≤ 16777216) : EF P ⟨some d, .makeSlice s x y, ty, pos, af, none⟩ n K w0 G (fun v G' => ∃ b, v = .slice (some ⟨b, 0, none⟩) k.toNat k.toNat ∧ G' = .c b t ((List.range (k.toNat * z)).map (zv.cells[· % zv.cells.size]!)) :: G) :=
    (fun a w hk hw => by
      have hb' := Nat.le_of_ble_eq_true hb
      have hw64 : IntKind.i64.wrap k = k := by simp [IntKind.wrap, IntKind.bits, IntKind.signed]; omega
      have hprod : (i.bytes : Int) * k ≤ 4096 * 16777216 := Int.mul_le_mul (by omega) h1 h0 (by omega)
      have c1 : ¬ (i.bytes : Int) * k > 2 ^ 48 := by simp; omega
      refine .inl ⟨_, w.alloc (.cells ((List.range (k.toNat * z)).map (zv.cells[· % zv.cells.size]!)).toArray t), ?_, _, _, rfl, hw.alloc (x := .c w.heap.size t _) rfl (heap_new w _), w.heap.size, rfl, rfl⟩
      simp only [execOp]; rw [hk.eval hx, hk.eval hy]
      have hneg : ¬ k < 0 := by omega
      have hc2 : ¬ 281474976710656 < (i.bytes : Int) * k := by omega
      by_cases hn : k.toNat * z = 0
      · simp [Instr.makeSlice, run_underlying hu, asInt, asIntOf, hi w, hw64, hneg, hc2, hz, run_sizeOf hi, hn, newRow]
        congr 2
        refine Array.toList_inj.1 ?_
        simp
      · simp [Instr.makeSlice, run_underlying hu, asInt, asIntOf, hi w, hw64, hneg, hc2, hz, run_sizeOf hi, hn, newRow, zeroValue, hzv]
        congr 2
        refine Array.toList_inj.1 ?_
        simp)
theorem V_make {x y : Operand} {s t z : Nat} {k : Int} {ki kj : IntKind} {i : TypeInfo} {zv : Value} (m : MdStep md .e md') (hu : P.underlying s = some (.slice t)) (hi : ∀ w, (typeInfo t).run P w = .ok i w) (hz : i.size = z) (hb : Nat.ble i.bytes 4096 = true) (hzv : i.zero = some zv)
    (hx : ev K x = some (.int ki k)) (hy : ev K y = some (.int kj k)) (h0 : 0 ≤ k) (h1 : k ≤ 16777216) (hd : Nat.blt d n = true)
    (hs : ∀ b, Keep md (.c b t ((List.range (k.toNat * z)).map (zv.cells[· % zv.cells.size]!)) :: G))
    (kk : ∀ b, V P ops Q md' rest n ((d, .slice (some ⟨b, 0, none⟩) k.toNat k.toNat) :: K) w0 (.c b t ((List.range (k.toNat * z)).map (zv.cells[· % zv.cells.size]!)) :: G)) : V P ops Q md (⟨some d, .makeSlice s x y, ty, pos, af, none⟩ :: rest) n K w0 G :=
  V_act m rfl (by simpa using hd) (EF_make hu hi hz hb hzv hx hy h0 h1)
    (by rintro v G' ⟨b, rfl, rfl⟩; exact hs b) (by rintro v G' ⟨b, rfl, rfl⟩; exact kk b)
end Go.Proofs.YtgeahmmepfmcoaaDoor.L
