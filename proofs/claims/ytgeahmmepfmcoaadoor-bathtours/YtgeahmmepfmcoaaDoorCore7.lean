/- parts that the proof of BathTours uses -/
import Derived.Test.YtgeahmmepfmcoaaDoorDraw2
namespace Go.Proofs.YtgeahmmepfmcoaaDoor.L
open Go Go.RowKit
set_option linter.unusedVariables false
set_option linter.unusedSimpArgs false

variable {P : Program} {Q : Exit → Act → World → Prop} {n : Nat} {K : Slots} {w0 : World} {G : List Ent}
variable {ops : Array Oper} {md md' : Md} {rest : List Oper} {d : Nat} {ty : TypeId} {pos : String} {af : Array Edge}

inductive RV (P : Program) (K : Slots) (G : List Ent) : List ResultVar → List Value → Prop where
  | nil : RV P K G [] []
  | t {t : Nat} {v : Value} {rs : List ResultVar} {vs : List Value} : lk K t = some v → RV P K G rs vs → RV P K G (.tmp t :: rs) (v :: vs)
  | c {t b e T k : Nat} {cs : List Value} {rs : List ResultVar} {vs : List Value} : lk K t = some (.pointer (some ⟨b, 0, none⟩)) → Ag P T true → Sz P T k → Ent.c b e cs ∈ G → cs.length = k → RV P K G rs vs → RV P K G (.cell t T :: rs) (.agg cs.toArray :: vs)

def packV (vs : List Value) : Value := match vs with | [v] => v | _ => .tuple vs.toArray

def rvOf (tmps : Array Value) : ResultVar → Sem Value
  | .tmp x => pure (tmps.getD x undef)
  | .cell x u => do loadVar u (← asAddr (tmps.getD x undef))

theorem RV.run {a : Act} {w : World} (hk : Kn n K a) (hw : St w0 G w) : ∀ {rs : List ResultVar} {vs : List Value}, RV P K G rs vs → ((rs.mapM (rvOf a.tmps) : Sem (List Value))).run P w = .ok vs w
  | _, _, .nil => rfl
  | _, _, .t h r => by
    rw [List.mapM_cons]
    simp only [Sem.run_bind, Sem.run_pure, rvOf, Result.andThen_ok]
    rw [RV.run hk hw r]
    simp [Array.getD_eq_getD_getElem?, hk.val _ _ h]
  | _, _, .c (t := t1) (b := b) (T := T) (cs := cs) h hA hz hm hl r => by
    have e : a.tmps.getD t1 undef = .pointer (some ⟨b, 0, none⟩) := by simp [Array.getD_eq_getD_getElem?, hk.val _ _ h]
    have hload := run_loadAtN (w := w) hA hz (a := ⟨b, 0, none⟩) hl (by
      intro j v hj
      rw [add_plain, Nat.zero_add]
      exact cell_of (hw.has _ hm) hj)
    simp only [Instr.loadAt, Instr.sureAddr, pure_bind] at hload
    rw [List.mapM_cons]
    simp only [rvOf, Sem.run_bind, e, asAddr, Sem.run_pure, Result.andThen_ok, hload, RV.run hk hw r]

theorem results_run {fn : Func} {rs : List ResultVar} (hr : fn.results = rs.toArray) {a : Act} {w : World} (hk : Kn n K a) (hw : St w0 G w) {vs : List Value} (h : RV P K G rs vs) : (results fn a.tmps).run P w = .ok (packV vs) w := by
  have e0 : results fn a.tmps = (do let vs ← fn.results.mapM (rvOf a.tmps); pure (if h : vs.size = 1 then vs[0] else .tuple vs)) := by
    unfold results rvOf
    rfl
  rw [e0, hr]
  have e : (rs.toArray.mapM (rvOf a.tmps)) = List.toArray <$> (rs.mapM (rvOf a.tmps)) := by rw [List.mapM_toArray]
  simp only [Sem.run_bind]
  rw [e]
  simp only [Sem.run_map, RV.run hk hw h, Result.andThen_ok]
  match vs with
  | [] => rfl
  | [v] => rfl
  | u :: v :: vs => simp [packV]

theorem E_rets {fn : Func} {R : Ending → World → Prop} {rs : List ResultVar} {vs : List Value} {v : Value} (hr : fn.results = rs.toArray) (h : RV P K G rs vs) (hv : packV vs = v) (hR : ∀ w, St w0 G w → R (.returned v) w) : E (bodyPost P fn R) .ret n K w0 G := by
  intro a w hk hg
  subst hv
  exact ⟨hk.defers, _, results_run hr hk hg h, hR w hg⟩

theorem V_ixA {x y : Operand} {t e z L b o : Nat} {i : Int} {k : IntKind} (m : MdStep md .p md') (hu : P.underlying t = some (.array L e)) (hz : Sz P e z) (hx : ev K x = some (.pointer (some ⟨b, o, none⟩))) (hy : ev K y = some (.int k i))
    (h0 : 0 ≤ i) (h1 : i < L) (hd : Nat.blt d n = true) (kk : V P ops Q md' rest n ((d, .pointer (some ⟨b, o + i.toNat * z, none⟩)) :: K) w0 G) : V P ops Q md (⟨some d, .indexAddr t x y, ty, pos, af, none⟩ :: rest) n K w0 G :=
  V_pure m rfl rfl hd (fun a hk w => by
    simp only [execOp]; rw [hk.eval hx, hk.eval hy]
    simp [Instr.indexAt, asIntOf, run_underlying hu, Instr.sureAddr, h0, h1, hz w, add_plain]) kk

theorem V_stN {x y : Operand} {t e b k : Nat} {cs us : List Value} {v : Value} {G' : List Ent} (m : MdStep md .w md') (hz : Sz P t k) (hx : ev K x = some (.pointer (some ⟨b, 0, none⟩))) (hy : ev K y = some v) (hv : v.cells = us.toArray) (h1 : ∀ u ∈ us, u.oneCell' = true)
    (hm : SetAt G (.c b e cs) (.c b e us) G') (hl : us.length = k) (hl2 : cs.length = k)
    (kk : V P ops Q md' rest n K w0 G') : V P ops Q md (⟨none, .store t x y, ty, pos, af, none⟩ :: rest) n K w0 G :=
  V_wild (post := fun _ G2 => G2 = G') m rfl rfl
    (fun a w hk hw => by
      obtain ⟨G1, G2, rfl, rfl⟩ := hm.split
      have h := hw.has (.c b e cs) (by simp)
      obtain ⟨w', hr, a1, a2, a3, a4, a5, a6⟩ := storeCells_run (P := P) us 0 0 cs w h h1 (by omega)
      have e : over cs (0 + 0) us = us := by unfold over; simp; omega
      rw [e] at a6
      refine .inr (.inl ⟨w', ?_, undef, _, rfl, hw.write (x := .c b _ cs) (y := .c b _ us) rfl rfl a1 a2 a3 a4 a5 a6, rfl⟩)
      simp only [execOp]; rw [hk.eval hx, hk.eval hy]
      simp [Instr.storeAt, Instr.sureAddr, storeVar, hz w, hv, hl, hr])
    (by rintro v G2 rfl; exact kk)

theorem V_mark {x : Operand} {s t b l e : Nat} {cs : List Value} {G' : List Ent} (m : MdStep md .w md') (hu : P.underlying s = some (.slice t)) (ht : P.underlying t = some (.int .u8)) (hx : ev K x = some (.slice (some ⟨b, 0, none⟩) l l))
    (hm : SetAt G (.c b e cs) (.f b e cs (cs.length, cs.length + 1)) G') (hd : Nat.blt d n = true)
    (kk : V P ops Q md' rest n ((d, .slice (some ⟨b, 0, none⟩) l l) :: K) w0 G') : V P ops Q md (⟨some d, .convert s s x, ty, pos, af, none⟩ :: rest) n K w0 G :=
  V_wild (post := fun v G2 => v = .slice (some ⟨b, 0, none⟩) l l ∧ G2 = G') m rfl (by simpa using hd)
    (fun a w hk hw => by
      obtain ⟨G1, G2, rfl, rfl⟩ := hm.split
      have h := hw.has (.c b e cs) (by simp)
      have hsh : w.shape? b = some (e, cs.length) := by
        have h' : w.heap[b]? = some (.cells cs.toArray e (0, 0)) := h
        simp [World.shape?, h']
      refine .inl ⟨.slice (some ⟨b, 0, none⟩) l l, w.freeze ⟨b, cs.length, none⟩ 1, ?_, _, _, rfl, ?_, rfl, rfl⟩
      · simp only [execOp]; rw [hk.eval hx]
        simp [convert, run_underlying hu, run_underlying ht, markStringish, hsh]
      · have h' : w.heap[b]? = some (.cells cs.toArray e (0, 0)) := h
        refine hw.write (x := .c b e cs) (y := .f b e cs (cs.length, cs.length + 1)) rfl rfl rfl rfl rfl (by simp [World.freeze]) ?_ ?_
        · intro k hk
          simp only [World.freeze, Nat.one_ne_zero, if_false, Array.getElem?_modify]
          rw [if_neg (fun e => hk e.symm)]
        · simp [Ent.ok, World.freeze, Array.getElem?_modify, h'])
    (by rintro v G2 ⟨rfl, rfl⟩; exact kk)

theorem V_callC0 {f : FuncId} {x : Operand} {fs cap : Array Value} {as : List Operand} {vs : List Value} {ats : Array TypeId} {v : Value} (m : MdStep md .e md') (hf : ∀ args w, (callFunc f args).run P w = .ok (.enter f args) w)
    (hx : ev K x = some (.func (.func f) fs cap)) (ha : Evs K as vs)
    (hc : ∀ w, St w0 G w → Calls P f (fs ++ vs.toArray ++ cap) w fun e w' => e = .returned v ∧ St w [] w') (hd : Nat.blt d n = true) (hs : Keep md G)
    (kk : V P ops Q md' rest n ((d, v) :: K) w0 G) : V P ops Q md (⟨some d, .call ⟨.value x, as.toArray, ats⟩, ty, pos, af, none⟩ :: rest) n K w0 G :=
  V_act (post := fun u G' => u = v ∧ G' = G) m rfl (by simpa using hd)
    (fun a w hk hw => .inr (.inr ⟨f, _, w, by
        simp only [execOp, resolve, List.map_toArray, ha.eval hk]; rw [hk.eval hx]
        simp [Deferred.ofValue, invoke, hf], (hc w hw).mono fun e w' ⟨he, hD⟩ => ⟨v, he, v, G, rfl, hw.trans hD, rfl, rfl⟩⟩))
    (by rintro u G' ⟨rfl, rfl⟩; exact hs) (by rintro u G' ⟨rfl, rfl⟩; exact kk)

theorem V_make1 {x y : Operand} {s t : Nat} {k : Nat} {ki kj : IntKind} {i : TypeInfo} {zv : Value} (m : MdStep md .e md') (hu : P.underlying s = some (.slice t)) (hi : ∀ w, (typeInfo t).run P w = .ok i w) (hz : i.size = 1) (hb : Nat.ble i.bytes 4096 = true) (hzv : i.zero = some zv) (hzc : zv.cells = #[zv])
    (hx : ev K x = some (.int ki (k : Int))) (hy : ev K y = some (.int kj (k : Int))) (h1 : k ≤ 16777216) (hd : Nat.blt d n = true)
    (hs : ∀ b, Keep md (.c b t (List.replicate k zv) :: G))
    (kk : ∀ b, V P ops Q md' rest n ((d, .slice (some ⟨b, 0, none⟩) k k) :: K) w0 (.c b t (List.replicate k zv) :: G)) : V P ops Q md (⟨some d, .makeSlice s x y, ty, pos, af, none⟩ :: rest) n K w0 G := by
  have e : (List.range ((k : Int).toNat * 1)).map (zv.cells[· % zv.cells.size]!) = List.replicate k zv := by
    rw [hzc]
    apply List.ext_getElem
    · simp
    · intro j h1 h2
      have : j % 1 = 0 := Nat.mod_one j
      simp [this]
  refine V_make (k := (k : Int)) (zv := zv) m hu hi hz hb hzv hx hy (by omega) (by omega) hd ?_ ?_
  · intro b; rw [e]; exact hs b
  · intro b; rw [e]; simpa using kk b
theorem I_rep (k : Nat) : List.replicate k (Value.int .i64 0) = I (List.replicate k 0) := by simp [I]
theorem I_set (xs : List Int) (j : Nat) (v : Int) : (I xs).set j (.int .i64 v) = I (xs.set j v) := by simp [I, List.map_set]

def Bl (xs : List Bool) : List Value := xs.map Value.bool
def S (p : List UInt8) : Value := .string ⟨p.toArray⟩
def Ss (xs : List (List UInt8)) : List Value := xs.map S
def By (xs : List UInt8) : List Value := xs.map fun c => .int .u8 c.toNat
@[simp] theorem Bl_length (xs : List Bool) : (Bl xs).length = xs.length := by simp [Bl]
@[simp] theorem Ss_length (xs : List (List UInt8)) : (Ss xs).length = xs.length := by simp [Ss]
@[simp] theorem By_length (xs : List UInt8) : (By xs).length = xs.length := by simp [By]
theorem Bl_get {xs : List Bool} {i : Int} (h0 : 0 ≤ i) (h1 : i < xs.length) : (Bl xs)[i.toNat * 1]? = some (.bool (xs.getD i.toNat false)) := by
  have h : i.toNat < xs.length := by omega
  simp [Bl, h]
theorem Ss_get {xs : List (List UInt8)} {i : Int} (h0 : 0 ≤ i) (h1 : i < xs.length) : (Ss xs)[i.toNat * 1]? = some (.string ⟨(xs.getD i.toNat []).toArray⟩) := by
  have h : i.toNat < xs.length := by omega
  simp [Ss, S, h]
theorem Ss_getN {xs : List (List UInt8)} {i : Nat} (h : i < xs.length) : (Ss xs)[((i : Nat) : Int).toNat * 1]? = some (.string ⟨(xs.getD i []).toArray⟩) := by simp [Ss, S, h]
theorem I_getN {xs : List Int} {i : Nat} (h : i < xs.length) : (I xs)[((i : Nat) : Int).toNat * 1]? = some (.int .i64 (xs.getD i 0)) := by simp [I, h]
theorem By_getN {xs : List UInt8} {i : Nat} (h : i < xs.length) : (By xs)[((i : Nat) : Int).toNat * 1]? = some (.int .u8 ((xs.getD i 0).toNat : Int)) := by simp [By, h]
theorem int_eq {k : IntKind} {a b : Int} (h : a = b) : some (Value.int k a) = some (Value.int k b) := by rw [h]
end Go.Proofs.YtgeahmmepfmcoaaDoor.L
