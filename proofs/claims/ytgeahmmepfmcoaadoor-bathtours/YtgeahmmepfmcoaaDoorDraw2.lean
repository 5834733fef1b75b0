/- parts that the proof of BathTours uses -/
import Derived.Test.YtgeahmmepfmcoaaDoorDraw
namespace Go.Proofs.YtgeahmmepfmcoaaDoor.L
open Go Go.RowKit
set_option linter.unusedVariables false
set_option linter.unusedSimpArgs false

def al (e : Edge) : Bool := match e.ground with | .textOnly _ => false | .gcOnly _ => false | _ => true
def aft (o : Oper) : List Nat := (o.after.toList.filter al).map (·.on)

theorem al_binds {e : Edge} (h : al e = true) (m : Region.Mode) : Region.binds m e = true := by
  unfold al at h; unfold Region.binds
  cases hg : e.ground <;> simp_all

inductive Lin (l : List Oper) : List Nat → List Nat → Prop where
  | nil : Lin l [] []
  | cons {R1 R2 s : List Nat} {k : Nat} {o : Oper} : l[k]? = some o → (∀ j ∈ aft o, j ∉ R1 ++ k :: R2) → Lin l (R1 ++ R2) s → Lin l (R1 ++ k :: R2) (k :: s)

theorem range_filter_split {n k : Nat} {f g : Nat → Bool} (hk : k < n) (hf : f k = true) (hg : g k = false) (he : ∀ i, i ≠ k → g i = f i) :
    ∃ R1 R2, (List.range n).filter f = R1 ++ k :: R2 ∧ (List.range n).filter g = R1 ++ R2 := by
  have hr : List.range n = List.range k ++ k :: (List.range' (k + 1) (n - k - 1)) := by
    rw [List.range_eq_range', List.range_eq_range']
    have h1 : List.range' 0 n = List.range' 0 k ++ List.range' (0 + 1 * k) (n - k) := by rw [List.range'_append]; congr 1; omega
    rw [h1]
    congr 1
    have h2 : n - k = (n - k - 1) + 1 := by omega
    rw [h2, List.range'_succ]
    simp
  refine ⟨(List.range k).filter f, (List.range' (k + 1) (n - k - 1)).filter f, ?_, ?_⟩
  · rw [hr, List.filter_append, List.filter_cons_of_pos hf]
  · rw [hr, List.filter_append, List.filter_cons_of_neg (by simp [hg])]
    congr 1
    · refine List.filter_congr fun i hi => he i ?_
      have := List.mem_range.1 hi; omega
    · refine List.filter_congr fun i hi => he i ?_
      have := (List.mem_range'_1.1 hi).1; omega

theorem least_of (f : Nat → Nat) : ∀ (R : List Nat), R ≠ [] → ∃ i ∈ R, ∀ j ∈ R, f i ≤ f j
  | [], h => (h rfl).elim
  | [a], _ => ⟨a, by simp, fun j hj => by simp at hj; subst hj; exact Nat.le_refl _⟩
  | a :: b :: R, _ => by
    obtain ⟨i, hi, h⟩ := least_of f (b :: R) (by simp)
    by_cases e : f a ≤ f i
    · refine ⟨a, by simp, fun j hj => ?_⟩
      rcases List.mem_cons.1 hj with rfl | hj
      · exact Nat.le_refl _
      · exact Nat.le_trans e (h j hj)
    · refine ⟨i, List.mem_cons_of_mem _ hi, fun j hj => ?_⟩
      rcases List.mem_cons.1 hj with rfl | hj
      · omega
      · exact h j hj

theorem linearise_go {l : List Oper} (m : Region.Mode) (rk : Nat → Nat) (hb : ∀ (i : Nat) (o : Oper), l[i]? = some o → ∀ e ∈ o.after.toList, Region.binds m e = true → e.on < l.length ∧ rk e.on < rk i) (hal : ∀ (i : Nat) (o : Oper), l[i]? = some o → ∀ e ∈ o.after.toList, al e = true → e.on < i) :
    ∀ (fuel t : Nat) (listed : Array Bool) (acc : List Nat), listed.size = l.length → ((List.range l.length).filter fun i => !listed.getD i true).length ≤ fuel →
      ∃ s, Region.linearise.go m l.toArray fuel t listed acc = acc.reverse ++ s ∧ Lin l ((List.range l.length).filter fun i => !listed.getD i true) s := by
  intro fuel
  induction fuel with
  | zero =>
    intro t listed acc hsz hlen
    have : (List.range l.length).filter (fun i => !listed.getD i true) = [] := List.length_eq_zero_iff.1 (by omega)
    rw [this]
    exact ⟨[], by simp [Region.linearise.go], .nil⟩
  | succ fuel ih =>
    intro t listed acc hsz hlen
    generalize hR : (List.range l.length).filter (fun i => !listed.getD i true) = R at *
    simp only [Region.linearise.go, List.size_toArray]
    generalize hrs : (List.range l.length).filter (fun i => !listed.getD i true && ((l.toArray[i]?).map (·.after.all fun e => !Region.binds m e || listed.getD e.on false)).getD false) = rs
    have hmem : ∀ i, i ∈ R ↔ i < l.length ∧ listed.getD i true = false := by
      intro i; rw [← hR]; simp [List.mem_filter]
    cases R with
    | nil =>
      have : rs = [] := by
        rw [← hrs]
        refine List.filter_eq_nil_iff.2 fun i hi => ?_
        have h1 : ¬ (i < l.length ∧ listed.getD i true = false) := fun h => by have := (hmem i).2 h; simp at this
        have h2 := List.mem_range.1 hi
        have h3 : listed.getD i true = true := by cases h : listed.getD i true with | true => rfl | false => exact (h1 ⟨h2, h⟩).elim
        simp [h3]
      subst this
      exact ⟨[], by simp, .nil⟩
    | cons i1 R' =>
      -- one of the least rank can go
      obtain ⟨i0, hi0R, hmin⟩ := least_of rk (i1 :: R') (by simp)
      have hi0 : i0 < l.length ∧ listed.getD i0 true = false := (hmem i0).1 hi0R
      have hleast : ∀ j, j < l.length → rk j < rk i0 → listed.getD j false = true := by
        intro j hjl hj
        have hnot : j ∉ i1 :: R' := fun hm => by have := hmin j hm; omega
        have h3 : listed.getD j true = true := by cases h : listed.getD j true with | true => rfl | false => exact (hnot ((hmem j).2 ⟨hjl, h⟩)).elim
        have hjs : j < listed.size := by omega
        simp only [Array.getD_eq_getD_getElem?, Array.getElem?_eq_getElem hjs, Option.getD_some] at h3 ⊢
        exact h3
      have hin : i0 ∈ rs := by
        rw [← hrs]
        refine List.mem_filter.2 ⟨List.mem_range.2 hi0.1, ?_⟩
        have ho : l.toArray[i0]? = some (l[i0]'hi0.1) := by simp [hi0.1]
        simp only [hi0.2, ho, Option.map_some, Option.getD_some, Bool.not_false, Bool.true_and]
        rw [Array.all_eq_true_iff_forall_mem]
        intro e he
        cases hbm : Region.binds m e with
        | false => rfl
        | true =>
          obtain ⟨h1, h2⟩ := hb i0 _ (by simp [hi0.1]) e (Array.mem_toList_iff.2 he) hbm
          simp [hleast e.on h1 h2]
      have hpos : 0 < rs.length := List.length_pos_of_mem hin
      have hlt : t % rs.length < rs.length := Nat.mod_lt _ hpos
      obtain ⟨k, hk⟩ : ∃ k, rs[t % rs.length]? = some k := ⟨rs[t % rs.length], by simp [hlt]⟩
      rw [hk]
      have hkm : k ∈ rs := List.mem_of_getElem? hk
      rw [← hrs] at hkm
      obtain ⟨hk1, hk2⟩ := List.mem_filter.1 hkm
      have hkl := List.mem_range.1 hk1
      simp only [Bool.and_eq_true, Bool.not_eq_true'] at hk2
      obtain ⟨hk2, hk3⟩ := hk2
      have hks : k < listed.size := by omega
      have hset : ∀ i, (listed.setIfInBounds k true).getD i true = if i = k then true else listed.getD i true := by
        intro i
        simp only [Array.getD_eq_getD_getElem?, Array.getElem?_setIfInBounds]
        by_cases e : k = i
        · subst e; simp [hks]
        · have : ¬ i = k := fun h => e h.symm
          simp [e, this]
      obtain ⟨R1, R2, e1, e2⟩ := range_filter_split (n := l.length) (k := k) (f := fun i => !listed.getD i true) (g := fun i => !(listed.setIfInBounds k true).getD i true) hkl (by simp [hk2]) (by rw [hset]; simp) (by intro i hi; simp only [hset, if_neg hi])
      obtain ⟨s, hs1, hs2⟩ := ih (t / rs.length) (listed.setIfInBounds k true) (k :: acc) (by simpa using hsz) (by
        rw [e2]
        have := congrArg List.length e1
        rw [hR] at this
        rw [this] at hlen
        rw [List.length_append, List.length_cons] at hlen
        rw [List.length_append]; omega)
      refine ⟨k :: s, ?_, ?_⟩
      · simp only [hs1]; simp
      · rw [e2] at hs2
        rw [hR] at e1
        rw [e1]
        have hol : l[k]? = some (l[k]'hkl) := by simp [hkl]
        refine .cons hol ?_ hs2
        intro j hj hjm
        rw [← e1] at hjm
        have hjr := (hmem j).1 hjm
        have ho : l.toArray[k]? = some (l[k]'hkl) := by simp [hkl]
        simp only [ho, Option.map_some, Option.getD_some] at hk3
        rw [Array.all_eq_true_iff_forall_mem] at hk3
        obtain ⟨e, he, rfl⟩ := List.mem_map.1 hj
        obtain ⟨he1, he2⟩ := List.mem_filter.1 he
        have := hk3 e (Array.mem_toList_iff.1 he1)
        rw [al_binds he2 m] at this
        simp only [Bool.not_true, Bool.false_or] at this
        have hjs : e.on < listed.size := by omega
        have h2 := hjr.2
        simp only [Array.getD_eq_getD_getElem?, Array.getElem?_eq_getElem hjs, Option.getD_some] at this h2
        rw [this] at h2; cases h2

def isGc (e : Edge) : Bool := match e.ground with | .gcOnly _ => true | _ => false
def isTx (e : Edge) : Bool := match e.ground with | .textOnly _ => true | _ => false
structure Back (l : List Oper) (rk : Nat → Nat) : Prop where
  text : ∀ (i : Nat) (o : Oper), l[i]? = some o → ∀ e ∈ o.after.toList, isGc e = false → e.on < i
  gc : ∀ (i : Nat) (o : Oper), l[i]? = some o → ∀ e ∈ o.after.toList, isTx e = false → rk e.on < rk i
  len : ∀ (i : Nat) (o : Oper), l[i]? = some o → ∀ e ∈ o.after.toList, e.on < l.length

theorem schedule_lin {l : List Oper} {rk : Nat → Nat} (hb : Back l rk) (mixed : Bool) (t : Nat) : Lin l (List.range l.length) (Region.schedule mixed l.toArray t) := by
  have hal : ∀ (i : Nat) (o : Oper), l[i]? = some o → ∀ e ∈ o.after.toList, al e = true → e.on < i := by
    intro i o ho e he h
    refine hb.text i o ho e he ?_
    unfold al at h; unfold isGc
    cases hg : e.ground <;> simp_all
  have key : ∀ m t, Lin l (List.range l.length) (Region.linearise m l.toArray t) := by
    intro m t
    obtain ⟨rk', hrk⟩ : ∃ rk' : Nat → Nat, ∀ (i : Nat) (o : Oper), l[i]? = some o → ∀ e ∈ o.after.toList, Region.binds m e = true → e.on < l.length ∧ rk' e.on < rk' i := by
      by_cases hm : m = .gc
      · refine ⟨rk, fun i o ho e he hbm => ⟨hb.len i o ho e he, hb.gc i o ho e he ?_⟩⟩
        subst hm
        unfold Region.binds at hbm; unfold isTx
        cases hg : e.ground <;> simp_all
      · refine ⟨id, fun i o ho e he hbm => ⟨hb.len i o ho e he, hb.text i o ho e he ?_⟩⟩
        unfold Region.binds at hbm; unfold isGc
        cases hg : e.ground <;> simp_all
    have hf : (List.range l.length).filter (fun i => !(Array.replicate l.length false).getD i true) = List.range l.length := by
      refine List.filter_eq_self.2 fun i hi => ?_
      have := List.mem_range.1 hi
      simp [Array.getD_eq_getD_getElem?, this]
    obtain ⟨s, h1, h2⟩ := linearise_go m rk' hrk hal l.length t (Array.replicate l.length false) [] (by simp) (by rw [hf]; simp)
    rw [hf] at h2
    unfold Region.linearise
    simp only [List.size_toArray]
    rw [h1]; exact h2
  unfold Region.schedule
  split
  · exact key _ _
  · exact key _ _

inductive Prec (l : List Oper) : Nat → Nat → Prop where
  | d {j k : Nat} {o : Oper} : l[k]? = some o → j ∈ aft o → Prec l j k
  | t {j q k : Nat} {o : Oper} : l[k]? = some o → q ∈ aft o → Prec l j q → Prec l j k

def cloBits (acc : List Nat) (o : Oper) : Nat := (aft o).foldl (fun s j => s ||| (1 <<< j) ||| acc.getD j 0) 0
def clo (l : List Oper) : List Nat := l.foldl (fun acc o => acc ++ [cloBits acc o]) []

theorem testBit_fold (acc : List Nat) (i : Nat) : ∀ (js : List Nat) (s : Nat), (js.foldl (fun s j => s ||| (1 <<< j) ||| acc.getD j 0) s).testBit i = true → s.testBit i = true ∨ ∃ j ∈ js, i = j ∨ (acc.getD j 0).testBit i = true
  | [], s, h => .inl h
  | j :: js, s, h => by
    rcases testBit_fold acc i js _ h with h | ⟨k, hk, h⟩
    · rw [Nat.testBit_or, Nat.testBit_or, Bool.or_eq_true, Bool.or_eq_true] at h
      rcases h with (h | h) | h
      · exact .inl h
      · refine .inr ⟨j, by simp, .inl ?_⟩
        rw [Nat.one_shiftLeft, Nat.testBit_two_pow] at h
        exact (of_decide_eq_true h).symm
      · exact .inr ⟨j, by simp, .inr h⟩
    · exact .inr ⟨k, by simp [hk], h⟩

theorem clo_prec (l : List Oper) : ∀ (r p : List Oper) (acc : List Nat), l = p ++ r → acc.length = p.length → (∀ k i, (acc.getD k 0).testBit i = true → Prec l i k) →
    ∀ k i, ((r.foldl (fun acc o => acc ++ [cloBits acc o]) acc).getD k 0).testBit i = true → Prec l i k
  | [], _, _, _, _, h => h
  | o :: r, p, acc, hl, hlen, h => by
    refine clo_prec l r (p ++ [o]) _ (by simp [hl]) (by simp [hlen]) ?_
    intro k i hb
    by_cases hk : k < acc.length
    · rw [List.getD_eq_getElem?_getD, List.getElem?_append_left hk, ← List.getD_eq_getElem?_getD] at hb
      exact h k i hb
    · by_cases hk2 : k = acc.length
      · subst hk2
        rw [List.getD_eq_getElem?_getD, List.getElem?_append_right (Nat.le_refl _)] at hb
        simp only [Nat.sub_self, List.getElem?_cons_zero, Option.getD_some] at hb
        have ho : l[acc.length]? = some o := by rw [hl, hlen]; simp
        rcases testBit_fold acc i (aft o) 0 hb with h0 | ⟨j, hj, rfl | hj2⟩
        · simp at h0
        · exact .d ho hj
        · exact .t ho hj (h j i hj2)
      · rw [List.getD_eq_getElem?_getD, List.getElem?_eq_none (by simp; omega)] at hb
        simp at hb

theorem clo_sound {l : List Oper} {k i : Nat} (h : ((clo l).getD k 0).testBit i = true) : Prec l i k :=
  clo_prec l l [] [] rfl rfl (by intro k i h; simp at h) k i h

def disjoint (d : Option Nat) (xs : List Nat) : Bool := match d with | none => true | some s => !xs.contains s
def dstNe (d e : Option Nat) : Bool := match d, e with | some s, some t => !(Nat.beq s t) | _, _ => true
def indepB (l : List Oper) (p k : Oper) : Bool := disjoint p.dst (rds l k) && disjoint k.dst (rds l p) && dstNe p.dst k.dst

theorem disjoint_spec {d : Option Nat} {xs : List Nat} (h : disjoint d xs = true) : ∀ s, d = some s → s ∉ xs := by
  rintro s rfl hs
  simp [disjoint] at h
  exact h hs

theorem indepB_spec {l : List Oper} {p k : Oper} (h : indepB l p k = true) : Indep l p k := by
  simp only [indepB, Bool.and_eq_true] at h
  refine ⟨disjoint_spec h.1.1, disjoint_spec h.1.2, ?_⟩
  intro s t hs ht e
  have h2 := h.2
  rw [hs, ht] at h2
  subst e
  simp [dstNe] at h2

def noWR : Cls → Cls → Bool
  | .w, .r => false
  | .w, .u _ => false
  | _, _ => true

def okDrawG (rk : List Nat) (cl : List Cls) (l : List Oper) : Bool :=
  let C := clo l
  let L := cl.zip l
  Nat.beq cl.length l.length &&
  L.zipIdx.all fun (xj, j) => plain xj.2.op && (xj.2.after.toList.all fun e => (isGc e || Nat.blt e.on j) && (isTx e || Nat.blt (rk.getD e.on e.on) (rk.getD j j)) && Nat.blt e.on l.length) &&
    L.zipIdx.all fun (xi, i) => !(Nat.blt i j) || (((C.getD j 0).testBit i || (indepB l xi.2 xj.2 && compat xi.1 xj.1)) && noWR xi.1 xj.1)

variable {P : Program} {Q : Exit → Act → World → Prop} {w0 : World} {Gs : List Ent} {l : List Oper} {cl : List Cls}

structure Ok (cl : List Cls) (l : List Oper) : Prop where
  len : cl.length = l.length
  plain : ∀ (j : Nat) c o, (cl.zip l)[j]? = some (c, o) → plain o.op = true
  back : ∃ rk, Back l rk
  pair : ∀ (i j : Nat) ci oi cj oj, i < j → (cl.zip l)[i]? = some (ci, oi) → (cl.zip l)[j]? = some (cj, oj) → Prec l i j ∨ (Indep l oi oj ∧ compat ci cj = true)
  nowr : ∀ (i j : Nat) ci oi cj oj, i < j → (cl.zip l)[i]? = some (ci, oi) → (cl.zip l)[j]? = some (cj, oj) → noWR ci cj = true

theorem okDrawG_spec {rk : List Nat} (h : okDrawG rk cl l = true) : Ok cl l := by
  unfold okDrawG at h
  simp only [Bool.and_eq_true, List.all_eq_true] at h
  obtain ⟨hlen, h⟩ := h
  have hlen : cl.length = l.length := Nat.eq_of_beq_eq_true hlen
  have hz : ∀ (j : Nat) c o, (cl.zip l)[j]? = some (c, o) → ((c, o), j) ∈ (cl.zip l).zipIdx := by
    intro j c o hj
    exact List.mem_zipIdx_iff_getElem?.2 hj
  refine ⟨hlen, fun j c o hj => (h _ (hz j c o hj)).1.1, ⟨fun i => rk.getD i i, ?_⟩, ?_, ?_⟩
  · have key : ∀ (i : Nat) (o : Oper), l[i]? = some o → ∀ e ∈ o.after.toList, (isGc e = true ∨ e.on < i) ∧ (isTx e = true ∨ rk.getD e.on e.on < rk.getD i i) ∧ e.on < l.length := by
      intro i o ho e he
      have hil : i < l.length := (List.getElem?_eq_some_iff.1 ho).1
      have hz' : (cl.zip l)[i]? = some (cl[i]'(by omega), o) := by
        rw [List.getElem?_zip_eq_some]
        exact ⟨by simp [show i < cl.length by omega], ho⟩
      have := (h _ (hz i _ o hz')).1.2
      have := this e he
      simp only [Nat.blt_eq, Bool.or_eq_true] at this
      exact ⟨this.1.1, this.1.2, this.2⟩
    refine ⟨fun i o ho e he hg => ?_, fun i o ho e he hg => ?_, fun i o ho e he => (key i o ho e he).2.2⟩
    · rcases (key i o ho e he).1 with h | h
      · rw [hg] at h; cases h
      · exact h
    · rcases (key i o ho e he).2.1 with h | h
      · rw [hg] at h; cases h
      · exact h
  · intro i j ci oi cj oj hij hi hj
    have := (h _ (hz j cj oj hj)).2 _ (hz i ci oi hi)
    simp only [Bool.or_eq_true, Bool.and_eq_true, Bool.not_eq_true'] at this
    rcases this with this | this
    · have : i.blt j = true := by rw [Nat.blt_eq]; exact hij
      simp_all
    · rcases this.1 with h1 | ⟨h1, h2⟩
      · exact .inl (clo_sound h1)
      · exact .inr ⟨indepB_spec h1, h2⟩
  · intro i j ci oi cj oj hij hi hj
    have := (h _ (hz j cj oj hj)).2 _ (hz i ci oi hi)
    simp only [Bool.or_eq_true, Bool.and_eq_true, Bool.not_eq_true'] at this
    rcases this with this | this
    · have : i.blt j = true := by rw [Nat.blt_eq]; exact hij
      simp_all
    · exact this.2

def at_ (L : List (Cls × Oper)) (R : List Nat) : List (Cls × Oper) := R.filterMap (L[·]?)

theorem prec_up {l : List Oper} {R : List Nat} (up : ∀ k o, l[k]? = some o → k ∉ R → ∀ j ∈ aft o, j ∉ R) {j k : Nat} (h : Prec l j k) (hk : k ∉ R) : j ∉ R := by
  induction h with
  | d ho hj => exact up _ _ ho hk _ hj
  | t ho hq _ ih => exact ih (up _ _ ho hk _ hq)

theorem lin_run (hok : Ok cl l) {R s : List Nat} (hl : Lin l R s) : (∀ k o, l[k]? = some o → k ∉ R → ∀ j ∈ aft o, j ∉ R) → R.Pairwise (· < ·) →
    ∀ a w G, T P l.toArray w0 Gs Q (at_ (cl.zip l) R) a G → St w0 G w → (Keeps w0 Gs G ∨ ∀ i ∈ R, ∀ c o, (cl.zip l)[i]? = some (c, o) → c ≠ .r) → wpOps P l.toArray Q s a w := by
  induction hl with
  | nil => intro _ _ a w G hT hG _; exact hT w hG
  | @cons R1 R2 s k o hko hedge hlin ih =>
    intro up hsort a w G hT hG hS
    obtain ⟨hkl, _⟩ := List.getElem?_eq_some_iff.1 hko
    obtain ⟨c, hc⟩ : ∃ c, (cl.zip l)[k]? = some (c, o) := ⟨cl[k]'(by have := hok.len; omega), by
      rw [List.getElem?_zip_eq_some]; exact ⟨by simp [show k < cl.length by have := hok.len; omega], hko⟩⟩
    have hlt1 : ∀ i ∈ R1, i < k := fun i hi => (List.pairwise_append.1 hsort).2.2 i hi k (by simp)
    have hlt2 : ∀ i ∈ R2, k < i := fun i hi => (List.pairwise_cons.1 (List.pairwise_append.1 hsort).2.1).1 i hi
    -- what comes before k has been done
    have hprec : ∀ i, Prec l i k → i ∉ R1 ++ k :: R2 := by
      intro i hp
      cases hp with
      | d ho hj => rw [hko] at ho; cases ho; exact hedge _ hj
      | t ho hq hp => rw [hko] at ho; cases ho; exact prec_up up hp (hedge _ hq)
    have hpair : ∀ i ∈ R1, ∀ ci oi, (cl.zip l)[i]? = some (ci, oi) → Indep l oi o ∧ compat ci c = true := by
      intro i hi ci oi hci
      rcases hok.pair i k ci oi c o (hlt1 i hi) hci hc with hp | h
      · exact (hprec i hp (by simp [hi])).elim
      · exact h
    -- k to the front
    have e1 : at_ (cl.zip l) (R1 ++ k :: R2) = at_ (cl.zip l) R1 ++ (c, o) :: at_ (cl.zip l) R2 := by simp [at_, List.filterMap_append, hc]
    have e2 : at_ (cl.zip l) R1 ++ at_ (cl.zip l) R2 = at_ (cl.zip l) (R1 ++ R2) := by simp [at_, List.filterMap_append]
    rw [e1] at hT
    have hT := front (c, o) (hok.plain k c o hc) _ _ (by
      rintro ⟨ci, oi⟩ hp
      obtain ⟨i, hi, hci⟩ := List.mem_filterMap.1 hp
      exact ⟨hok.plain i ci oi hci, hpair i hi ci oi hci⟩) a G ⟨w, hG⟩ hT
    rw [e2] at hT
    have up' : ∀ k' o', l[k']? = some o' → k' ∉ R1 ++ R2 → ∀ j ∈ aft o', j ∉ R1 ++ R2 := by
      intro k' o' ho' hk' j hj hm
      have hm' : j ∈ R1 ++ k :: R2 := by
        rcases List.mem_append.1 hm with h | h
        · exact List.mem_append.2 (.inl h)
        · exact List.mem_append.2 (.inr (List.mem_cons_of_mem _ h))
      by_cases e : k' = k
      · subst e; rw [hko] at ho'; cases ho'; exact hedge j hj hm'
      · refine up k' o' ho' ?_ j hj hm'
        intro h
        rcases List.mem_append.1 h with h | h
        · exact hk' (List.mem_append.2 (.inl h))
        · rcases List.mem_cons.1 h with h | h
          · exact e h
          · exact hk' (List.mem_append.2 (.inr h))
    have hsort' : (R1 ++ R2).Pairwise (· < ·) := hsort.sublist (List.Sublist.append (List.Sublist.refl _) (List.sublist_cons_self _ _))
    have hS' : (Keeps w0 Gs G ∨ ∀ i ∈ R1 ++ R2, ∀ c o, (cl.zip l)[i]? = some (c, o) → c ≠ .r) := by
      rcases hS with h | h
      · exact .inl h
      · refine .inr fun i hi => h i ?_
        rcases List.mem_append.1 hi with h | h
        · exact List.mem_append.2 (.inl h)
        · exact List.mem_append.2 (.inr (List.mem_cons_of_mem _ h))
    have ih' := ih up' hsort'
    simp only [wpOps, List.getElem?_toArray, hko]
    simp only [T, S1] at hT
    split
    · rename_i hw
      rw [if_pos hw] at hT
      refine .inl ?_
      cases c with
      | p =>
        obtain ⟨v, hr, hn⟩ := hT
        unfold Oper.wp; rw [hr w]
        exact ih' _ w G hn hG hS'
      | r =>
        obtain ⟨v, hr, hn⟩ := hT
        have hSw : St w0 Gs w := by
          rcases hS with h | h
          · exact h w hG
          · exact (h k (by simp) .r o hc rfl).elim
        unfold Oper.wp; rw [hr w hSw]
        exact ih' _ w G hn hG hS'
      | e =>
        obtain ⟨post, h1, h2⟩ := hT
        refine Eff.wp (Eff.mono (h1 w hG) ?_)
        rintro a' w' ⟨v, G', rfl, hw', hp⟩
        exact ih' _ w' G' (h2 v G' w' hp hw').2 hw' (.inl (h2 v G' w' hp hw').1)
      | w =>
        obtain ⟨post, h1, h2⟩ := hT
        refine Eff.wp (Eff.mono (h1 w hG) ?_)
        rintro a' w' ⟨v, G', rfl, hw', hp⟩
        refine ih' _ w' G' (h2 v G' w' hp hw') hw' (.inr ?_)
        intro i hi ci oi hci e
        subst e
        rcases List.mem_append.1 hi with h | h
        · have := (hpair i h _ _ hci).2; simp [compat] at this
        · have := hok.nowr k i _ _ _ _ (hlt2 i h) hc hci; simp [noWR] at this
      | u post =>
        obtain ⟨h1, hK, h2⟩ := hT
        refine Eff.wp (Eff.mono (h1 G w hK hG) ?_)
        rintro a' w' ⟨v, D, rfl, hw', hp⟩
        exact ih' _ w' (D ++ G) (h2 v D w' hp hw') hw' (.inl fun w hw => hK w (hw.sublist (List.sublist_append_right _ _)))
    · rename_i hw
      rw [if_neg hw] at hT
      exact ih' _ w G hT hG hS'

theorem at_range (L : List (Cls × Oper)) : at_ L (List.range L.length) = L := by
  unfold at_
  have : ∀ (L : List (Cls × Oper)) (k : Nat) (M : List (Cls × Oper)), M.length = k → (List.range' k L.length).filterMap ((M ++ L)[·]?) = L := by
    intro L
    induction L with
    | nil => intro k M _; simp
    | cons x L ih =>
      intro k M hM
      rw [List.length_cons, List.range'_succ, List.filterMap_cons]
      have h0 : (M ++ x :: L)[k]? = some x := by subst hM; simp
      rw [h0]
      have := ih (k + 1) (M ++ [x]) (by simp [hM])
      rw [List.append_assoc] at this
      simp only [List.singleton_append] at this
      simp [this]
  rw [List.range_eq_range']
  exact this L 0 [] rfl

variable {n : Nat} {K : Slots} {w0 : World} {G : List Ent}

theorem J_drawG {id : Nat} {l : List Oper} {Gs : List Ent} {cl : List Cls} (rk : List Nat) (hc : okDrawG rk cl l = true) (hs : ∀ w0 w, St w0 G w → St w0 Gs w) (h : V P l.toArray Q (some (Gs, cl)) l n K w0 G) : J P (.region id l.toArray true) Q n K w0 G := by
  intro a w hk hg
  refine wp_region_draw fun t => ?_
  have hok := okDrawG_spec hc
  have hg' := hg.drewN (w.drawn + 1)
  obtain ⟨hT, _⟩ := h a _ hk hg'
  have hlen : (cl.zip l).length = l.length := by simp [hok.len]
  obtain ⟨rk, hback⟩ := hok.back
  refine lin_run hok (schedule_lin hback _ t) ?_ List.pairwise_lt_range _ _ G ?_ hg' (.inl (hs _))
  · intro k o ho hk j hj hm
    have := (List.getElem?_eq_some_iff.1 ho).1
    exact hk (List.mem_range.2 this)
  · rw [← hlen, at_range]; exact hT
def okDraw (cl : List Cls) (l : List Oper) : Bool := okDrawG [] cl l
theorem J_draw {id : Nat} {l : List Oper} {Gs : List Ent} {cl : List Cls} (hc : okDraw cl l = true) (hs : ∀ w0 w, St w0 G w → St w0 Gs w) (h : V P l.toArray Q (some (Gs, cl)) l n K w0 G) : J P (.region id l.toArray true) Q n K w0 G :=
  J_drawG [] hc hs h

end Go.Proofs.YtgeahmmepfmcoaaDoor.L
