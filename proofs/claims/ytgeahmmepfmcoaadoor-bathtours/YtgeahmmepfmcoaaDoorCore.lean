/- parts that the proof of BathTours uses -/
import Derived.Below
import Derived.Tactics
import Derived.KernelRfl
namespace Go.Proofs.YtgeahmmepfmcoaaDoor.L
open Go Go.RowKit
set_option linter.unusedVariables false
set_option linter.unusedSimpArgs false

abbrev Slots := List (Nat × Value)

def lk : Slots → Nat → Option Value
  | [], _ => none
  | (i, v) :: r, j => cond (Nat.beq i j) (some v) (lk r j)

def ev (K : Slots) : Operand → Option Value
  | .tmp t => lk K t
  | .const v => some v
  | .global g => some (.pointer (some ⟨g, 0, none⟩))
  | .func f => some (.func (.func f) #[] #[])

structure Kn (n : Nat) (K : Slots) (a : Act) : Prop where
  size : a.tmps.size = n
  defers : a.defers = []
  val : ∀ j v, lk K j = some v → a.tmps[j]? = some v

theorem Kn.eval {n : Nat} {K : Slots} {a : Act} (h : Kn n K a) {x : Operand} {v : Value} (e : ev K x = some v) : a.eval x = v := by
  cases x with
  | tmp t =>
    have := h.val t v e
    simp [Act.eval, Array.getD_eq_getD_getElem?, this]
  | const c => simpa [ev, Act.eval] using e
  | global g => simpa [ev, Act.eval] using e
  | func f => simpa [ev, Act.eval] using e

theorem Kn.put {n : Nat} {K : Slots} {a : Act} (h : Kn n K a) {d : Nat} {v : Value} (hd : d < n) : Kn n ((d, v) :: K) (a.put (some d) v) := by
  refine ⟨by simp [Act.put, h.size], by simp [Act.put, h.defers], ?_⟩
  intro j u hj
  simp only [lk] at hj
  cases hb : Nat.beq d j with
  | true =>
    rw [hb] at hj
    have : d = j := Nat.eq_of_beq_eq_true hb
    subst this
    simp only [cond_true, Option.some.injEq] at hj
    subst hj
    simp [Act.put, h.size, hd]
  | false =>
    rw [hb] at hj
    simp only [cond_false] at hj
    have hne : d ≠ j := fun e => by subst e; simp at hb
    have := h.val j u hj
    simp [Act.put, hne, this]

def Sub : Slots → Slots → Prop
  | [], _ => True
  | (i, v) :: r, K => lk K i = some v ∧ Sub r K

theorem Sub.look {K2 K : Slots} (h : Sub K2 K) : ∀ j v, lk K2 j = some v → lk K j = some v := by
  induction K2 with
  | nil => intro j v e; simp [lk] at e
  | cons p r ih =>
    obtain ⟨i, u⟩ := p
    intro j v e
    simp only [lk] at e
    cases hb : Nat.beq i j with
    | true =>
      rw [hb] at e
      have hj : i = j := Nat.eq_of_beq_eq_true hb
      simp only [cond_true, Option.some.injEq] at e
      subst hj; subst e; exact h.1
    | false => rw [hb] at e; exact ih h.2 j v e

theorem Kn.sub {n : Nat} {K K2 : Slots} {a : Act} (h : Kn n K a) (s : Sub K2 K) : Kn n K2 a :=
  ⟨h.size, h.defers, fun j v e => h.val j v (s.look j v e)⟩

inductive Ent where
  | c (b : Nat) (t : TypeId) (cs : List Value)
  | f (b : Nat) (t : TypeId) (cs : List Value) (fz : Nat × Nat)
  | m (b : Nat) (es : List MapEntry) (clock : Nat)
  | e

def Ent.key : Ent → Option Nat
  | .c b _ _ => some b
  | .f b _ _ _ => some b
  | .m b _ _ => some b
  | .e => none

def Ent.ok (w : World) : Ent → Prop
  | .c b t cs => w.heap[b]? = some (.cells cs.toArray t (0, 0))
  | .f b t cs fz => w.heap[b]? = some (.cells cs.toArray t fz)
  | .m b es k => w.heap[b]? = some (.map es.toArray k)
  | .e => True

def keys (G : List Ent) : List Nat := G.filterMap Ent.key

structure St (w0 : World) (G : List Ent) (w : World) : Prop where
  base : Below w0.heap.size w0 w
  nodup : (keys G).Nodup
  ge : ∀ k ∈ keys G, w0.heap.size ≤ k
  has : ∀ x ∈ G, x.ok w

theorem St.refl (w : World) : St w [] w := ⟨Below.refl _ _, List.nodup_nil, by simp [keys], by simp⟩

theorem mem_keys {G : List Ent} {x : Ent} {k : Nat} (hx : x ∈ G) (hk : x.key = some k) : k ∈ keys G :=
  List.mem_filterMap.2 ⟨x, hx, hk⟩

theorem Ent.lt {w : World} {x : Ent} {k : Nat} (h : x.ok w) (hk : x.key = some k) : k < w.heap.size := by
  cases x with
  | c b t cs =>
    simp only [Ent.key, Option.some.injEq] at hk; subst hk
    simp only [Ent.ok] at h
    exact (Array.getElem?_eq_some_iff.1 h).1
  | m b es c =>
    simp only [Ent.key, Option.some.injEq] at hk; subst hk
    simp only [Ent.ok] at h
    exact (Array.getElem?_eq_some_iff.1 h).1
  | f b t cs fz =>
    simp only [Ent.key, Option.some.injEq] at hk; subst hk
    simp only [Ent.ok] at h
    exact (Array.getElem?_eq_some_iff.1 h).1
  | e => simp [Ent.key] at hk

theorem Ent.congr {w w' : World} {x : Ent} (h : x.ok w) (hk : ∀ k, x.key = some k → w'.heap[k]? = w.heap[k]?) : x.ok w' := by
  cases x with
  | c b t cs => simp only [Ent.ok] at *; rw [hk b rfl]; exact h
  | m b es c => simp only [Ent.ok] at *; rw [hk b rfl]; exact h
  | f b t cs fz => simp only [Ent.ok] at *; rw [hk b rfl]; exact h
  | e => trivial

theorem St.sub {w0 w : World} {G G2 : List Ent} (h : St w0 G w) (hs : ∀ x ∈ G2, x ∈ G) (hn : (keys G2).Nodup) : St w0 G2 w :=
  ⟨h.base, hn, fun k hk => by
    obtain ⟨x, hx, hxk⟩ := List.mem_filterMap.1 hk
    exact h.ge k (mem_keys (hs x hx) hxk), fun x hx => h.has x (hs x hx)⟩

theorem keys_nodup_of_sublist {G G2 : List Ent} (h : (keys G).Nodup) (hs : G2.Sublist G) : (keys G2).Nodup :=
  h.sublist (hs.filterMap _)

theorem keys_perm {G G2 : List Ent} (h : G2.Perm G) : (keys G2).Perm (keys G) := h.filterMap _

theorem St.perm {w0 w : World} {G G2 : List Ent} (h : St w0 G w) (hp : G2.Perm G) : St w0 G2 w :=
  h.sub (fun x hx => hp.mem_iff.1 hx) ((keys_perm hp).nodup_iff.2 h.nodup)

theorem St.sublist {w0 w : World} {G G2 : List Ent} (h : St w0 G w) (hs : G2.Sublist G) : St w0 G2 w :=
  h.sub (fun _ hx => hs.subset hx) (keys_nodup_of_sublist h.nodup hs)

def sel (is : List Nat) (G : List Ent) : List Ent := is.filterMap (G[·]?)

theorem St.sel {w0 w : World} {G : List Ent} (h : St w0 G w) (is : List Nat) (hn : is.Nodup) : St w0 (sel is G) w := by
  refine h.sub (fun x hx => ?_) ?_
  · obtain ⟨i, _, hi⟩ := List.mem_filterMap.1 hx
    exact List.mem_of_getElem? hi
  · unfold L.sel
    rw [keys, List.filterMap_filterMap]
    have inj : ∀ (i j k : Nat), ((G[i]?).bind Ent.key = some k) → ((G[j]?).bind Ent.key = some k) → i = j := by
      intro i j k hi hj
      have hnd := h.nodup
      clear h hn
      induction G generalizing i j with
      | nil => simp at hi
      | cons x G ih =>
        have hnd' : (keys G).Nodup := keys_nodup_of_sublist hnd (List.sublist_cons_self _ _)
        have hx : ∀ (m k : Nat), (G[m]?).bind Ent.key = some k → x.key = some k → False := by
          intro m k hm hxk
          obtain ⟨y, hy, hyk⟩ := Option.bind_eq_some_iff.1 hm
          have : k ∈ keys G := mem_keys (List.mem_of_getElem? hy) hyk
          simp only [keys, List.filterMap_cons, hxk] at hnd
          exact (List.nodup_cons.1 hnd).1 this
        cases i with
        | zero =>
          cases j with
          | zero => rfl
          | succ j =>
            simp only [List.getElem?_cons_zero, Option.bind_some, List.getElem?_cons_succ] at hi hj
            exact (hx j k hj hi).elim
        | succ i =>
          cases j with
          | zero =>
            simp only [List.getElem?_cons_zero, Option.bind_some, List.getElem?_cons_succ] at hi hj
            exact (hx i k hi hj).elim
          | succ j =>
            simp only [List.getElem?_cons_succ] at hi hj
            rw [ih i j hi hj hnd']
    clear h
    induction is with
    | nil => simp
    | cons i is ih =>
      have hn' := List.nodup_cons.1 hn
      simp only [List.filterMap_cons]
      cases hi : (G[i]?).bind Ent.key with
      | none => exact ih hn'.2
      | some k =>
        refine List.nodup_cons.2 ⟨?_, ih hn'.2⟩
        intro hk
        obtain ⟨j, hj, hjk⟩ := List.mem_filterMap.1 hk
        have := inj i j k hi hjk
        subst this
        exact hn'.1 hj

theorem St.trans {w0 w w' : World} {G D : List Ent} (h : St w0 G w) (k : St w D w') : St w0 (D ++ G) w' := by
  have hlt : ∀ x ∈ G, ∀ k, x.key = some k → k < w.heap.size := fun x hx k hk => Ent.lt (h.has x hx) hk
  refine ⟨h.base.trans (k.base.mono h.base.size), ?_, ?_, ?_⟩
  · rw [keys, List.filterMap_append]
    refine List.nodup_append.2 ⟨k.nodup, h.nodup, ?_⟩
    intro a ha b hb e
    subst e
    obtain ⟨x, hx, hxk⟩ := List.mem_filterMap.1 hb
    have := hlt x hx a hxk
    have := k.ge a ha
    omega
  · intro j hj
    rw [keys, List.filterMap_append] at hj
    rcases List.mem_append.1 hj with hj | hj
    · have := k.ge j hj; have := h.base.size; omega
    · exact h.ge j hj
  · intro x hx
    rcases List.mem_append.1 hx with hx | hx
    · exact k.has x hx
    · exact Ent.congr (h.has x hx) fun j hj => k.base.block j (hlt x hx j hj)

theorem St.alloc {w0 w : World} {G : List Ent} (h : St w0 G w) {o : Obj} {x : Ent} (hk : x.key = some w.heap.size) (hx : x.ok (w.alloc o)) : St w0 (x :: G) (w.alloc o) := by
  have hb := h.base.size
  refine ⟨h.base.alloc hb _, ?_, ?_, ?_⟩
  · simp only [keys, List.filterMap_cons, hk]
    refine List.nodup_cons.2 ⟨?_, h.nodup⟩
    intro hm
    obtain ⟨y, hy, hyk⟩ := List.mem_filterMap.1 hm
    have := Ent.lt (h.has y hy) hyk
    omega
  · intro j hj
    simp only [keys, List.filterMap_cons, hk] at hj
    rcases List.mem_cons.1 hj with rfl | hj
    · exact hb
    · exact h.ge j hj
  · intro y hy
    rcases List.mem_cons.1 hy with rfl | hy
    · exact hx
    · exact Ent.congr (h.has y hy) fun j hj => Below.heap_alloc _ _ _ (Ent.lt (h.has y hy) hj)

theorem St.drewN {w0 w : World} {G : List Ent} (h : St w0 G w) (n : Nat) : St w0 G { w with drawn := n } :=
  ⟨⟨h.base.os, h.base.tape, h.base.output, h.base.size, h.base.block⟩, h.nodup, h.ge, fun x hx => Ent.congr (h.has x hx) fun _ _ => rfl⟩

theorem St.write {w0 w w' : World} {G1 G2 : List Ent} {x y : Ent} (h : St w0 (G1 ++ x :: G2) w) {b : Nat} (hxk : x.key = some b) (hyk : y.key = some b)
    (hos : w'.os = w.os) (ht : w'.tape = w.tape) (hout : w'.output = w.output) (hsz : w'.heap.size = w.heap.size)
    (hother : ∀ k, k ≠ b → w'.heap[k]? = w.heap[k]?) (hy : y.ok w') : St w0 (G1 ++ y :: G2) w' := by
  have hk : keys (G1 ++ y :: G2) = keys (G1 ++ x :: G2) := by
    simp only [keys, List.filterMap_append, List.filterMap_cons, hxk, hyk]
  have hge : w0.heap.size ≤ b := h.ge b (mem_keys (by simp) hxk)
  refine ⟨?_, hk ▸ h.nodup, hk ▸ h.ge, ?_⟩
  · refine h.base.trans ⟨hos, ht, hout, by omega, fun k hk => hother k (by omega)⟩
  · intro z hz
    have hnd := h.nodup
    simp only [keys, List.filterMap_append, List.filterMap_cons, hxk] at hnd
    rcases List.mem_append.1 hz with hz | hz
    · refine Ent.congr (h.has z (List.mem_append.2 (.inl hz))) fun j hj => hother j ?_
      rintro rfl
      exact (List.nodup_append.1 hnd).2.2 j (mem_keys hz hj) j (by simp) rfl
    · rcases List.mem_cons.1 hz with rfl | hz
      · exact hy
      · refine Ent.congr (h.has z (by simp [hz])) fun j hj => hother j ?_
        rintro rfl
        exact (List.nodup_cons.1 (List.nodup_append.1 hnd).2.1).1 (mem_keys hz hj)

end Go.Proofs.YtgeahmmepfmcoaaDoor.L
