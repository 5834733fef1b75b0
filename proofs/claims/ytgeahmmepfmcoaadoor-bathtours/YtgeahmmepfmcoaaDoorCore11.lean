/- parts that the proof of BathTours uses -/
import Derived.Test.YtgeahmmepfmcoaaDoorBound
import GoSem.Builtin.Copy
namespace Go.Proofs.YtgeahmmepfmcoaaDoor.L
open Go Go.RowKit
set_option linter.unusedVariables false
set_option linter.unusedSimpArgs false

variable {P : Program} {Q : Exit → Act → World → Prop} {n : Nat} {K : Slots} {w0 : World} {G : List Ent}
variable {ops : Array Oper} {md md' : Md} {rest : List Oper} {d : Nat} {ty : TypeId} {pos : String} {af : Array Edge}

def Bp (be : List (Int × Int)) : List Value := be.flatMap fun b => [.int .i64 b.1, .int .i64 b.2]
@[simp] theorem Bp_length (be : List (Int × Int)) : (Bp be).length = be.length * 2 := by
  induction be with
  | nil => rfl
  | cons b be ih => simp only [Bp, List.flatMap_cons, List.length_append, List.length_cons, List.length_nil] at *; omega
structure Mx (w : World) (A : Option Addr) (vs : List Value) (ch : List (List Int)) : Prop where
  len : vs.length = ch.length
  rd : Rd w A vs
  row : ∀ i, i < ch.length → ∃ Ai ci, vs[i]? = some (.slice Ai (ch.getD i []).length ci) ∧ Rd w Ai (I (ch.getD i []))
theorem Mx.keep {w0 w : World} {G : List Ent} (h : St w0 G w) {A : Option Addr} {vs : List Value} {ch : List (List Int)} (m : Mx w0 A vs ch) : Mx w A vs ch :=
  ⟨m.len, m.rd.keep h, fun i hi => by obtain ⟨Ai, ci, h1, h2⟩ := m.row i hi; exact ⟨Ai, ci, h1, h2.keep h⟩⟩
theorem Mx.get {w : World} {A : Option Addr} {vs : List Value} {ch : List (List Int)} (m : Mx w A vs ch) {i : Nat} (hi : i < ch.length) : ∃ Ai ci, vs[((i : Nat) : Int).toNat * 1]? = some (.slice Ai (ch.getD i []).length ci) ∧ Rd w Ai (I (ch.getD i [])) := by
  obtain ⟨Ai, ci, h1, h2⟩ := m.row i hi
  exact ⟨Ai, ci, by rw [Int.toNat_natCast, Nat.mul_one]; exact h1, h2⟩
structure PR (w : World) (A1 A2 A3 : Option Addr) (vs : List Value) (st : List Int) (ch : List (List Int)) (be : List (Int × Int)) : Prop where
  h1 : Rd w A1 (I st)
  h2 : Mx w A2 vs ch
  h3 : Rd w A3 (Bp be)
theorem PR.keep {w0 w : World} {G : List Ent} (h : St w0 G w) {A1 A2 A3 : Option Addr} {vs : List Value} {st : List Int} {ch : List (List Int)} {be : List (Int × Int)} (m : PR w0 A1 A2 A3 vs st ch be) : PR w A1 A2 A3 vs st ch be :=
  ⟨m.h1.keep h, m.h2.keep h, m.h3.keep h⟩

theorem wrapU {x : Int} (h : 0 ≤ x ∧ x ≤ 18446744073709551615) : IntKind.u64.wrap x = x := by
  simp [IntKind.wrap, IntKind.bits, IntKind.signed]; omega
theorem bitsU_and {a b : Nat} (ha : a < 2 ^ 64) (hb : b < 2 ^ 64) : bits2 .and .u64 (a : Int) (b : Int) = ((a &&& b : Nat) : Int) := by
  have h : (a &&& b) < 2 ^ 64 := Nat.lt_of_le_of_lt Nat.and_le_left ha
  show IntKind.u64.wrap ((BitVec.ofInt 64 (a : Int) &&& BitVec.ofInt 64 (b : Int)).toNat : Nat) = _
  rw [BitVec.toNat_and, ofInt_toNat (by omega), ofInt_toNat (by omega)]
  exact wrapU ⟨by omega, by omega⟩
theorem mask32 {a : Nat} (ha : a < 2 ^ 32) : bits2 .and .u64 (a : Int) 4294967295 = (a : Int) := by
  have h := bitsU_and (a := a) (b := 4294967295) (by omega) (by decide)
  rw [show ((4294967295 : Nat) : Int) = 4294967295 from rfl] at h
  rw [h, show 4294967295 = 2 ^ 32 - 1 from rfl, Nat.and_two_pow_sub_one_eq_mod, Nat.mod_eq_of_lt ha]

theorem firstCells_run' {w : World} {A : Option Addr} {k l c z : Nat} {cs : List Value} (h : Rd w A cs) (hz : k * z = cs.length) (hn : A = none → cs = []) : (Builtin.firstCells z k (.slice A l c)).run P w = .ok cs.toArray w := by
  cases A with
  | none => simp [Builtin.firstCells, hn rfl]
  | some a => simp only [Builtin.firstCells]; exact loadCells_run h hz a rfl

theorem V_ldo {x : Operand} {t j : Nat} {A : Option Addr} {cs : List Value} {v : Value} (m : MdStep md .r md') (hA : Ag P t false) (hx : ev K x = some (.pointer (some (adr A j)))) (h : ∀ w, St w0 (rd md G) w → Rd w A cs) (hv : cs[j]? = some v)
    (hd : Nat.blt d n = true) (kk : V P ops Q md' rest n ((d, v) :: K) w0 G) : V P ops Q md (⟨some d, .load t x, ty, pos, af, none⟩ :: rest) n K w0 G :=
  V_read m rfl rfl hd (fun a w hk hw => by
    simp only [execOp]; rw [hk.eval hx]
    simp [run_loadAt1 hA ((h w hw) j v hv).2]) kk
theorem own_pl {t z : TypeId} {A : Option Addr} {l c : Nat} {cs : List Value} {x : Ent} (h : Own t z (.slice A l c) l cs x) : Pl A l := by
  rcases h with ⟨A', e, rfl, _⟩ | ⟨b, off, pre, sp, cap, e, _⟩
  · intro h; omega
  · cases e; exact Pl.own _ _ _

theorem V_copy {x y : Operand} {s s2 t e b o dl dc m c2 : Nat} {A2 : Option Addr} {cs cs' ms : List Value} {G' : List Ent} (mm : MdStep md .w md') (hu : P.underlying s = some (.slice t)) (hz : Sz P t 1) (hx : ev K x = some (.slice (some ⟨b, o, none⟩) dl dc)) (hy : ev K y = some (.slice A2 m c2))
    (hm : SetAt G (.c b e cs) (.c b e cs') G') (hr : ∀ w, St w0 G w → Rd w A2 ms) (hms : ms.length = min m dl) (h1 : ∀ u ∈ ms, u.oneCell' = true) (hl : o + min m dl ≤ cs.length) (hc : over cs o ms = cs') (hd : Nat.blt d n = true)
    (kk : V P ops Q md' rest n ((d, .int .i64 (min m dl : Nat)) :: K) w0 G') : V P ops Q md (⟨some d, .call ⟨.builtin .copy, #[x, y], #[s, s2]⟩, ty, pos, af, none⟩ :: rest) n K w0 G :=
  V_wild (post := fun v G2 => v = .int .i64 (min m dl : Nat) ∧ G2 = G') mm rfl (by simpa using hd)
    (fun a w hk hw => by
      have hrr := hr w hw
      obtain ⟨G1, G2, rfl, rfl⟩ := hm.split
      have h := hw.has (.c b e cs) (by simp)
      obtain ⟨w', hrun, a1, a2, a3, a4, a5, a6⟩ := storeCells_run (P := P) ms o 0 cs w h h1 (by omega)
      rw [Nat.add_zero, hc] at a6
      have hf : (Builtin.firstCells 1 (min m dl) (.slice A2 m c2)).run P w = .ok ms.toArray w := firstCells_run' hrr (by omega) (fun e => rd_none (e ▸ hrr))
      refine .inl ⟨_, w', ?_, .int .i64 (min m dl : Nat), _, rfl, hw.write (x := .c b e cs) (y := .c b e cs') rfl rfl a1 a2 a3 a4 a5 a6, rfl, rfl⟩
      simp only [execOp, resolve, List.map_toArray, List.map_cons, List.map_nil]; rw [hk.eval hx, hk.eval hy]
      have hnm : Nat.min m dl = min m dl := rfl
      simp [invoke, builtin, Builtin.copy_, run_underlying hu, Builtin.lenOf, hz w, hnm, hf, hrun, goInt])
    (by rintro v G2 ⟨rfl, rfl⟩; exact kk)

end Go.Proofs.YtgeahmmepfmcoaaDoor.L
