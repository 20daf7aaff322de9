/- The program's GroupsPut, told as the printed texts tell a function: what it hands back is the clipped form of a row of its own. -/
import Derived.Test.YtlhbclblehmdbaaD2
set_option linter.unusedVariables false
set_option linter.unusedSimpArgs false
namespace Go.Proofs.Ytlhbclblehmdbaa.PFnExactGroupsPut
open Go.RowKit Go.Proofs.YtlhbclblehmdbaaW.PrintWords Go.Proofs.YtlhbclblehmdbaaW.PrintLast Go.Proofs.YtlhbclblehmdbaaW.PrintMore

/-- The same slice, its room its length. -/
def clipV : Value → Value
  | .slice A n _ => .slice A n n
  | v => v
theorem clipV_slice (A : Option Addr) (n c : Nat) : clipV (.slice A n c) = .slice A n n := rfl
def putFits (k : Nat) (l : List S34) (n : ByteArray) : Bool := decide (l.length ≤ 1048576) && (l.all (fun x => decide (x.f0.size ≤ 1048576)) && (decide (n.size ≤ 1048576) && decide (100000000 ≤ k)))
theorem putFits_iff {k : Nat} {l : List S34} {n : ByteArray} : putFits k l n = true ↔ l.length ≤ 1048576 ∧ (∀ x ∈ l, x.f0.size ≤ 1048576) ∧ n.size ≤ 1048576 ∧ 100000000 ≤ k := by
  unfold putFits
  simp only [Bool.and_eq_true, decide_eq_true_eq, List.all_eq_true]
def impl_GroupsPut.f (k : Nat) (l0 : List S34) (a1_0 : ByteArray) (a1_1 : Int) : Option (List S34 × Bool) := if putFits k l0 a1_0 = true then spec_GroupsPut.f k l0 a1_0 a1_1 else none
theorem impl_GroupsPut.mono : ∀ a0 a1 a2 k, LeO (impl_GroupsPut.f k a0 a1 a2) (impl_GroupsPut.f (k + 1) a0 a1 a2) := by
  intro a0 a1 a2 k r h
  unfold impl_GroupsPut.f at h ⊢
  by_cases c : putFits k a0 a1 = true
  · rw [if_pos c] at h
    have c' := putFits_iff.1 c
    rw [if_pos (putFits_iff.2 ⟨c'.1, c'.2.1, c'.2.2.1, by omega⟩)]
    exact spec_GroupsPut.mono _ _ _ _ r h
  · rw [if_neg c] at h
    cases h
theorem impl_GroupsPut.calls (k : Nat) (A0 : Option Addr) (c0 : Nat) (l0 : List (S34)) (a1_0 : ByteArray) (a1_1 : Int) (r1 : List (S34)) (r2 : Bool) (w : World) (hr0 : Kd.C k34 w A0 l0.length l0) (hc0 : l0.length ≤ c0) (h : impl_GroupsPut.f k l0 a1_0 a1_1 = some (r1, r2)) :
    Calls Try.prog 18 #[.slice A0 l0.length c0, .agg #[.string a1_0, .int .i64 a1_1]] w fun e w' => ∃ v0_ : Value, e = .returned (.tuple #[clipV v0_, .bool r2]) ∧ Kd.R k34 34 w' w.heap.size (fun _ => True) v0_ r1 ∧ Below w.heap.size w w' := by
  unfold impl_GroupsPut.f at h
  by_cases c : putFits k l0 a1_0 = true
  · rw [if_pos c] at h
    obtain ⟨c1, c2, c3, c4⟩ := putFits_iff.1 c
    obtain ⟨R, ok, _, hs, hi⟩ := both_put k l0 ⟨a1_0, a1_1⟩ c2 c3 c1 c4
    have e : (r1, r2) = (R, ok) := Option.some.inj (h.symm.trans hs)
    injection e with e1 e2
    subst e1 e2
    refine (hi A0 c0 w hr0 hc0).mono fun e w' ⟨v, he, hcl, hb⟩ => ?_
    rcases hcl with ⟨rfl, rfl⟩ | ⟨g, c, rfl, hr⟩
    · exact ⟨.slice none 0 0, he, Kd.R_nil _ _ _ _ _, hb⟩
    · exact ⟨.slice (some ⟨g, 0, none⟩) r1.length c, he, hr, hb⟩
  · rw [if_neg c] at h
    cases h
end Go.Proofs.Ytlhbclblehmdbaa.PFnExactGroupsPut
