/- The contract of the program's RecordsMerge: for two rows that can be read, the merged row in new memory of which no two records share any, or nothing. -/
import Derived.Test.YtlhbclblehmdbaaB3
import Derived.Test.YtlhbclblehmdbaaA3
set_option linter.unusedVariables false
set_option linter.unusedSimpArgs false
namespace Go.Proofs.Ytlhbclblehmdbaa.PFnExactRecordsMerge
open Go.RowKit Go.Proofs.YtlhbclblehmdbaaW.PrintWords Go.Proofs.YtlhbclblehmdbaaW.PrintLast Go.Proofs.YtlhbclblehmdbaaW.PrintMore
open Go.Proofs.Ytlhbclblehmdbaa.Comm

/-- Two rows merged by their times, the first row's ahead. -/
def mergeF : List S58 → List S58 → List S58
  | [], ys => ys
  | x :: xs, [] => x :: xs
  | x :: xs, y :: ys => if x.f1 ≤ y.f1 then x :: mergeF xs (y :: ys) else y :: mergeF (x :: xs) ys
  termination_by xs ys => xs.length + ys.length
def mergeOk (va vb : Bool) (a b : List S58) : Bool := va && vb && decide (a.length + b.length ≤ 30)

set_option maxHeartbeats 4000000 in
set_option maxRecDepth 100000 in
theorem impl_RecordsMerge.no (k : Nat) (A0 : Option Addr) (c0 : Nat) (l0 : List S58) (A1 : Option Addr) (c1 : Nat) (l1 : List S58) (va vb : Bool) (w : World) (hr0 : Kd.C k58 w A0 l0.length l0) (hc0 : l0.length ≤ c0) (hr1 : Kd.C k58 w A1 l1.length l1) (hc1 : l1.length ≤ c1)
    (hva : impl_rowValid.f k l0 = some va) (hvb : impl_rowValid.f k l1 = some vb) (hm : l0.length ≤ 1048576) (hn : l1.length ≤ 1048576) (hno : mergeOk va vb l0 l1 = false) :
    Calls Try.prog 13 #[.slice A0 l0.length c0, .slice A1 l1.length c1] w fun e w' => e = .returned (.tuple #[.slice none 0 0, .bool false]) ∧ Below w.heap.size w w' := by
  have HR0 := Aside0.mk hr0
  have HC0 := Aside0.mk hc0
  have HR1 := Aside0.mk hr1
  have HC1 := Aside0.mk hc1
  have HVA := Aside0.mk hva
  have HVB := Aside0.mk hvb
  have HN := Aside0.mk hno
  clear hr0 hc0 hr1 hc1 hva hvb hno
  cases va with
  | false =>
    clear HN
    go_enter Try.func13, Try.ntmps13
    go_wp2_with (first | (go_at_call 37; refine (impl_rowValid.calls k A0 c0 l0 false _ HR0.out HC0.out HVA.out).mono ?_; rintro e w1 ⟨rfl, hb⟩; have HB := Aside0.mk hb; clear hb))
    go_ret2
    exact ⟨rfl, HB.out⟩
  | true =>
    cases vb with
    | false =>
      clear HN
      go_enter Try.func13, Try.ntmps13
      go_wp2_with fail
      refine (impl_rowValid.calls k A0 c0 l0 true _ HR0.out HC0.out HVA.out).mono ?_
      rintro e w1 ⟨rfl, hb⟩
      have HB := Aside0.mk hb
      clear hb
      go_wp2_with fail
      refine (impl_rowValid.calls k A1 c1 l1 false _ (Kd.C_below HR1.out HB.out) HC1.out HVB.out).mono ?_
      rintro e w2 ⟨rfl, hb⟩
      have HB2 := Aside0.mk (below_step HB.out hb)
      clear hb
      go_wp2
      go_ret2
      exact ⟨rfl, HB2.out⟩
    | true =>
      have hgt : 31 ≤ l0.length + l1.length := by
        have := HN.out
        simp only [mergeOk, Bool.true_and, decide_eq_false_iff_not] at this
        omega
      clear HN
      go_enter Try.func13, Try.ntmps13
      go_wp2_with fail
      refine (impl_rowValid.calls k A0 c0 l0 true _ HR0.out HC0.out HVA.out).mono ?_
      rintro e w1 ⟨rfl, hb⟩
      have HB := Aside0.mk hb
      clear hb
      go_wp2_with fail
      refine (impl_rowValid.calls k A1 c1 l1 true _ (Kd.C_below HR1.out HB.out) HC1.out HVB.out).mono ?_
      rintro e w2 ⟨rfl, hb⟩
      have HB2 := Aside0.mk (below_step HB.out hb)
      clear hb
      go_wp2
      go_ret2
      exact ⟨rfl, HB2.out⟩
end Go.Proofs.Ytlhbclblehmdbaa.PFnExactRecordsMerge
