/- The program's RecordsMerge returns what the reference's returns: the law FnExactRecordsMerge returns true for every two rows of records that can be read, and leaves its arguments as they were. -/
import Derived.Test.YtlhbclblehmdbaaRows
import Derived.Test.YtlhbclblehmdbaaB8
import Derived.Test.YtlhbclblehmdbaaB11
import Derived.WalkKit
import Derived.ProofKit
import Derived.OpenShut
import Derived.ShutString
import Derived.ChangeOld
import Derived.Below
import Derived.SizedLaws
set_option linter.unusedVariables false
namespace Go.Proofs.Ytlhbclblehmdbaa.PFnExactRecordsMerge
open Go.RowKit Go.Proofs.YtlhbclblehmdbaaW.PrintWords Go.Proofs.YtlhbclblehmdbaaW.PrintLast Go.Proofs.YtlhbclblehmdbaaW.PrintMore

set_option maxHeartbeats 1000000 in
set_option maxRecDepth 100000 in
theorem law_all (aA : List S56) (A0 : Option Addr) (c0 : Nat) (bB : List S56) (A1 : Option Addr) (c1 : Nat) (w : World) (ha : Kd.C k56 w A0 aA.length aA) (hc0 : aA.length ≤ c0) (hb : Kd.C k56 w A1 bB.length bB) (hc1 : bB.length ≤ c1)
    (xa : ∀ x ∈ aA, x.f3.length ≤ 9223372036854775807 ∧ x.f5.length ≤ 9223372036854775807) (xb : ∀ x ∈ bB, x.f3.length ≤ 9223372036854775807 ∧ x.f5.length ≤ 9223372036854775807) :
    Calls Try.prog 3 #[.slice A0 aA.length c0, .slice A1 bB.length c1] w fun e w' => e = .returned (.bool true) ∧ Below w.heap.size w w' := by
  obtain ⟨K, hK⟩ : ∃ K, K = 100000000 + aA.length + bB.length := ⟨_, rfl⟩
  obtain ⟨r1, s1, h1⟩ := szRecs aA 1048576 K ha.2.1 xa (by omega) (by omega) (by omega)
  by_cases n1 : r1 < 0
  · have HA := Aside0.mk ha
    have HC0 := Aside0.mk hc0
    have S1 := Aside0.mk s1
    clear ha hb hc0 hc1 xa xb s1 h1 hK
    have hu56 := Try.underlying56
    go_enter Try.func3, Try.ntmps3
    go_wp2_with fail
    refine (laws_szRecordS.calls K A0 c0 aA 1048576 r1 _ HA.out HC0.out S1.out).mono ?_
    rintro e w1 ⟨rfl, hb⟩
    have HW := Aside0.mk hb
    clear hb
    go_wp2
    go_ret
    exact ⟨rfl, HW.out⟩
  · have h1' : r1 = 1048576 - aA.length - sz56 aA ∧ 0 ≤ r1 := h1.resolve_left n1
    obtain ⟨r2, s2, h2⟩ := szRecs bB r1 K hb.2.1 xb (by omega) (by omega) (by omega)
    by_cases n2 : r2 < 0
    · have HA := Aside0.mk ha
      have HB := Aside0.mk hb
      have HC0 := Aside0.mk hc0
      have HC1 := Aside0.mk hc1
      have S1 := Aside0.mk s1
      have S2 := Aside0.mk s2
      have p1 : 0 ≤ r1 := by omega
      clear ha hb hc0 hc1 xa xb s1 s2 h1 h1' h2 hK
      have hu56 := Try.underlying56
      go_enter Try.func3, Try.ntmps3
      go_wp2_with fail
      refine (laws_szRecordS.calls K A0 c0 aA 1048576 r1 _ HA.out HC0.out S1.out).mono ?_
      rintro e w1 ⟨rfl, hb⟩
      have HW := Aside0.mk hb
      clear hb
      go_wp2_with fail
      refine (laws_szRecordS.calls K A1 c1 bB r1 r2 _ (Kd.C_below HB.out HW.out) HC1.out S2.out).mono ?_
      rintro e w2 ⟨rfl, hb⟩
      have HW2 := Aside0.mk (below_step HW.out hb)
      clear hb
      go_wp2
      go_ret
      exact ⟨rfl, HW2.out⟩
    · have h2' : r2 = r1 - bB.length - sz56 bB ∧ 0 ≤ r2 := h2.resolve_left n2
      have xa' : ∀ x ∈ aA, x.f3.length ≤ 1048576 ∧ x.f5.length ≤ 1048576 := fun x hx => by have := sz56_le aA x hx; omega
      have xb' : ∀ x ∈ bB, x.f3.length ≤ 1048576 ∧ x.f5.length ≤ 1048576 := fun x hx => by have := sz56_le bB x hx; omega
      refine law_small K (by omega) aA A0 c0 bB A1 c1 (aA.map conv) (bB.map conv) _ _ r1 r2 w ha hc0 hb hc1 s1 s2 (by omega) (by omega) (toRecs 1048576 aA K (by omega) xa' (by omega) (by omega)) (toRecs 1048576 bB K (by omega) xb' (by omega) (by omega)) ⟨by rw [List.length_map]; omega, by rw [List.length_map]; omega, ?_, ?_, by rw [bulk_conv]; omega, by rw [bulk_conv]; omega, rfl, rfl⟩
      · intro x hx
        obtain ⟨y, hy, rfl⟩ := List.mem_map.1 hx
        exact xa' y hy
      · intro x hx
        obtain ⟨y, hy, rfl⟩ := List.mem_map.1 hx
        exact xb' y hy
end Go.Proofs.Ytlhbclblehmdbaa.PFnExactRecordsMerge

namespace Go.Proofs.Ytlhbclblehmdbaa.fnExactRecordsMerge
open Go.ChangeShapes Go.WideShapes Go.ChangeAt Go.RowKit
theorem own : ownKnob Try.prog.godebug = none := by kernel_rfl
theorem laidOut : laidOutB Try.prog = true := by kernel_rfl
set_option maxRecDepth 100000 in
theorem lifted (os : Os) (started : os.Started) (H : Type) (enc : TypeId × Value → H) :
    ReturnsInHanded {} Try.checked os 3 .any (Rows.fnExactRecordsMergeSpec.pre6 enc Try.prog Try.f3 Rows.fnExactRecordsMergeRow.domain false) (Rows.fnExactRecordsMergeSpec.post enc Try.prog Try.f3 false true false false) := by
  refine returnsInHanded_of_change_sized (C := Try.checked) own started (by kernel_rfl) Try.func3
    (ChangeSpec.witness6 (enc := enc) (C := Try.checked) false ⟨#[], #[.slice none 0 0, .slice none 0 0], []⟩ 8 (by kernel_rfl) (by kernel_rfl) (by kernel_rfl) (by kernel_rfl)) ?_
  intro W base args ds gs before hval0 hW hcnd hsz0 _
  have hval : ∀ (j : Nat) t v, Try.f3.params[j]? = some t → args[j]? = some v → Value.okWide Try.prog W .any base t v := hval0
  have hW' := hW
  obtain ⟨p, q, hA0, hV, rfl, hfz, hnd⟩ := hW
  have hA : DataW.TrodAll enc Try.prog W 0 (fun _ => true) true Try.f3.params.toList args.toList ds p := hA0
  rw [Try.params3] at hA hval
  obtain ⟨v0, vs0, d0, ds0, p0, q0, hargs, rfl, rfl, h0, r0⟩ := trodAll_cons hA
  obtain ⟨v1, vs1, d1, ds1, p1, q1, rfl, rfl, rfl, h1, r1⟩ := trodAll_cons r0
  obtain ⟨rfl, rfl, rfl⟩ := trodAll_nil r1
  obtain rfl : args = #[v0, v1] := by cases args; simp_all
  obtain ⟨rfl, rfl⟩ := trodVars_none hV
  obtain ⟨a0, len0, cap0, rfl⟩ := okWide_slice Try.underlying22 (hval 0 22 v0 rfl rfl)
  obtain ⟨a1, len1, cap1, rfl⟩ := okWide_slice Try.underlying22 (hval 1 22 v1 rfl rfl)
  have k0 := h0
  have k1 := h1
  have lt0 : ∀ x ∈ p0, x.block < W.heap.size := by obtain ⟨m, hm⟩ := k0; exact DataW.trod_lt m _ _ _ hm
  have lt1 : ∀ x ∈ p1, x.block < W.heap.size := by obtain ⟨m, hm⟩ := k1; exact DataW.trod_lt m _ _ _ hm
  obtain ⟨f0, hf0⟩ := h0
  obtain ⟨f1, hf1⟩ := h1
  obtain ⟨A0, c0, l0, e0, hc0, g0, x0⟩ := PFnExactRecordsMerge.open_recs hf0
  obtain ⟨A1, c1, l1, e1, hc1, g1, x1⟩ := PFnExactRecordsMerge.open_recs hf1
  cases e0
  cases e1
  clear hA0 hval0 hsz0 hval hf0 hf1 hA r0 r1
  refine (PFnExactRecordsMerge.law_all l0 a0 cap0 l1 a1 cap1 W g0 hc0 g1 hc1 x0 x1).mono fun e W' ⟨he, bel⟩ => ?_
  subst he
  exact ⟨_, rfl, _, _, _, [], _, [], hW', trodAll_mk1 (shut_bool Try.underlying4 _), (trodAll_cons_mk (Below.trod laidOut (by kernel_rfl) (of_decide_eq_true (by kernel_rfl)) k0 bel lt0) (trodAll_cons_mk (Below.trod laidOut (by kernel_rfl) (of_decide_eq_true (by kernel_rfl)) k1 bel lt1) trodAll_mk0)), rfl, bel.frame _, fun h => by cases h⟩
theorem over : Rows.fnExactRecordsMergeRow.holds Try.pinned (OpenSpec.ofChange Rows.fnExactRecordsMergeSpec) :=
  OpenClaim.holds_of_wide 3 Try.f3 rfl rfl rfl rfl rfl rfl rfl ⟨rfl, rfl, rfl, rfl, rfl⟩ rfl rfl rfl rfl rfl (by kernel_rfl) Try.func3 (by kernel_rfl)
    (of_decide_eq_true (by kernel_rfl)) (by unfold Func.isWrapper; first | (rw [if_pos (by decide +kernel)]; kernel_rfl) | (rw [if_neg (by decide +kernel)]; exact ⟨rfl, rfl⟩))
    (fun os started H enc _ => lifted os started H enc)
theorem proved : Rows.FnExactRecordsMergeSaid := over
#print axioms proved
end Go.Proofs.Ytlhbclblehmdbaa.fnExactRecordsMerge
namespace Go.Proofs.Ytlhbclblehmdbaa
/-- The row, under a short name, for the claim. -/
theorem fnExactRecordsMerge_holds : Rows.FnExactRecordsMergeSaid := fnExactRecordsMerge.proved
end Go.Proofs.Ytlhbclblehmdbaa
