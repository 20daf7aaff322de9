/- The program's GroupsPut returns what the reference's returns: the law FnExactGroupsPut returns true for every list and every group that can be read, and leaves its arguments as they were. -/
import Derived.Test.YtlhbclblehmdbaaRows
import Derived.Test.YtlhbclblehmdbaaH10
import Derived.Test.YtlhbclblehmdbaaL0
import Derived.WalkKit
import Derived.ProofKit
import Derived.OpenShut
import Derived.ShutString
import Derived.ChangeOld
import Derived.Below
import Derived.SizedLaws
set_option linter.unusedVariables false

namespace Go.Proofs.Ytlhbclblehmdbaa.fnExactGroupsPut
open Go.ChangeShapes Go.WideShapes Go.ChangeAt Go.RowKit
theorem own : ownKnob Try.prog.godebug = none := by kernel_rfl
theorem laidOut : laidOutB Try.prog = true := by kernel_rfl
set_option maxRecDepth 100000 in
theorem lifted (os : Os) (started : os.Started) (H : Type) (enc : TypeId × Value → H) (F : Stop.Interp) :
    ReturnsInLeavingWide Rows.fnExactGroupsPutRow.assume Try.checked os 9 .any (Rows.fnExactGroupsPutSpec.pre6 enc Try.prog Try.f9 Rows.fnExactGroupsPutRow.domain false) ((OpenSpec.ofChange Rows.fnExactGroupsPutSpec).postWith enc Try.prog Try.f9 F (outsideKept [.timePasses]) false true false) := by
  refine returnsInLeavingTime_of_change (C := Try.checked) own started (by kernel_rfl) Try.func9
    (ChangeSpec.witness6c (enc := enc) (C := Try.checked) ⟨#[], #[.slice none 0 0, .agg #[.string ⟨#[]⟩, .int .i64 0]], []⟩ 8 (by kernel_rfl) (by kernel_rfl) (by kernel_rfl) (by kernel_rfl)) ?_
  intro W base args ds gs before hval0 hW hcnd hsz0
  have hval : ∀ (j : Nat) t v, Try.f9.params[j]? = some t → args[j]? = some v → Value.okWide Try.prog W .any base t v := hval0
  have hW' := hW
  obtain ⟨p, q, hA0, hV, rfl, hfz, hnd⟩ := hW
  have hA : DataW.TrodAll enc Try.prog W 0 (fun _ => true) true Try.f9.params.toList args.toList ds p := hA0
  rw [Try.params9] at hA hval
  obtain ⟨v0, vs0, d0, ds0, p0, q0, hargs, rfl, rfl, h0, r0⟩ := trodAll_cons hA
  obtain ⟨v1, vs1, d1, ds1, p1, q1, rfl, rfl, rfl, h1, r1⟩ := trodAll_cons r0
  obtain ⟨rfl, rfl, rfl⟩ := trodAll_nil r1
  obtain rfl : args = #[v0, v1] := by cases args; simp_all
  obtain ⟨rfl, rfl⟩ := trodVars_none hV
  obtain ⟨a0, len0, cap0, rfl⟩ := okWide_slice Try.underlying42 (hval 0 42 v0 rfl rfl)
  have hv1 := hval 1 48 v1 rfl rfl
  have k0 := h0
  have k1 := h1
  have lt0 : ∀ x ∈ p0, x.block < W.heap.size := by obtain ⟨m, hm⟩ := k0; exact DataW.trod_lt m _ _ _ hm
  have lt1 : ∀ x ∈ p1, x.block < W.heap.size := by obtain ⟨m, hm⟩ := k1; exact DataW.trod_lt m _ _ _ hm
  obtain ⟨f0, hf0⟩ := h0
  obtain ⟨A0, c0, l0, e0, hc0, g0, x0⟩ := PFnExactGroupsPut.open_groups hf0
  obtain ⟨u0, u1, z0, z1, m, rfl, _, _, t0, t1⟩ := Go.Joins.open_agg2 Try.underlying48 (by kernel_rfl) (by kernel_rfl) hv1 h1
  obtain ⟨yn, rfl, hyn⟩ := PFnExactGroupsPut.open_str t0
  obtain ⟨yx, rfl⟩ := PFnExactGroupsPut.open_i64 t1
  cases e0
  clear hA0 hval0 hsz0 hval hf0 hA r0 r1 hv1
  refine (PFnExactGroupsPut.law_all l0 a0 cap0 yn yx W g0 hc0 x0 hyn).mono fun e W' ⟨he, bel⟩ => ?_
  subst he
  exact ⟨_, rfl, ⟨_, _, _, [], _, [], hW', trodAll_mk1 (shut_bool Try.underlying4 _), (trodAll_cons_mk (Below.trod laidOut (by kernel_rfl) (of_decide_eq_true (by kernel_rfl)) k0 bel lt0) (trodAll_cons_mk (Below.trod laidOut (by kernel_rfl) (of_decide_eq_true (by kernel_rfl)) k1 bel lt1) trodAll_mk0)), rfl, bel.frame _, fun h => by cases h⟩, bel.os⟩
theorem over : Rows.fnExactGroupsPutRow.holds Try.pinned (OpenSpec.ofChange Rows.fnExactGroupsPutSpec) :=
  OpenClaim.holds_of_wide_leaving_time 9 Try.f9 rfl rfl rfl rfl rfl rfl rfl ⟨rfl, rfl, rfl, rfl, rfl⟩ rfl rfl rfl rfl rfl (by kernel_rfl) Try.func9 (by kernel_rfl)
    (of_decide_eq_true (by kernel_rfl)) (by unfold Func.isWrapper; first | (rw [if_pos (by decide +kernel)]; kernel_rfl) | (rw [if_neg (by decide +kernel)]; exact ⟨rfl, rfl⟩))
    (fun os started H enc _ F => lifted os started H enc F)
theorem proved : Rows.FnExactGroupsPutSaid := over
#print axioms proved
end Go.Proofs.Ytlhbclblehmdbaa.fnExactGroupsPut
namespace Go.Proofs.Ytlhbclblehmdbaa
/-- The row, under a short name, for the claim. -/
theorem fnExactGroupsPut_holds : Rows.FnExactGroupsPutSaid := fnExactGroupsPut.proved
end Go.Proofs.Ytlhbclblehmdbaa
