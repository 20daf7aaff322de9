/- The law FnExactGroupsPut returns true for every list of groups and every group that can be read. -/
import Derived.Test.YtlhbclblehmdbaaH9
set_option linter.unusedVariables false
set_option linter.unusedSimpArgs false
namespace Go.Proofs.Ytlhbclblehmdbaa.PFnExactGroupsPut
open Go.RowKit Go.Proofs.YtlhbclblehmdbaaW.PrintWords Go.Proofs.YtlhbclblehmdbaaW.PrintLast Go.Proofs.YtlhbclblehmdbaaW.PrintMore

theorem bool_iff {a b : Bool} {P : Prop} (h1 : a = true ↔ P) (h2 : b = true ↔ P) : a = b := by
  cases a <;> cases b <;> simp_all
/-- The reference and the program at the same arguments. -/
theorem both_put (K : Nat) (a : List S34) (y : S34) (hM : ∀ x ∈ a, x.f0.size ≤ 1048576) (hy : y.f0.size ≤ 1048576) (hl : a.length ≤ 1048576) (hK : 100000000 ≤ K) : ∃ (R : List S34) (ok : Bool), R.length ≤ 8 ∧
    spec_GroupsPut.f K a y.f0 y.f1 = some (R, ok) ∧
    ∀ (A : Option Addr) (c : Nat) (w : World), Kd.C k34 w A a.length a → a.length ≤ c → Calls Try.prog 18 #[.slice A a.length c, .agg #[.string y.f0, .int .i64 y.f1]] w fun e w' => ∃ v : Value, e = .returned (.tuple #[v, .bool ok]) ∧ Clipped w' w.heap.size v R ∧ Below w.heap.size w w' := by
  obtain ⟨va, hva, iva⟩ := impl_vl a K hM (by omega) (by omega)
  obtain ⟨va', hva', iva'⟩ := spec_vl a K hM (by omega) (by omega)
  obtain rfl : va = va' := bool_iff iva iva'
  obtain ⟨vg, hvg, ivg⟩ := impl_gv y K (by omega) (by omega)
  obtain ⟨vg', hvg', ivg'⟩ := spec_gv y K (by omega) (by omega)
  obtain rfl : vg = vg' := bool_iff ivg ivg'
  obtain ⟨k, rfl⟩ : ∃ k, K = k + 1 := ⟨K - 1, by omega⟩
  by_cases hno : (va && vg) = false
  · refine ⟨[], false, by simp, ?_, fun A c w hC hc => (impl_GroupsPut.no (k + 1) A c a y va vg w hC hc hva hvg hno).mono fun e w' ⟨he, hb⟩ => ⟨_, he, .inl ⟨rfl, rfl⟩, hb⟩⟩
    unfold spec_GroupsPut.f
    rw [hva']
    cases va with
    | false => simp [spec_GroupsPut.j0]
    | true =>
      cases vg with
      | true => cases hno
      | false => simp [hvg', spec_GroupsPut.j0]
  · have h2 : va = true ∧ vg = true := by cases va <;> cases vg <;> simp_all
    obtain ⟨rfl, rfl⟩ := h2
    have hv := iva.1 rfl
    refine ⟨if decide ((putL a y).length ≤ 8) = true then putL a y else [], decide ((putL a y).length ≤ 8), ?_, ?_, fun A c w hC hc => impl_GroupsPut.yes (k + 1) A c a y w hC hc hva hvg hv.1 (vl_mono hv y.f0) _ _ rfl rfl⟩
    · split
      · rename_i h; exact of_decide_eq_true h
      · simp
    · unfold spec_GroupsPut.f
      rw [hva']
      simp only [Option.bind_some, if_true, hvg', Bool.not_true]
      rw [spec_GroupsPut.j0, if_neg (by decide)]
      have h0 := spec_put_loop y a (by omega) a.length k 0 [] false (by omega) (by omega) (by omega) (by simp)
      rw [show ((0 : Nat) : Int) = 0 from rfl] at h0
      rw [h0, List.nil_append, List.drop_zero, ← putL_ref y a (vl_pair hv)]
      unfold fin8
      by_cases h8 : (putL a y).length ≤ 8
      · rw [if_neg (by omega)]; simp [h8]
      · rw [if_pos (by omega)]; simp [h8]

set_option maxHeartbeats 1000000 in
set_option maxRecDepth 100000 in
theorem law_all (aA : List S48) (A0 : Option Addr) (c0 : Nat) (yn : ByteArray) (yx : Int) (w : World) (ha : Kd.C k48 w A0 aA.length aA) (hc0 : aA.length ≤ c0) (hx : ∀ x ∈ aA, x.f0.size ≤ 9223372036854775807) (hyn : yn.size ≤ 9223372036854775807) :
    Calls Try.prog 9 #[.slice A0 aA.length c0, .agg #[.string yn, .int .i64 yx]] w fun e w' => e = .returned (.bool true) ∧ Below w.heap.size w w' := by
  obtain ⟨K, hK⟩ : ∃ K, K = 100000000 + aA.length := ⟨_, rfl⟩
  obtain ⟨r1, s1, h1⟩ := szS aA K 1048576 ha.2.1 hx (by omega) (by omega) (by omega)
  by_cases n1 : r1 < 0
  · have HA := Aside0.mk ha
    have HC0 := Aside0.mk hc0
    have S1 := Aside0.mk s1
    clear ha hc0 hx s1 h1 hK
    have hu48 := Try.underlying48
    go_enter Try.func9, Try.ntmps9
    go_wp2_with (first
      | ((with_reducible refine gate_dst (N := 3) rfl ?_); refine box_event ?hg (N := 3) ?hd (cs := #[.string yn, .int .i64 yx]) (t := 48) ?hr ?_; (case hd => rfl); (case hg => rfl); (case hr => first | (go_simp; done) | (go_simp; rfl)); intro pb hg w1 hbox hb; have HW := Aside0.mk hb; clear hg hbox hb)
      | (go_at_call 22; refine (laws_szGroupS.calls K A0 c0 aA 1048576 r1 _ (Kd.C_below HA.out HW.out) HC0.out S1.out).mono ?_; rintro e w2 ⟨rfl, hb⟩; replace HW := Aside0.mk (below_step HW.out hb); clear hb))
    go_ret
    exact ⟨rfl, HW.out⟩
  · have h1' : r1 = 1048576 - aA.length - sz48 aA ∧ 0 ≤ r1 := h1.resolve_left n1
    obtain ⟨r2, s2, h2⟩ := szOne yn yx r1 (by omega) (by omega) hyn
    by_cases n2 : r2 < 0
    · have HA := Aside0.mk ha
      have HC0 := Aside0.mk hc0
      have S1 := Aside0.mk s1
      have S2 := Aside0.mk s2
      have p1 : 0 ≤ r1 := h1'.2
      clear ha hc0 hx s1 s2 h1 h1' h2 hK
      have hu48 := Try.underlying48
      go_enter Try.func9, Try.ntmps9
      go_wp2_with (first
        | ((with_reducible refine gate_dst (N := 3) rfl ?_); refine box_event ?hg (N := 3) ?hd (cs := #[.string yn, .int .i64 yx]) (t := 48) ?hr ?_; (case hd => rfl); (case hg => rfl); (case hr => first | (go_simp; done) | (go_simp; rfl)); intro pb hg w1 hbox hb; have BK := Aside0.mk hbox; have HW := Aside0.mk hb; clear hg hbox hb)
        | (go_at_call 22; refine (laws_szGroupS.calls K A0 c0 aA 1048576 r1 _ (Kd.C_below HA.out HW.out) HC0.out S1.out).mono ?_; rintro e w2 ⟨rfl, hb⟩; replace BK := Aside0.mk (blk_below BK.out hb); replace HW := Aside0.mk (below_step HW.out hb); clear hb; have x0 : w2.cell? ⟨pb, 0, none⟩ = some (.string yn) := blk_cell BK.out 0; have x1 : w2.cell? ⟨pb, 1, none⟩ = some (.int .i64 yx) := blk_cell BK.out 1)
        | (go_at_call 29; refine (laws_szGroup.calls yn yx r1 r2 _ S2.out).mono ?_; rintro e w3 ⟨rfl, hb⟩; clear x0 x1; replace HW := Aside0.mk (below_step HW.out hb); clear hb))
      go_ret
      exact ⟨rfl, HW.out⟩
    · have h2' : r2 = r1 - yn.size ∧ 0 ≤ r2 := h2.resolve_left n2
      have hM : ∀ x ∈ aA.map conv, x.f0.size ≤ 1048576 := fun x hx => by
        obtain ⟨z, hz, rfl⟩ := List.mem_map.1 hx
        have := sz48_le aA z hz
        show z.f0.size ≤ 1048576
        omega
      obtain ⟨R, ok, hR, hS, hI⟩ := both_put K (aA.map conv) ⟨yn, yx⟩ hM (by show yn.size ≤ 1048576; omega) (by rw [List.length_map]; omega) (by omega)
      exact law_small K aA A0 c0 yn yx (aA.map conv) R ok r1 r2 w ha hc0 s1 s2 h1'.2 h2'.2 (toS aA K (by omega) (by omega)) (by rw [List.length_map]; omega) (by omega) (by omega) hS hI
end Go.Proofs.Ytlhbclblehmdbaa.PFnExactGroupsPut
