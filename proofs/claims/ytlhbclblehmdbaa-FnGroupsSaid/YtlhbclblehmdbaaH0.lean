/- The program's GroupsPut. -/
import Derived.Test.YtlhbclblehmdbaaG4
import Derived.Test.YtlhbclblehmdbaaG9
set_option linter.unusedVariables false
set_option linter.unusedSimpArgs false
namespace Go.Proofs.Ytlhbclblehmdbaa.PFnExactGroupsPut
open Go.RowKit Go.Proofs.YtlhbclblehmdbaaW.PrintWords Go.Proofs.YtlhbclblehmdbaaW.PrintLast Go.Proofs.YtlhbclblehmdbaaW.PrintMore

/-- A row that has been clipped: its room is its length, its block may hold more. -/
def Clipped (w : World) (base : Nat) (v : Value) (l : List S34) : Prop := (v = .slice none 0 0 ∧ l = []) ∨ ∃ g c, v = .slice (some ⟨g, 0, none⟩) l.length l.length ∧ Kd.R k34 34 w base (fun _ => True) (.slice (some ⟨g, 0, none⟩) l.length c) l

set_option maxHeartbeats 4000000 in
set_option maxRecDepth 100000 in
theorem impl_GroupsPut.no (k : Nat) (A0 : Option Addr) (c0 : Nat) (l0 : List S34) (y : S34) (va vg : Bool) (w : World) (hC : Kd.C k34 w A0 l0.length l0) (hc0 : l0.length ≤ c0) (h1 : impl_GroupsValid.f k l0 = some va) (h2 : impl_groupValid.f k y.f0 y.f1 = some vg) (hno : (va && vg) = false) :
    Calls Try.prog 18 #[.slice A0 l0.length c0, .agg #[.string y.f0, .int .i64 y.f1]] w fun e w' => e = .returned (.tuple #[.slice none 0 0, .bool false]) ∧ Below w.heap.size w w' := by
  have hu34 := Try.underlying34
  have HC := Aside0.mk hC
  have HC0 := Aside0.mk hc0
  have V1 := Aside0.mk h1
  have V2 := Aside0.mk h2
  clear hC hc0 h1 h2
  cases va with
  | false =>
    go_enter Try.func18, Try.ntmps18
    go_wp2_with (first
      | ((with_reducible refine gate_dst (N := 3) rfl ?_); refine box_event ?hg (N := 3) ?hd (cs := #[.string y.f0, .int .i64 y.f1]) (t := 34) ?hr ?_; (case hd => rfl); (case hg => rfl); (case hr => first | (go_simp; done) | (go_simp; rfl)); intro pb hg w1 hbox hb; have PB := Aside0.mk hg; have BK1 := Aside0.mk hbox; have BW1 := Aside0.mk hb; clear hg hbox hb)
      | (go_at_call 21; refine (impl_GroupsValid.calls k A0 c0 l0 _ _ (Kd.C_below HC.out BW1.out) HC0.out V1.out).mono ?_; rintro e w2 ⟨rfl, hb⟩; have BW2 := Aside0.mk (below_step BW1.out hb); have BK2 := Aside0.mk (blk_below BK1.out hb); clear hb; have x0 : w2.cell? ⟨pb, 0, none⟩ = some (.string y.f0) := blk_cell BK2.out 0; have x1 : w2.cell? ⟨pb, 1, none⟩ = some (.int .i64 y.f1) := blk_cell BK2.out 1))
    go_ret2
    exact ⟨rfl, BW2.out⟩
  | true =>
    cases vg with
    | true => cases hno
    | false =>
      go_enter Try.func18, Try.ntmps18
      go_wp2_with (first
        | ((with_reducible refine gate_dst (N := 3) rfl ?_); refine box_event ?hg (N := 3) ?hd (cs := #[.string y.f0, .int .i64 y.f1]) (t := 34) ?hr ?_; (case hd => rfl); (case hg => rfl); (case hr => first | (go_simp; done) | (go_simp; rfl)); intro pb hg w1 hbox hb; have PB := Aside0.mk hg; have BK1 := Aside0.mk hbox; have BW1 := Aside0.mk hb; clear hg hbox hb)
        | (go_at_call 21; refine (impl_GroupsValid.calls k A0 c0 l0 _ _ (Kd.C_below HC.out BW1.out) HC0.out V1.out).mono ?_; rintro e w2 ⟨rfl, hb⟩; have BW2 := Aside0.mk (below_step BW1.out hb); have BK2 := Aside0.mk (blk_below BK1.out hb); clear hb; have x0 : w2.cell? ⟨pb, 0, none⟩ = some (.string y.f0) := blk_cell BK2.out 0; have x1 : w2.cell? ⟨pb, 1, none⟩ = some (.int .i64 y.f1) := blk_cell BK2.out 1)
        | (go_at_call 46; refine (impl_groupValid.calls k y.f0 y.f1 _ _ V2.out).mono ?_; rintro e w3 ⟨rfl, hb⟩; have BW3 := Aside0.mk (below_step BW2.out hb); have BK3 := Aside0.mk (blk_below BK2.out hb); clear hb x0 x1))
      go_ret2
      exact ⟨rfl, BW3.out⟩

set_option maxHeartbeats 4000000 in
set_option maxRecDepth 100000 in
theorem impl_GroupsPut.yes (k : Nat) (A0 : Option Addr) (c0 : Nat) (l0 : List S34) (y : S34) (w : World) (hC : Kd.C k34 w A0 l0.length l0) (hc0 : l0.length ≤ c0) (h1 : impl_GroupsValid.f k l0 = some true) (h2 : impl_groupValid.f k y.f0 y.f1 = some true) (hl : l0.length ≤ 8)
    (hmono : ∀ a b, a ≤ b → b < l0.length → cmpS (l0.getD b z34).f0 y.f0 < 0 → cmpS (l0.getD a z34).f0 y.f0 < 0) (ok : Bool) (R : List S34) (hok : decide ((putL l0 y).length ≤ 8) = ok) (hRR : R = if ok = true then putL l0 y else []) :
    Calls Try.prog 18 #[.slice A0 l0.length c0, .agg #[.string y.f0, .int .i64 y.f1]] w fun e w' => ∃ v : Value, e = .returned (.tuple #[v, .bool ok]) ∧ Clipped w' w.heap.size v R ∧ Below w.heap.size w w' := by
  have OK := Aside0.mk hok
  have RR := Aside0.mk hRR
  clear hok hRR
  have hu34 := Try.underlying34
  have hu83 := Try.underlying83
  have HC := Aside0.mk hC
  have HC0 := Aside0.mk hc0
  have V1 := Aside0.mk h1
  have V2 := Aside0.mk h2
  have HL := Aside0.mk hl
  have MO := Aside0.mk hmono
  clear hC hc0 h1 h2 hl hmono
  go_enter Try.func18, Try.ntmps18
  go_upto_region 5 with (first
    | ((with_reducible refine gate_dst (N := 3) rfl ?_); refine box_event ?hg (N := 3) ?hd (cs := #[.string y.f0, .int .i64 y.f1]) (t := 34) ?hr ?_; (case hd => rfl); (case hg => rfl); (case hr => first | (go_simp; done) | (go_simp; rfl)); intro pb hg w1 hbox hb; have PB := Aside0.mk hg; have BK1 := Aside0.mk hbox; have BW1 := Aside0.mk hb; clear hg hbox hb)
    | (go_at_call 21; refine (impl_GroupsValid.calls k A0 c0 l0 _ _ (Kd.C_below HC.out BW1.out) HC0.out V1.out).mono ?_; rintro e w2 ⟨rfl, hb⟩; have BW2 := Aside0.mk (below_step BW1.out hb); have BK2 := Aside0.mk (blk_below BK1.out hb); clear hb; have x0 : w2.cell? ⟨pb, 0, none⟩ = some (.string y.f0) := blk_cell BK2.out 0; have x1 : w2.cell? ⟨pb, 1, none⟩ = some (.int .i64 y.f1) := blk_cell BK2.out 1)
    | (go_at_call 46; refine (impl_groupValid.calls k y.f0 y.f1 _ _ V2.out).mono ?_; rintro e w3 ⟨rfl, hb⟩; have BW3 := Aside0.mk (below_step BW2.out hb); have BK3 := Aside0.mk (blk_below BK2.out hb); clear hb x0 x1)
    | (go_at_call 47; refine (slices_Clone.calls A0 c0 l0 _ (Kd.C_below HC.out BW3.out) HC0.out (by have := HL.out; omega)).mono ?_; rintro e w4 ⟨v4, rfl, h4, hb⟩; obtain ⟨A4, c4, e4⟩ := Kd.R_slice h4; subst e4; have BW4 := Aside0.mk (below_step BW3.out hb); have BK4 := Aside0.mk (blk_below BK3.out hb); have R4 := Aside0.mk (Kd.R_lower h4 BW3.out.size); clear hb h4)
    | ((with_reducible refine gate_dst (N := 18) rfl ?_); refine box_event ?hg (N := 18) ?hd (cs := #[.int .i32 0, .int .u32 0, .slice A4 l0.length c4]) (t := 83) ?hr ?_; (case hd => rfl); (case hg => rfl); (case hr => first | (go_simp; done) | (go_simp; rfl)); intro mb hg w5 hbox hb; have MB := Aside0.mk (show w.heap.size ≤ mb by rw [hg]; exact BW4.out.size); have BM5 := Aside0.mk hbox; have BW5 := Aside0.mk (below_step BW4.out hb); have BK5 := Aside0.mk (blk_below BK4.out hb); have R5 := Aside0.mk (Kd.R_below R4.out hb); clear hg hbox hb; have x0 : w5.cell? ⟨pb, 0, none⟩ = some (.string y.f0) := blk_cell BK5.out 0; have x1 : w5.cell? ⟨pb, 1, none⟩ = some (.int .i64 y.f1) := blk_cell BK5.out 1)
    | (go_at_call 48; refine (members_put.calls w.heap.size mb _ l0 y w _ BM5.out R5.out (by have := HL.out; omega) MO.out BW5.out MB.out).mono ?_; rintro e w6 ⟨rfl, v6, m6, r6, b6⟩; obtain ⟨A6, c6, e6⟩ := Kd.R_slice r6; subst e6; have M6 := Aside0.mk m6; have R6 := Aside0.mk r6; have B6 := Aside0.mk b6; clear x0 x1 m6 r6 b6; have x2 : w6.cell? ⟨mb, 2, none⟩ = some (.slice A6 (putL l0 y).length c6) := blk_cell M6.out 2))
  have hcl : (putL l0 y).length ≤ c6 ∧ c6 ≤ 9223372036854775807 := by
    rcases (R_flat R6.out).2 with ⟨h, h0⟩ | ⟨g', cap, cur, h, h1, h2, h3, h4, h5, h6⟩
    · injection h with _ _ h
      omega
    · injection h with _ _ h
      subst h
      unfold maxLen at h4
      exact ⟨h3, by omega⟩
  have hn63 : ((putL l0 y).length : Int) ≤ 9223372036854775807 := by omega
  by_cases h8 : (putL l0 y).length ≤ 8
  · have d1 : decide (8 < (putL l0 y).length) = false := decide_eq_false (by omega)
    have d2 : decide ((8 : Int) < ((putL l0 y).length : Int)) = false := decide_eq_false (by omega)
    obtain rfl : ok = true := by rw [← OK.out]; exact decide_eq_true h8
    have H8 := Aside0.mk (show R = putL l0 y by rw [RR.out, if_pos rfl])
    clear h8 OK RR
    have HCL := Aside0.mk hcl
    clear hcl
    go_wp2_with (go_at_call 49; refine (slices_Clip.calls A6 _ c6 HCL.out.1 HCL.out.2 _).mono ?_; rintro e w7 ⟨rfl, rfl⟩)
    go_ret2
    refine ⟨_, rfl, ?_, B6.out⟩
    rw [H8.out]
    rcases (R_flat R6.out).2 with ⟨h, h0⟩ | ⟨g', cap, cur, h, _⟩
    · injection h with h _ _
      subst h
      have h0' := List.eq_nil_of_length_eq_zero h0
      exact .inl ⟨by rw [h0']; rfl, h0'⟩
    · injection h with h _ _
      subst h
      exact .inr ⟨g', c6, rfl, R6.out⟩
  · have d1 : decide (8 < (putL l0 y).length) = true := decide_eq_true (by omega)
    have d2 : decide ((8 : Int) < ((putL l0 y).length : Int)) = true := decide_eq_true (by omega)
    obtain rfl : ok = false := by rw [← OK.out]; exact decide_eq_false h8
    have H8 := Aside0.mk (show R = [] by rw [RR.out]; simp)
    clear h8 OK RR
    go_wp2
    go_ret2
    exact ⟨_, rfl, .inl ⟨rfl, H8.out⟩, B6.out⟩
end Go.Proofs.Ytlhbclblehmdbaa.PFnExactGroupsPut
