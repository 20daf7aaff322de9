/- The program's and the reference's GroupsValid: the printed words, the walks by one walk of the region that compares two neighbours. -/
import Derived.Test.YtlhbclblehmdbaaG1
import Derived.Test.YtlhbclblehmdbaaG3
import Derived.Laws.Cover1
set_option linter.unusedVariables false
set_option linter.unusedSimpArgs false
namespace Go.Proofs.Ytlhbclblehmdbaa.PFnExactGroupsPut
open Go.RowKit Go.Proofs.YtlhbclblehmdbaaW.PrintWords Go.Proofs.YtlhbclblehmdbaaW.PrintLast Go.Proofs.YtlhbclblehmdbaaW.PrintMore
def impl_GroupsValid.l0 : Nat → List (S34) → List (S34) → Int → Int → Option (Bool)
  | 0, _, _, _, _ => none
  | k + 1, x0, x8, x9, x10 => if x10 < x9 then (if 0 ≤ x10 then (if x10 < (x8.length : Int) then ((impl_groupValid.f k ((rd_T34 x8 x10).f0) ((rd_T34 x8 x10).f1)).bind fun t106 => (if t106 = true then (if x10 > 0 then (if 0 ≤ (wrap64 (x10 - 1)) then (if (wrap64 (x10 - 1)) < (x0.length : Int) then (if ((Op.bytesLess (((rd_T34 x0 (wrap64 (x10 - 1))).f0).toList) (((rd_T34 x8 x10).f0).toList)) = true) then (impl_GroupsValid.l0 k x0 x8 x9 (wrap64 (x10 + 1))) else (some false)) else (none)) else (none)) else (impl_GroupsValid.l0 k x0 x8 x9 (wrap64 (x10 + 1)))) else (some false))) else (none)) else (none)) else (some true)
def impl_GroupsValid.f (k : Nat) (l0 : List (S34)) : Option (Bool) := if (l0.length : Int) > 8 then (some false) else (impl_GroupsValid.l0 k l0 l0 (l0.length : Int) 0)
theorem impl_GroupsValid.mono_l : ∀ k, (∀ y0 y1 y2 y3, LeO (impl_GroupsValid.l0 k y0 y1 y2 y3) (impl_GroupsValid.l0 (k + 1) y0 y1 y2 y3))
  | 0 => fun _ _ _ _ r h => by simp [impl_GroupsValid.l0] at h
  | k + 1 => by
    have ih0 := impl_GroupsValid.mono_l k
    · intro y0 y1 y2 y3
      unfold impl_GroupsValid.l0
      repeat' first
      | (with_reducible exact ih0 _ _ _ _)
      | (with_reducible exact impl_groupValid.mono _ _ _)
      | (with_reducible exact LeO.refl _)
      | (with_reducible exact LeO.none _)
      | (with_reducible refine LeO.ite ?_ ?_)
      | (with_reducible refine LeO.bind ?_ (fun _ => ?_))
      | exact ih0 _ _ _ _
      | exact impl_groupValid.mono _ _ _
      | exact LeO.none _
      | refine LeO.ite ?_ ?_
      | refine LeO.bind ?_ (fun _ => ?_)
theorem impl_GroupsValid.mono : ∀ a0 k, LeO (impl_GroupsValid.f k a0) (impl_GroupsValid.f (k + 1) a0) := by
  intro a0 k
  have ih0 := impl_GroupsValid.mono_l k
  unfold impl_GroupsValid.f
  repeat' first
      | (with_reducible exact ih0 _ _ _ _)
      | (with_reducible exact impl_groupValid.mono _ _ _)
      | (with_reducible exact LeO.refl _)
      | (with_reducible exact LeO.none _)
      | (with_reducible refine LeO.ite ?_ ?_)
      | (with_reducible refine LeO.bind ?_ (fun _ => ?_))
      | exact ih0 _ _ _ _
      | exact impl_groupValid.mono _ _ _
      | exact LeO.none _
      | refine LeO.ite ?_ ?_
      | refine LeO.bind ?_ (fun _ => ?_)
set_option maxHeartbeats 8000000 in
set_option maxRecDepth 100000 in
theorem impl_GroupsValid.calls (k : Nat) (A0 : Option Addr) (c0 : Nat) (l0 : List (S34)) (r : Bool) (w : World) (hr0 : Kd.C k34 w A0 l0.length l0) (hc0 : l0.length ≤ c0) (h : impl_GroupsValid.f k l0 = some r) :
    Calls Try.prog 21 #[.slice A0 l0.length c0] w fun e w' => e = .returned (.bool r) ∧ Below w.heap.size w w' := by
  have hu34 := Try.underlying34
  have HR0 := Aside0.mk hr0
  have HC0 := Aside0.mk hc0
  clear hr0 hc0
  have HB0 := Aside0.mk (Below.refl w.heap.size w)
  have H : (if (l0.length : Int) > 8 then (some false) else (impl_GroupsValid.l0 k l0 l0 (l0.length : Int) 0)) = some r := h
  clear h
  by_cases c2 : (l0.length : Int) > 8
  · rw [if_pos c2] at H
    have c2b0 : decide (8 < (l0.length : Int)) = true := decide_eq_true c2
    have c2b1 : decide (8 < l0.length) = true := decide_eq_true (by omega)
    clear c2
    obtain rfl := Option.some.inj H
    go_enter Try.func21, Try.ntmps21
    go_wp2
    go_ret
    exact ⟨rfl, HB0.out⟩
  · rw [if_neg c2] at H
    have c2b0 : decide (8 < (l0.length : Int)) = false := decide_eq_false c2
    have c2b1 : decide (8 < l0.length) = false := decide_eq_false (by omega)
    have hl8 : (l0.length : Int) ≤ 8 := by omega
    clear c2
    have H' := Aside0.mk H
    clear H
    go_enter Try.func21, Try.ntmps21
    go_wp2
    go_loopg [10] k (fun kq v10 w' => ∃ (j : Int), v10 = .int .i64 j ∧ Aside0 (impl_GroupsValid.l0 kq l0 l0 (l0.length : Int) j = some r) ∧ Aside0 (kq ≤ k) ∧ Aside0 (Below w.heap.size w w'))
    case atStart => exact ⟨0, rfl, H', ⟨Nat.le_refl _⟩, HB0⟩
    case round =>
      clear H' c2b0 c2b1 HB0
      obtain ⟨j, rfl, HA, HK1, HB⟩ := hrel
      cases gk with
      | zero => exact absurd HA.out (by simp [impl_GroupsValid.l0])
      | succ k1 =>
        have H := HA.out
        clear HA
        simp only [impl_GroupsValid.l0] at H
        by_cases c3 : j < (l0.length : Int)
        · rw [if_pos c3] at H
          by_cases c4 : 0 ≤ j
          · rw [if_pos c4, if_pos c3] at H
            replace H := Option.bind_eq_some_iff.mp H
            obtain ⟨t, A60, H⟩ := H
            have A6 := Aside0.mk A60
            clear A60
            obtain ⟨ad, e, hx0, hx1⟩ := at_T34 HR0.out j c4 c3
            cases e
            have RD := Aside0.mk (rfl : rd_T34 l0 j = rd_T34 l0 j)
            generalize hy : rd_T34 l0 j = y at H A6 hx0 hx1
            clear RD
            replace hx0 := (HB.out.cell (World.block_lt_of_cell? w _ hx0)).trans hx0
            replace hx1 := (HB.out.cell (World.block_lt_of_cell? w _ hx1)).trans hx1
            have HY := Aside0.mk hy
            clear hy
            cases t with
            | false =>
              simp only [Bool.false_eq_true, if_false] at H
              obtain rfl := Option.some.inj H
              clear H
              go_upto_region 6 with (first | ((with_reducible refine gate_dst (N := 4) rfl ?_); refine box_event ?hg (N := 4) ?hd (cs := #[.string (⟨#[]⟩ : ByteArray), .int .i64 0]) (t := 34) ?hr ?_; (case hd => rfl); (case hg => rfl); (case hr => first | (go_simp; done) | (go_simp; rfl)); intro gb hg w13 hbox hb; have HB1 := Aside0.mk (below_step HB.out hb); have BK1 := Aside0.mk hbox; have GW := Aside0.mk (by rw [hg]; exact HB.out.size : w.heap.size ≤ gb); clear hb hbox hg; have hcz0 : w13.cell? ⟨gb, 0, none⟩ = some (.string (⟨#[]⟩ : ByteArray)) := (blk_cell BK1.out 0).trans rfl; have hcz1 : w13.cell? ⟨gb, 1, none⟩ = some (.int .i64 0) := (blk_cell BK1.out 1).trans rfl; have hfz0 := blk_frozen BK1.out 0; have hfz1 := blk_frozen BK1.out 1))
              have BK2 := Aside0.mk (show ((w13.setCell ⟨gb, 0, none⟩ (.string y.f0)).setCell ⟨gb, 1, none⟩ (.int .i64 y.f1)).heap[gb]? = some (.cells #[.string y.f0, .int .i64 y.f1] 34 (0, 0)) from blk_put (blk_put BK1.out 0 _ rfl) 1 _ rfl)
              have HB2 := Aside0.mk (show Below w.heap.size w ((w13.setCell ⟨gb, 0, none⟩ (.string y.f0)).setCell ⟨gb, 1, none⟩ (.int .i64 y.f1)) from below_set (below_set HB1.out GW.out) GW.out)
              clear hcz0 hcz1 hfz0 hfz1 BK1 HB1 hx0 hx1
              generalize ((w13.setCell ⟨gb, 0, none⟩ (.string y.f0)).setCell ⟨gb, 1, none⟩ (.int .i64 y.f1)) = w15 at BK2 HB2 ⊢
              have q2 : ∀ p : BelowBy w15, p.wd.cell? ⟨gb, 0, none⟩ = some (.string y.f0) := fun p => p.cell (blk_cell BK2.out 0)
              have q3 : ∀ p : BelowBy w15, p.wd.cell? ⟨gb, 1, none⟩ = some (.int .i64 y.f1) := fun p => p.cell (blk_cell BK2.out 1)
              refine wp_region_quiet_below (by first | assumption | kernel_rfl) (by kernel_rfl) ?_
              repeat (go_big_quiet_step (first | (go_at_call 46; exact Calls.below_of (impl_groupValid.calls k1 y.f0 y.f1 false _ A6.out))))
              refine wpQuiet_nil ?_
              intro wq hw_
              have hwq := BelowBy.spec hw_
              clear hw_
              have HB3 := Aside0.mk (below_step HB2.out hwq)
              clear q2 q3 hwq

              go_wp2
              go_ret
              exact ⟨rfl, HB3.out⟩
            | true =>
              simp only [if_true] at H
              by_cases c8 : j > 0
              · have c8b : decide (0 < j) = true := decide_eq_true c8
                have ew : wrap64 (j - 1) = j - 1 := by unfold wrap64; omega
                rw [if_pos c8, ew, if_pos (by omega), if_pos (by omega)] at H
                obtain ⟨ad', e', hz0, hz1⟩ := at_T34 HR0.out (j - 1) (by omega) (by omega)
                obtain rfl : ad = ad' := by injection e'
                rw [show (j - 1).toNat = j.toNat - 1 by omega] at hz0
                clear e' hz1 ew
                generalize rd_T34 l0 (j - 1) = z at H hz0
                replace hz0 := Aside0.mk hz0
                by_cases c9 : Op.bytesLess z.f0.toList y.f0.toList = true
                · rw [if_pos c9] at H
                  have H' := Aside0.mk H
                  clear H
                  go_upto_region 6 with (first | ((with_reducible refine gate_dst (N := 4) rfl ?_); refine box_event ?hg (N := 4) ?hd (cs := #[.string (⟨#[]⟩ : ByteArray), .int .i64 0]) (t := 34) ?hr ?_; (case hd => rfl); (case hg => rfl); (case hr => first | (go_simp; done) | (go_simp; rfl)); intro gb hg w13 hbox hb; have HB1 := Aside0.mk (below_step HB.out hb); have BK1 := Aside0.mk hbox; have GW := Aside0.mk (by rw [hg]; exact HB.out.size : w.heap.size ≤ gb); clear hb hbox hg; have hcz0 : w13.cell? ⟨gb, 0, none⟩ = some (.string (⟨#[]⟩ : ByteArray)) := (blk_cell BK1.out 0).trans rfl; have hcz1 : w13.cell? ⟨gb, 1, none⟩ = some (.int .i64 0) := (blk_cell BK1.out 1).trans rfl; have hfz0 := blk_frozen BK1.out 0; have hfz1 := blk_frozen BK1.out 1))
                  have BK2 := Aside0.mk (show ((w13.setCell ⟨gb, 0, none⟩ (.string y.f0)).setCell ⟨gb, 1, none⟩ (.int .i64 y.f1)).heap[gb]? = some (.cells #[.string y.f0, .int .i64 y.f1] 34 (0, 0)) from blk_put (blk_put BK1.out 0 _ rfl) 1 _ rfl)
                  have HB2 := Aside0.mk (show Below w.heap.size w ((w13.setCell ⟨gb, 0, none⟩ (.string y.f0)).setCell ⟨gb, 1, none⟩ (.int .i64 y.f1)) from below_set (below_set HB1.out GW.out) GW.out)
                  clear hcz0 hcz1 hfz0 hfz1 BK1 HB1 hx0 hx1
                  generalize ((w13.setCell ⟨gb, 0, none⟩ (.string y.f0)).setCell ⟨gb, 1, none⟩ (.int .i64 y.f1)) = w15 at BK2 HB2 ⊢
                  have q2 : ∀ p : BelowBy w15, p.wd.cell? ⟨gb, 0, none⟩ = some (.string y.f0) := fun p => p.cell (blk_cell BK2.out 0)
                  have q3 : ∀ p : BelowBy w15, p.wd.cell? ⟨gb, 1, none⟩ = some (.int .i64 y.f1) := fun p => p.cell (blk_cell BK2.out 1)
                  have q0 : ∀ p : BelowBy w15, p.wd.cell? (ad.add ((j.toNat - 1) * 2)) = some (.string z.f0) := fun p => p.cell (HB2.out.cell (World.block_lt_of_cell? w _ hz0.out) |>.trans hz0.out)
                  refine wp_region_quiet_below (by first | assumption | kernel_rfl) (by kernel_rfl) ?_
                  repeat (go_big_quiet_step (first | (go_at_call 46; exact Calls.below_of (impl_groupValid.calls k1 y.f0 y.f1 true _ A6.out))))
                  refine wpQuiet_nil ?_
                  intro wq hw_
                  have hwq := BelowBy.spec hw_
                  clear hw_
                  have HB3 := Aside0.mk (below_step HB2.out hwq)
                  clear q2 q3 hwq

                  go_wp2
                  go_roundg k1
                  case measure => have := HK1.out; omega
                  case rel => exact ⟨wrap64 (j + 1), by congr 1; unfold wrap64; omega, H', ⟨by have := HK1.out; omega⟩, HB3⟩
                · rw [if_neg c9] at H
                  obtain rfl := Option.some.inj H
                  replace c9 : Op.bytesLess z.f0.toList y.f0.toList = false := by simpa using c9
                  clear H
                  go_upto_region 6 with (first | ((with_reducible refine gate_dst (N := 4) rfl ?_); refine box_event ?hg (N := 4) ?hd (cs := #[.string (⟨#[]⟩ : ByteArray), .int .i64 0]) (t := 34) ?hr ?_; (case hd => rfl); (case hg => rfl); (case hr => first | (go_simp; done) | (go_simp; rfl)); intro gb hg w13 hbox hb; have HB1 := Aside0.mk (below_step HB.out hb); have BK1 := Aside0.mk hbox; have GW := Aside0.mk (by rw [hg]; exact HB.out.size : w.heap.size ≤ gb); clear hb hbox hg; have hcz0 : w13.cell? ⟨gb, 0, none⟩ = some (.string (⟨#[]⟩ : ByteArray)) := (blk_cell BK1.out 0).trans rfl; have hcz1 : w13.cell? ⟨gb, 1, none⟩ = some (.int .i64 0) := (blk_cell BK1.out 1).trans rfl; have hfz0 := blk_frozen BK1.out 0; have hfz1 := blk_frozen BK1.out 1))
                  have BK2 := Aside0.mk (show ((w13.setCell ⟨gb, 0, none⟩ (.string y.f0)).setCell ⟨gb, 1, none⟩ (.int .i64 y.f1)).heap[gb]? = some (.cells #[.string y.f0, .int .i64 y.f1] 34 (0, 0)) from blk_put (blk_put BK1.out 0 _ rfl) 1 _ rfl)
                  have HB2 := Aside0.mk (show Below w.heap.size w ((w13.setCell ⟨gb, 0, none⟩ (.string y.f0)).setCell ⟨gb, 1, none⟩ (.int .i64 y.f1)) from below_set (below_set HB1.out GW.out) GW.out)
                  clear hcz0 hcz1 hfz0 hfz1 BK1 HB1 hx0 hx1
                  generalize ((w13.setCell ⟨gb, 0, none⟩ (.string y.f0)).setCell ⟨gb, 1, none⟩ (.int .i64 y.f1)) = w15 at BK2 HB2 ⊢
                  have q2 : ∀ p : BelowBy w15, p.wd.cell? ⟨gb, 0, none⟩ = some (.string y.f0) := fun p => p.cell (blk_cell BK2.out 0)
                  have q3 : ∀ p : BelowBy w15, p.wd.cell? ⟨gb, 1, none⟩ = some (.int .i64 y.f1) := fun p => p.cell (blk_cell BK2.out 1)
                  have q0 : ∀ p : BelowBy w15, p.wd.cell? (ad.add ((j.toNat - 1) * 2)) = some (.string z.f0) := fun p => p.cell (HB2.out.cell (World.block_lt_of_cell? w _ hz0.out) |>.trans hz0.out)
                  refine wp_region_quiet_below (by first | assumption | kernel_rfl) (by kernel_rfl) ?_
                  repeat (go_big_quiet_step (first | (go_at_call 46; exact Calls.below_of (impl_groupValid.calls k1 y.f0 y.f1 true _ A6.out))))
                  refine wpQuiet_nil ?_
                  intro wq hw_
                  have hwq := BelowBy.spec hw_
                  clear hw_
                  have HB3 := Aside0.mk (below_step HB2.out hwq)
                  clear q2 q3 hwq

                  go_wp2
                  go_ret
                  exact ⟨rfl, HB3.out⟩
              · have c8b : decide (0 < j) = false := decide_eq_false c8
                rw [if_neg c8] at H
                have H' := Aside0.mk H
                clear H
                go_upto_region 6 with (first | ((with_reducible refine gate_dst (N := 4) rfl ?_); refine box_event ?hg (N := 4) ?hd (cs := #[.string (⟨#[]⟩ : ByteArray), .int .i64 0]) (t := 34) ?hr ?_; (case hd => rfl); (case hg => rfl); (case hr => first | (go_simp; done) | (go_simp; rfl)); intro gb hg w13 hbox hb; have HB1 := Aside0.mk (below_step HB.out hb); have BK1 := Aside0.mk hbox; have GW := Aside0.mk (by rw [hg]; exact HB.out.size : w.heap.size ≤ gb); clear hb hbox hg; have hcz0 : w13.cell? ⟨gb, 0, none⟩ = some (.string (⟨#[]⟩ : ByteArray)) := (blk_cell BK1.out 0).trans rfl; have hcz1 : w13.cell? ⟨gb, 1, none⟩ = some (.int .i64 0) := (blk_cell BK1.out 1).trans rfl; have hfz0 := blk_frozen BK1.out 0; have hfz1 := blk_frozen BK1.out 1))
                have BK2 := Aside0.mk (show ((w13.setCell ⟨gb, 0, none⟩ (.string y.f0)).setCell ⟨gb, 1, none⟩ (.int .i64 y.f1)).heap[gb]? = some (.cells #[.string y.f0, .int .i64 y.f1] 34 (0, 0)) from blk_put (blk_put BK1.out 0 _ rfl) 1 _ rfl)
                have HB2 := Aside0.mk (show Below w.heap.size w ((w13.setCell ⟨gb, 0, none⟩ (.string y.f0)).setCell ⟨gb, 1, none⟩ (.int .i64 y.f1)) from below_set (below_set HB1.out GW.out) GW.out)
                clear hcz0 hcz1 hfz0 hfz1 BK1 HB1 hx0 hx1
                generalize ((w13.setCell ⟨gb, 0, none⟩ (.string y.f0)).setCell ⟨gb, 1, none⟩ (.int .i64 y.f1)) = w15 at BK2 HB2 ⊢
                have q2 : ∀ p : BelowBy w15, p.wd.cell? ⟨gb, 0, none⟩ = some (.string y.f0) := fun p => p.cell (blk_cell BK2.out 0)
                have q3 : ∀ p : BelowBy w15, p.wd.cell? ⟨gb, 1, none⟩ = some (.int .i64 y.f1) := fun p => p.cell (blk_cell BK2.out 1)
                refine wp_region_quiet_below (by first | assumption | kernel_rfl) (by kernel_rfl) ?_
                repeat (go_big_quiet_step (first | (go_at_call 46; exact Calls.below_of (impl_groupValid.calls k1 y.f0 y.f1 true _ A6.out))))
                refine wpQuiet_nil ?_
                intro wq hw_
                have hwq := BelowBy.spec hw_
                clear hw_
                have HB3 := Aside0.mk (below_step HB2.out hwq)
                clear q2 q3 hwq

                go_wp2
                go_roundg k1
                case measure => have := HK1.out; omega
                case rel => exact ⟨wrap64 (j + 1), by congr 1; unfold wrap64; omega, H', ⟨by have := HK1.out; omega⟩, HB3⟩
          · rw [if_neg c4] at H
            exact absurd H (by simp)
        · rw [if_neg c3] at H
          obtain rfl := Option.some.inj H
          have c3b : decide (j < (l0.length : Int)) = false := decide_eq_false c3
          go_wp2
          go_ret
          exact ⟨rfl, HB.out⟩

def spec_GroupsValid.l0 : Nat → List (S34) → Int → Option (Bool)
  | 0, _, _ => none
  | k + 1, x0, x3 => if x3 < (x0.length : Int) then (if 0 ≤ x3 then ((spec_l32Group.f k ((rd_T34 x0 x3).f0) ((rd_T34 x0 x3).f1)).bind fun t130 => (if t130 = true then (if x3 > 0 then (if 0 ≤ (wrap64 (x3 - 1)) then (if (wrap64 (x3 - 1)) < (x0.length : Int) then (if ((Op.bytesLess (((rd_T34 x0 (wrap64 (x3 - 1))).f0).toList) (((rd_T34 x0 x3).f0).toList)) = true) then (spec_GroupsValid.l0 k x0 (wrap64 (x3 + 1))) else (some false)) else (none)) else (none)) else (spec_GroupsValid.l0 k x0 (wrap64 (x3 + 1)))) else (some false))) else (none)) else (some (decide ((x0.length : Int) ≤ 8)))
def spec_GroupsValid.f (k : Nat) (l0 : List (S34)) : Option (Bool) := spec_GroupsValid.l0 k l0 0
theorem spec_GroupsValid.mono_l : ∀ k, (∀ y0 y1, LeO (spec_GroupsValid.l0 k y0 y1) (spec_GroupsValid.l0 (k + 1) y0 y1))
  | 0 => fun _ _ r h => by simp [spec_GroupsValid.l0] at h
  | k + 1 => by
    have ih0 := spec_GroupsValid.mono_l k
    · intro y0 y1
      unfold spec_GroupsValid.l0
      repeat' first
      | (with_reducible exact ih0 _ _)
      | (with_reducible exact spec_l32Group.mono _ _ _)
      | (with_reducible exact LeO.refl _)
      | (with_reducible exact LeO.none _)
      | (with_reducible refine LeO.ite ?_ ?_)
      | (with_reducible refine LeO.bind ?_ (fun _ => ?_))
      | exact ih0 _ _
      | exact spec_l32Group.mono _ _ _
      | exact LeO.none _
      | refine LeO.ite ?_ ?_
      | refine LeO.bind ?_ (fun _ => ?_)
theorem spec_GroupsValid.mono : ∀ a0 k, LeO (spec_GroupsValid.f k a0) (spec_GroupsValid.f (k + 1) a0) := by
  intro a0 k
  have ih0 := spec_GroupsValid.mono_l k
  unfold spec_GroupsValid.f
  repeat' first
      | (with_reducible exact ih0 _ _)
      | (with_reducible exact spec_l32Group.mono _ _ _)
      | (with_reducible exact LeO.refl _)
      | (with_reducible exact LeO.none _)
      | (with_reducible refine LeO.ite ?_ ?_)
      | (with_reducible refine LeO.bind ?_ (fun _ => ?_))
      | exact ih0 _ _
      | exact spec_l32Group.mono _ _ _
      | exact LeO.none _
      | refine LeO.ite ?_ ?_
      | refine LeO.bind ?_ (fun _ => ?_)
set_option maxHeartbeats 8000000 in
set_option maxRecDepth 100000 in
theorem spec_GroupsValid.calls (k : Nat) (A0 : Option Addr) (c0 : Nat) (l0 : List (S34)) (r : Bool) (w : World) (hr0 : Kd.C k34 w A0 l0.length l0) (hc0 : l0.length ≤ c0) (h : spec_GroupsValid.f k l0 = some r) :
    Calls Try.prog 28 #[.slice A0 l0.length c0] w fun e w' => e = .returned (.bool r) ∧ Below w.heap.size w w' := by
  have hu34 := Try.underlying34
  have HR0 := Aside0.mk hr0
  have HC0 := Aside0.mk hc0
  clear hr0 hc0
  have HB0 := Aside0.mk (Below.refl w.heap.size w)
  have H' := Aside0.mk (show spec_GroupsValid.l0 k l0 0 = some r from h)
  clear h
  have hl63 : (l0.length : Int) ≤ 9223372036854775807 := by have := HR0.out.2.1; omega
  go_enter Try.func28, Try.ntmps28
  go_wp2
  go_loopg [3] k (fun kq v3 w' => ∃ (j : Int), v3 = .int .i64 j ∧ Aside0 (spec_GroupsValid.l0 kq l0 j = some r) ∧ Aside0 (kq ≤ k) ∧ Aside0 (Below w.heap.size w w'))
  case atStart => exact ⟨0, rfl, H', ⟨Nat.le_refl _⟩, HB0⟩
  case round =>
    clear H' HB0
    obtain ⟨j, rfl, HA, HK1, HB⟩ := hrel
    cases gk with
    | zero => exact absurd HA.out (by simp [spec_GroupsValid.l0])
    | succ k1 =>
      have H := HA.out
      clear HA
      simp only [spec_GroupsValid.l0] at H
      by_cases c3 : j < (l0.length : Int)
      · rw [if_pos c3] at H
        by_cases c4 : 0 ≤ j
        · rw [if_pos c4] at H
          replace H := Option.bind_eq_some_iff.mp H
          obtain ⟨t, A60, H⟩ := H
          have A6 := Aside0.mk A60
          clear A60
          obtain ⟨ad, e, hx0, hx1⟩ := at_T34 HR0.out j c4 c3
          cases e
          generalize hy : rd_T34 l0 j = y at H A6 hx0 hx1
          replace hx0 := (HB.out.cell (World.block_lt_of_cell? w _ hx0)).trans hx0
          replace hx1 := (HB.out.cell (World.block_lt_of_cell? w _ hx1)).trans hx1
          have HY := Aside0.mk hy
          clear hy
          cases t with
          | false =>
            simp only [Bool.false_eq_true, if_false] at H
            obtain rfl := Option.some.inj H
            clear H
            go_upto_region 4 with (fail)
            have q2 : ∀ p : BelowBy wr, p.wd.cell? (ad.add (j.toNat * 2)) = some (.string y.f0) := fun p => p.cell hx0
            have q3 : ∀ p : BelowBy wr, p.wd.cell? ⟨(ad.add (j.toNat * 2)).block, (ad.add (j.toNat * 2)).off + 1, none⟩ = some (.int .i64 y.f1) := fun p => p.cell hx1
            refine wp_region_quiet_below (by first | assumption | kernel_rfl) (by kernel_rfl) ?_
            repeat (go_big_quiet_step (first | (go_at_call 50; exact Calls.below_of (spec_l32Group.calls k1 y.f0 y.f1 false _ A6.out))))
            refine wpQuiet_nil ?_
            intro wq hw_
            have hwq := BelowBy.spec hw_
            clear hw_
            have HB3 := Aside0.mk (below_step HB.out hwq)
            clear q2 q3 hwq

            go_wp2
            go_ret
            exact ⟨rfl, HB3.out⟩
          | true =>
            simp only [if_true] at H
            by_cases c8 : j > 0
            · have c8b : decide (0 < j) = true := decide_eq_true c8
              have ew : wrap64 (j - 1) = j - 1 := by unfold wrap64; omega
              rw [if_pos c8, ew, if_pos (by omega), if_pos (by omega)] at H
              obtain ⟨ad', e', hz0, hz1⟩ := at_T34 HR0.out (j - 1) (by omega) (by omega)
              obtain rfl : ad = ad' := by injection e'
              rw [show (j - 1).toNat = j.toNat - 1 by omega] at hz0
              clear e' hz1 ew
              generalize rd_T34 l0 (j - 1) = z at H hz0
              replace hz0 := Aside0.mk hz0
              by_cases c9 : Op.bytesLess z.f0.toList y.f0.toList = true
              · rw [if_pos c9] at H
                have H' := Aside0.mk H
                clear H
                go_upto_region 4 with (fail)
                have q2 : ∀ p : BelowBy wr, p.wd.cell? (ad.add (j.toNat * 2)) = some (.string y.f0) := fun p => p.cell hx0
                have q3 : ∀ p : BelowBy wr, p.wd.cell? ⟨(ad.add (j.toNat * 2)).block, (ad.add (j.toNat * 2)).off + 1, none⟩ = some (.int .i64 y.f1) := fun p => p.cell hx1
                have q0 : ∀ p : BelowBy wr, p.wd.cell? (ad.add ((j.toNat - 1) * 2)) = some (.string z.f0) := fun p => p.cell (HB.out.cell (World.block_lt_of_cell? w _ hz0.out) |>.trans hz0.out)
                refine wp_region_quiet_below (by first | assumption | kernel_rfl) (by kernel_rfl) ?_
                repeat (go_big_quiet_step (first | (go_at_call 50; exact Calls.below_of (spec_l32Group.calls k1 y.f0 y.f1 true _ A6.out))))
                refine wpQuiet_nil ?_
                intro wq hw_
                have hwq := BelowBy.spec hw_
                clear hw_
                have HB3 := Aside0.mk (below_step HB.out hwq)
                clear q2 q3 hwq

                go_wp2
                go_roundg k1
                case measure => have := HK1.out; omega
                case rel => exact ⟨wrap64 (j + 1), by congr 1; unfold wrap64; omega, H', ⟨by have := HK1.out; omega⟩, HB3⟩
              · rw [if_neg c9] at H
                obtain rfl := Option.some.inj H
                replace c9 : Op.bytesLess z.f0.toList y.f0.toList = false := by simpa using c9
                clear H
                go_upto_region 4 with (fail)
                have q2 : ∀ p : BelowBy wr, p.wd.cell? (ad.add (j.toNat * 2)) = some (.string y.f0) := fun p => p.cell hx0
                have q3 : ∀ p : BelowBy wr, p.wd.cell? ⟨(ad.add (j.toNat * 2)).block, (ad.add (j.toNat * 2)).off + 1, none⟩ = some (.int .i64 y.f1) := fun p => p.cell hx1
                have q0 : ∀ p : BelowBy wr, p.wd.cell? (ad.add ((j.toNat - 1) * 2)) = some (.string z.f0) := fun p => p.cell (HB.out.cell (World.block_lt_of_cell? w _ hz0.out) |>.trans hz0.out)
                refine wp_region_quiet_below (by first | assumption | kernel_rfl) (by kernel_rfl) ?_
                repeat (go_big_quiet_step (first | (go_at_call 50; exact Calls.below_of (spec_l32Group.calls k1 y.f0 y.f1 true _ A6.out))))
                refine wpQuiet_nil ?_
                intro wq hw_
                have hwq := BelowBy.spec hw_
                clear hw_
                have HB3 := Aside0.mk (below_step HB.out hwq)
                clear q2 q3 hwq

                go_wp2
                go_ret
                exact ⟨rfl, HB3.out⟩
            · have c8b : decide (0 < j) = false := decide_eq_false c8
              rw [if_neg c8] at H
              have H' := Aside0.mk H
              clear H
              go_upto_region 4 with (fail)
              have q2 : ∀ p : BelowBy wr, p.wd.cell? (ad.add (j.toNat * 2)) = some (.string y.f0) := fun p => p.cell hx0
              have q3 : ∀ p : BelowBy wr, p.wd.cell? ⟨(ad.add (j.toNat * 2)).block, (ad.add (j.toNat * 2)).off + 1, none⟩ = some (.int .i64 y.f1) := fun p => p.cell hx1
              refine wp_region_quiet_below (by first | assumption | kernel_rfl) (by kernel_rfl) ?_
              repeat (go_big_quiet_step (first | (go_at_call 50; exact Calls.below_of (spec_l32Group.calls k1 y.f0 y.f1 true _ A6.out))))
              refine wpQuiet_nil ?_
              intro wq hw_
              have hwq := BelowBy.spec hw_
              clear hw_
              have HB3 := Aside0.mk (below_step HB.out hwq)
              clear q2 q3 hwq

              go_wp2
              go_roundg k1
              case measure => have := HK1.out; omega
              case rel => exact ⟨wrap64 (j + 1), by congr 1; unfold wrap64; omega, H', ⟨by have := HK1.out; omega⟩, HB3⟩
        · rw [if_neg c4] at H
          exact absurd H (by simp)
      · rw [if_neg c3] at H
        obtain rfl := Option.some.inj H
        have c3b : decide (j < (l0.length : Int)) = false := decide_eq_false c3
        go_wp2
        go_ret
        exact ⟨by simp, HB.out⟩

end Go.Proofs.Ytlhbclblehmdbaa.PFnExactGroupsPut
