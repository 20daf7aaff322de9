/- slices.BinarySearchFunc at groups, with the closure of put: how many groups' names come before the one that is sought, and whether it is there. -/
import Derived.Test.YtlhbclblehmdbaaG1
set_option linter.unusedVariables false
set_option linter.unusedSimpArgs false
namespace Go.Proofs.Ytlhbclblehmdbaa.PFnExactGroupsPut
open Go.RowKit Go.Proofs.YtlhbclblehmdbaaW.PrintWords Go.Proofs.YtlhbclblehmdbaaW.PrintLast Go.Proofs.YtlhbclblehmdbaaW.PrintMore

theorem countP_edge {α : Type} (z : α) (p : α → Bool) : ∀ (l : List α) (i : Nat), i ≤ l.length → (∀ t, t < i → p (l.getD t z) = true) → (∀ t, i ≤ t → t < l.length → p (l.getD t z) = false) → l.countP p = i
  | [], i, hi, _, _ => by simp at hi; simp [hi]
  | a :: r, 0, _, _, h2 => by
    rw [List.countP_eq_zero]
    intro x hx
    obtain ⟨t, ht, rfl⟩ := List.getElem_of_mem hx
    have := h2 t (Nat.zero_le _) ht
    rw [List.getD_eq_getElem?_getD, List.getElem?_eq_getElem ht] at this
    simpa using this
  | a :: r, i + 1, hi, h1, h2 => by
    have ha : p a = true := by simpa using h1 0 (Nat.succ_pos _)
    rw [List.countP_cons_of_pos ha, countP_edge z p r i (by simpa using hi) (fun t ht => by simpa using h1 (t + 1) (by omega)) (fun t h3 h4 => by simpa using h2 (t + 1) (by omega) (by simpa using h4))]

/-- How many names come before the one that is sought. -/
def placeOf (l : List S34) (n : ByteArray) : Nat := l.countP fun x => decide (cmpS x.f0 n < 0)
/-- Whether it is there. -/
def foundAt (l : List S34) (n : ByteArray) : Bool := decide (placeOf l n < l.length) && decide (cmpS (l.getD (placeOf l n) z34).f0 n = 0)

set_option maxHeartbeats 8000000 in
set_option maxRecDepth 100000 in
theorem slices_search.calls (A0 : Option Addr) (c0 : Nat) (l0 : List S34) (n : ByteArray) (x : Int) (w : World) (hr0 : Kd.C k34 w A0 l0.length l0) (hsz : l0.length < 4611686018427387904)
    (hmono : ∀ a b, a ≤ b → b < l0.length → cmpS (l0.getD b z34).f0 n < 0 → cmpS (l0.getD a z34).f0 n < 0) :
    Calls Try.prog 64 #[.slice A0 l0.length c0, .agg #[.string n, .int .i64 x], .func (.func 65) #[] #[]] w fun e w' => e = .returned (.tuple #[.int .i64 (placeOf l0 n : Nat), .bool (foundAt l0 n)]) ∧ Below w.heap.size w w' := by
  have hu34 := Try.underlying34
  have HR0 := Aside0.mk hr0
  have M := Aside0.mk hmono
  clear hr0 hmono
  have eg : ∀ args w, (callFunc 65 args).run Try.prog w = .ok (.enter 65 args) w := fun args w => enters_ Try.func65 (by kernel_rfl) rfl args w
  generalize hcnt : placeOf l0 n = cnt
  have CN := Aside0.mk hcnt
  generalize hfin : foundAt l0 n = fin
  have FIN := Aside0.mk hfin
  clear hcnt hfin
  go_enter Try.func64, Try.ntmps64
  go_wp2_with ((with_reducible refine gate_dst (N := 4) rfl ?_); refine box_event ?hg (N := 4) ?hd (cs := #[.string n, .int .i64 x]) (t := 34) ?hr ?_; (case hd => rfl); (case hg => rfl); (case hr => first | (go_simp; done) | (go_simp; rfl)); intro g1 hg w1 hbox hb; have BK1 := Aside0.mk hbox; have HB1 := Aside0.mk hb; clear hg hbox hb)
  go_loopg [9, 10] l0.length (fun kx s9 s10 wr => ∃ lo hi : Nat, s9 = .int .i64 lo ∧ s10 = .int .i64 hi ∧ lo ≤ hi ∧ hi ≤ l0.length ∧ hi - lo ≤ kx ∧ Aside0 (Below w.heap.size w wr) ∧ Aside0 (wr.heap[g1]? = some (.cells #[.string n, .int .i64 x] 34 (0, 0))) ∧
    Aside0 ((∀ t, t < lo → cmpS (l0.getD t z34).f0 n < 0) ∧ (∀ t, hi ≤ t → t < l0.length → 0 ≤ cmpS (l0.getD t z34).f0 n)))
  case atStart => exact ⟨0, l0.length, rfl, rfl, Nat.zero_le _, Nat.le_refl _, by omega, HB1, BK1, ⟨fun t ht => absurd ht (Nat.not_lt_zero _), fun t h1 h2 => by omega⟩⟩
  case round =>
    clear HB1 BK1
    obtain ⟨lo, hi, rfl, rfl, hlh, hin, hg, HB, BK, I⟩ := hrel
    by_cases hlt : lo < hi
    · obtain ⟨ad, e, hx0, hx1⟩ := at_T34 HR0.out (((lo : Int) + hi) / 2) (by omega) (by omega)
      cases e
      have ei : (((lo : Int) + hi) / 2).toNat = (lo + hi) / 2 := by omega
      rw [ei] at hx0 hx1
      have Y := Aside0.mk (show rd_T34 l0 (((lo : Int) + hi) / 2) = l0.getD ((lo + hi) / 2) z34 by unfold rd_T34; congr 1)
      generalize rd_T34 l0 (((lo : Int) + hi) / 2) = y at hx0 hx1 Y
      clear ei
      by_cases hyx : cmpS y.f0 n < 0
      · have hyb : decide (cmpS y.f0 n < 0) = true := decide_eq_true hyx
        have Yx := Aside0.mk hyx
        clear hyx
        go_upto_region 5 with (fail)
        have q0 : ∀ p : BelowBy wr, p.wd.cell? (ad.add ((lo + hi) / 2 * 2)) = some (.string y.f0) := fun p => p.cell (HB.out.cell (World.block_lt_of_cell? w _ hx0) |>.trans hx0)
        have q1 : ∀ p : BelowBy wr, p.wd.cell? ⟨(ad.add ((lo + hi) / 2 * 2)).block, (ad.add ((lo + hi) / 2 * 2)).off + 1, none⟩ = some (.int .i64 y.f1) := fun p => p.cell (HB.out.cell (World.block_lt_of_cell? w _ hx1) |>.trans hx1)
        have q2 : ∀ p : BelowBy wr, p.wd.cell? ⟨g1, 0, none⟩ = some (.string n) := fun p => p.cell (blk_cell BK.out 0)
        have q3 : ∀ p : BelowBy wr, p.wd.cell? ⟨g1, 1, none⟩ = some (.int .i64 x) := fun p => p.cell (blk_cell BK.out 1)
        have b0 : 0 ≤ ((lo : Int) + hi) / 2 := by omega
        have b1 : ((lo : Int) + hi) / 2 < (l0.length : Int) := by omega
        refine wp_region_quiet_below (by first | assumption | kernel_rfl) (by kernel_rfl) ?_
        repeat (go_big_quiet_step (first | (go_at_call 65; exact Calls.below_of (put1.calls _ _ _ _ _))))
        refine wpQuiet_nil ?_
        intro wq hw_
        have hwq := BelowBy.spec hw_
        clear hw_
        have HB2 := Aside0.mk (below_step HB.out hwq)
        have BK2 := Aside0.mk (blk_below BK.out hwq)
        clear q0 q1 q2 q3 b0 b1 hx0 hx1 hwq
        go_wp2
        go_roundg (hi - ((lo + hi) / 2 + 1))
        case measure => omega
        case rel =>
          exact ⟨(lo + hi) / 2 + 1, hi, by first | rfl | (congr 1; omega), rfl, by omega, hin, Nat.le_refl _, HB2, BK2, ⟨fun t ht => M.out t ((lo + hi) / 2) (by omega) (by omega) (by rw [← Y.out]; exact Yx.out), I.out.2⟩⟩
      · have hyb : decide (cmpS y.f0 n < 0) = false := decide_eq_false hyx
        have Yx := Aside0.mk hyx
        clear hyx
        go_upto_region 5 with (fail)
        have q0 : ∀ p : BelowBy wr, p.wd.cell? (ad.add ((lo + hi) / 2 * 2)) = some (.string y.f0) := fun p => p.cell (HB.out.cell (World.block_lt_of_cell? w _ hx0) |>.trans hx0)
        have q1 : ∀ p : BelowBy wr, p.wd.cell? ⟨(ad.add ((lo + hi) / 2 * 2)).block, (ad.add ((lo + hi) / 2 * 2)).off + 1, none⟩ = some (.int .i64 y.f1) := fun p => p.cell (HB.out.cell (World.block_lt_of_cell? w _ hx1) |>.trans hx1)
        have q2 : ∀ p : BelowBy wr, p.wd.cell? ⟨g1, 0, none⟩ = some (.string n) := fun p => p.cell (blk_cell BK.out 0)
        have q3 : ∀ p : BelowBy wr, p.wd.cell? ⟨g1, 1, none⟩ = some (.int .i64 x) := fun p => p.cell (blk_cell BK.out 1)
        have b0 : 0 ≤ ((lo : Int) + hi) / 2 := by omega
        have b1 : ((lo : Int) + hi) / 2 < (l0.length : Int) := by omega
        refine wp_region_quiet_below (by first | assumption | kernel_rfl) (by kernel_rfl) ?_
        repeat (go_big_quiet_step (first | (go_at_call 65; exact Calls.below_of (put1.calls _ _ _ _ _))))
        refine wpQuiet_nil ?_
        intro wq hw_
        have hwq := BelowBy.spec hw_
        clear hw_
        have HB2 := Aside0.mk (below_step HB.out hwq)
        have BK2 := Aside0.mk (blk_below BK.out hwq)
        clear q0 q1 q2 q3 b0 b1 hx0 hx1 hwq
        go_wp2
        go_roundg ((lo + hi) / 2 - lo)
        case measure => omega
        case rel =>
          exact ⟨lo, (lo + hi) / 2, rfl, by first | rfl | (congr 1; omega), by omega, by omega, Nat.le_refl _, HB2, BK2, ⟨I.out.1, fun t ht htn => Int.not_lt.1 fun h => by
            have := M.out ((lo + hi) / 2) t ht htn h; rw [← Y.out] at this; have := Yx.out; omega⟩⟩
    · obtain rfl : hi = lo := by omega
      have ecnt : cnt = hi := by
        rw [← CN.out]
        exact countP_edge z34 _ l0 hi hin (fun t ht => decide_eq_true (I.out.1 t ht)) (fun t h3 h4 => decide_eq_false (by have := I.out.2 t h3 h4; omega))
      subst ecnt
      have FI := Aside0.mk (show (decide (cnt < l0.length) && decide (cmpS (l0.getD cnt z34).f0 n = 0)) = fin by rw [← FIN.out, foundAt, CN.out])
      clear FIN
      by_cases hn : cnt < l0.length
      · obtain ⟨ad, e, hx0, hx1⟩ := at_T34 HR0.out (cnt : Int) (by omega) (by omega)
        cases e
        have Y := Aside0.mk (show rd_T34 l0 (cnt : Int) = l0.getD cnt z34 from rfl)
        generalize rd_T34 l0 (cnt : Int) = y at hx0 hx1 Y
        simp only [Int.toNat_natCast] at hx0 hx1
        by_cases hy : cmpS y.f0 n = 0
        · have hyb : (cmpS y.f0 n == 0) = true := beq_iff_eq.2 hy
          have FI2 : fin = true := by rw [← FI.out, ← Y.out, hy]; simp [hn]
          subst FI2
          clear hy
          go_upto_region 8 with (fail)
          have q0 : ∀ p : BelowBy wr, p.wd.cell? (ad.add (cnt * 2)) = some (.string y.f0) := fun p => p.cell (HB.out.cell (World.block_lt_of_cell? w _ hx0) |>.trans hx0)
          have q1 : ∀ p : BelowBy wr, p.wd.cell? ⟨(ad.add (cnt * 2)).block, (ad.add (cnt * 2)).off + 1, none⟩ = some (.int .i64 y.f1) := fun p => p.cell (HB.out.cell (World.block_lt_of_cell? w _ hx1) |>.trans hx1)
          have q2 : ∀ p : BelowBy wr, p.wd.cell? ⟨g1, 0, none⟩ = some (.string n) := fun p => p.cell (blk_cell BK.out 0)
          have q3 : ∀ p : BelowBy wr, p.wd.cell? ⟨g1, 1, none⟩ = some (.int .i64 x) := fun p => p.cell (blk_cell BK.out 1)
          have hnb : decide (cnt < l0.length) = true := decide_eq_true hn
          refine wp_region_quiet_below (by first | assumption | kernel_rfl) (by kernel_rfl) ?_
          repeat (go_big_quiet_step (first | (go_at_call 65; exact Calls.below_of (put1.calls _ _ _ _ _))))
          refine wpQuiet_nil ?_
          intro wq hw_
          have hwq := BelowBy.spec hw_
          clear hw_
          have HB2 := Aside0.mk (below_step HB.out hwq)
          clear q0 q1 q2 q3 hx0 hx1 hwq
          go_wp2
          go_ret2
          exact ⟨rfl, HB2.out⟩
        · have hyb : (cmpS y.f0 n == 0) = false := beq_eq_false_iff_ne.2 hy
          have FI2 : fin = false := by rw [← FI.out, ← Y.out]; simp [hy]
          subst FI2
          clear hy
          go_upto_region 8 with (fail)
          have q0 : ∀ p : BelowBy wr, p.wd.cell? (ad.add (cnt * 2)) = some (.string y.f0) := fun p => p.cell (HB.out.cell (World.block_lt_of_cell? w _ hx0) |>.trans hx0)
          have q1 : ∀ p : BelowBy wr, p.wd.cell? ⟨(ad.add (cnt * 2)).block, (ad.add (cnt * 2)).off + 1, none⟩ = some (.int .i64 y.f1) := fun p => p.cell (HB.out.cell (World.block_lt_of_cell? w _ hx1) |>.trans hx1)
          have q2 : ∀ p : BelowBy wr, p.wd.cell? ⟨g1, 0, none⟩ = some (.string n) := fun p => p.cell (blk_cell BK.out 0)
          have q3 : ∀ p : BelowBy wr, p.wd.cell? ⟨g1, 1, none⟩ = some (.int .i64 x) := fun p => p.cell (blk_cell BK.out 1)
          have hnb : decide (cnt < l0.length) = true := decide_eq_true hn
          refine wp_region_quiet_below (by first | assumption | kernel_rfl) (by kernel_rfl) ?_
          repeat (go_big_quiet_step (first | (go_at_call 65; exact Calls.below_of (put1.calls _ _ _ _ _))))
          refine wpQuiet_nil ?_
          intro wq hw_
          have hwq := BelowBy.spec hw_
          clear hw_
          have HB2 := Aside0.mk (below_step HB.out hwq)
          clear q0 q1 q2 q3 hx0 hx1 hwq
          go_wp2
          go_ret2
          exact ⟨rfl, HB2.out⟩
      · have FI2 : fin = false := by rw [← FI.out]; simp [hn]
        subst FI2
        go_upto_region 8 with (fail)
        have hnb : decide (cnt < l0.length) = false := decide_eq_false hn
        refine wp_region_quiet_below (by first | assumption | kernel_rfl) (by kernel_rfl) ?_
        repeat (go_big_quiet_step (fail))
        refine wpQuiet_nil ?_
        intro wq hw_
        have hwq := BelowBy.spec hw_
        clear hw_
        have HB2 := Aside0.mk (below_step HB.out hwq)
        go_wp2
        go_ret2
        exact ⟨rfl, HB2.out⟩
end Go.Proofs.Ytlhbclblehmdbaa.PFnExactGroupsPut
