/- FnExactBatchCut, walked call by call: true, for every batch that is not too large. -/
import Derived.Test.YtlhbclblehmdbaaDoorC19
import Derived.Test.YtlhbclblehmdbaaDoorC8
import Derived.Test.YtlhbclblehmdbaaDoorC9
set_option linter.unusedVariables false
set_option linter.unusedSimpArgs false
namespace Go.Proofs.YtlhbclblehmdbaaDoor.PFnExactBatchCut
open Go.RowKit Go.Proofs.YtlhbclblehmdbaaDoorW.PrintWords Go.Proofs.YtlhbclblehmdbaaDoorW.PrintLast Go.Proofs.YtlhbclblehmdbaaDoorW.PrintMore

/-- What a call has made lies between the heap's sizes before and behind it. -/
theorem S_iv2 {α : Type} {d : Kd α} {e B : Nat} {w W : World} {ok : Nat → Prop} {v : Value} {xs : List α} (h : Kd.S d e w W.heap.size ok v xs) (hb : B ≤ W.heap.size) : Kd.S d e w B (fun k => ok k ∧ W.heap.size ≤ k ∧ k < w.heap.size) v xs := Kd.S_lower (Kd.S_mono (Kd.S_bound h) (fun k hk => ⟨hk.1, hk.2.1, hk.2.2.1⟩)) hb

set_option maxHeartbeats 8000000 in
set_option maxRecDepth 100000 in
theorem law_small (KK1 : Nat) (hK : 100000000 ≤ KK1) (p m : Bool) (pr ep sq : Int) (A : Option Addr) (c : Nat) (aB : List S67) (off rs : Int) (pe : Addr) (w : World) (ha : Kd.C k67 w A aB.length aB) (hc : aB.length ≤ c) (hge : w.cell? ⟨0, 0, none⟩ = some (.iface 136 (.pointer (some pe))))
    (s1 : laws_szBatch.f KK1 p m pr ep sq aB 1048576 = some rs) (hrs : 0 ≤ rs) (hf : (aB.length : Int) + sz67 aB ≤ 1048576) :
    Calls Tryd.prog 3 #[.agg #[.bool p, .bool m, .int .i64 pr, .int .i64 ep, .int .i64 sq, .slice A aB.length c], .int .i64 off] w fun e w' => e = .returned (.bool true) ∧ Below w.heap.size w w' := by
  have HA := Aside0.mk ha
  have HC0 := Aside0.mk hc
  have HG := Aside0.mk hge
  have TA := Aside0.mk (toBatch 1048576 p m pr ep sq aB KK1 (by omega) (fun x hx => by have := sz67_le aB x hx; omega) (by omega) (by omega))
  have FL := Aside0.mk (Fit.conv hf)
  generalize aB.map conv = l at TA FL
  obtain ⟨v, hv, hv'⟩ := implBatch 1048576 p m pr ep sq l KK1 (by have := FL.out.n; omega) FL.out.x (by omega) (by have := FL.out.n; omega)
  have HV := Aside0.mk hv
  have HV6 := Aside0.mk (show v = true → pr = 255 → l.length ≤ 1000 from fun h1 h2 => by have h3 := (free_asc ((hv' h2).symm.trans h1)).1; omega)
  have SC := Aside0.mk (specCut 1048576 p m pr ep sq l off KK1 FL.out.n FL.out.x (by omega) (by have := FL.out.n; omega))
  have hcb : cutB m pr ep sq l = (v && decide (pr = 255)) := by
    unfold cutB
    by_cases h : pr = 255
    · rw [hv' h, Bool.and_comm]
    · simp [h]
  rw [hcb] at SC
  obtain ⟨⟨r1, r2, r3, r4, r5, r6, r7, r8, r9, r10, r11, r12, r13⟩, hR⟩ : ∃ x, cutR p (v && decide (pr = 255)) (lo off l) (hi off l) = x := ⟨_, rfl⟩
  rw [hR] at SC
  have HR := Aside0.mk hR
  obtain ⟨f6, f12⟩ := cutR_fit FL.out hR
  have F6 := Aside0.mk f6
  have F12 := Aside0.mk f12
  have HP := Aside0.mk (show ∀ x ∈ l, x.f3.length < 17592186044416 ∧ x.f5.length < 17592186044416 from fun x hx => by have := FL.out.x x hx; omega)
  have EX := Aside0.mk (eqBatch 1048576 p m pr ep sq l KK1 (by have := FL.out.n; omega) FL.out.x (by omega) (by have := FL.out.n; omega))
  have E0 := Aside0.mk (eqBatch 1048576 r1 r2 r3 r4 r5 r6 KK1 (by have := f6.n; omega) f6.x (by omega) (by have := f6.n; omega))
  have E1 := Aside0.mk (eqBatch 1048576 r7 r8 r9 r10 r11 r12 KK1 (by have := f12.n; omega) f12.x (by omega) (by have := f12.n; omega))
  have T0 := Aside0.mk (heldBatch 1048576 r1 r2 r3 r4 r5 r6 1 KK1 f6.x (by have := f6.n; omega) (by omega) (by have := f6.k; omega) (by have := f6.n; omega))
  have T1 := Aside0.mk (heldBatch 1048576 r7 r8 r9 r10 r11 r12 (nextR r6 1) KK1 f12.x (by have := f12.n; omega) (by rw [nextR_eq]; omega) (by have := f12.k; have := f6.k; rw [nextR_eq]; omega) (by have := f12.n; omega))
  have S1 := Aside0.mk s1
  have p0 : decide (rs < 0) = false := decide_eq_false (by omega)
  clear ha hc hge hv hv' hcb hR f6 f12 s1 hf hK hrs
  have hu24 := Tryd.underlying24
  have hu28 := Tryd.underlying28
  have HW := Aside0.mk (Below.refl w.heap.size w)
  go_enter Tryd.func3, Tryd.ntmps3
  go_wp2_with (first | ((with_reducible refine gate_dst (N := 2) rfl ?_); (try (refine gate_guard (by rfl) ?_; dsimp only)); refine box_event ?hg (N := 2) ?hd (cs := #[.bool p, .bool m, .int .i64 pr, .int .i64 ep, .int .i64 sq, .slice A aB.length c]) (t := 24) ?hr ?_; (case hd => rfl); (case hg => rfl); (case hr => first | (go_simp; done) | (go_simp; rfl)); intro g2 hg w1 hbox hb; have B2 := Aside0.mk hbox; have HB1 := Aside0.mk hb; have G2 := Aside0.mk (Nat.le_of_eq hg.symm : w.heap.size ≤ g2); clear hb hbox hg; have z2_0 : w1.cell? ⟨g2, 0, none⟩ = some (.bool p) := blk_cell B2.out 0; have z2_1 : w1.cell? ⟨g2, 1, none⟩ = some (.bool m) := blk_cell B2.out 1; have z2_2 : w1.cell? ⟨g2, 2, none⟩ = some (.int .i64 pr) := blk_cell B2.out 2; have z2_3 : w1.cell? ⟨g2, 3, none⟩ = some (.int .i64 ep) := blk_cell B2.out 3; have z2_4 : w1.cell? ⟨g2, 4, none⟩ = some (.int .i64 sq) := blk_cell B2.out 4; have z2_5 : w1.cell? ⟨g2, 5, none⟩ = some (.slice A aB.length c) := blk_cell B2.out 5))
  clear z2_0 z2_1 z2_2 z2_3 z2_4 z2_5
  have D1 := Aside0.mk (show w.heap.size ≤ w1.heap.size from HB1.out.size)
  have D2 := Aside0.mk (show g2 + 1 ≤ w1.heap.size from blk_lt B2.out)
  replace HW := Aside0.mk (below_step HW.out HB1.out)
  clear HB1 G2
  refine (laws_szBatch.calls KK1 p m pr ep sq A c aB 1048576 rs _ (Kd.C_below HA.out HW.out) HC0.out S1.out).mono ?_
  rintro e w2 ⟨rfl, hb⟩
  have D3 := Aside0.mk (show w1.heap.size ≤ w2.heap.size from hb.size)
  replace B2 := Aside0.mk (blk_below B2.out hb)
  replace HW := Aside0.mk (below_step HW.out hb)
  clear hb
  have z2_0 : w2.cell? ⟨g2, 0, none⟩ = some (.bool p) := blk_cell B2.out 0
  have z2_1 : w2.cell? ⟨g2, 1, none⟩ = some (.bool m) := blk_cell B2.out 1
  have z2_2 : w2.cell? ⟨g2, 2, none⟩ = some (.int .i64 pr) := blk_cell B2.out 2
  have z2_3 : w2.cell? ⟨g2, 3, none⟩ = some (.int .i64 ep) := blk_cell B2.out 3
  have z2_4 : w2.cell? ⟨g2, 4, none⟩ = some (.int .i64 sq) := blk_cell B2.out 4
  have z2_5 : w2.cell? ⟨g2, 5, none⟩ = some (.slice A aB.length c) := blk_cell B2.out 5
  go_wp2_with fail
  clear z2_0 z2_1 z2_2 z2_3 z2_4 z2_5
  refine (laws_toBatch.calls KK1 p m pr ep sq A c aB p m pr ep sq l _ (Kd.C_below HA.out HW.out) HC0.out TA.out).mono ?_
  rintro e w3 ⟨vt, rfl, hs, hb⟩
  obtain ⟨Xt, cXt, hv, hl_, hc_⟩ := Kd.S_reads hs
  subst hv
  have Lt := Aside0.mk hl_
  clear hl_ hc_
  have St := Aside0.mk (S_iv2 hs HW.out.size)
  clear hs
  have D4 := Aside0.mk (show w2.heap.size ≤ w3.heap.size from hb.size)
  replace B2 := Aside0.mk (blk_below B2.out hb)
  replace HW := Aside0.mk (below_step HW.out hb)
  clear hb
  go_wp2_with fail
  refine (spec_BatchCut.calls KK1 p m pr ep sq _ _ l off r1 r2 r3 r4 r5 r6 r7 r8 r9 r10 r11 r12 r13 _ (Kd.S_reads' St.out).2.2 Lt.out SC.out).mono ?_
  rintro e w4 ⟨v5, v11, rfl, hs5, hs11, hb⟩
  obtain ⟨Xu, cu, hv, hl_, hc_⟩ := Kd.S_reads hs5
  subst hv
  have Lu := Aside0.mk hl_
  clear hl_ hc_
  obtain ⟨Xv, cv, hv, hl_, hc_⟩ := Kd.S_reads hs11
  subst hv
  have Lv := Aside0.mk hl_
  clear hl_ hc_
  have Su := Aside0.mk (S_iv2 hs5 HW.out.size)
  have Sv := Aside0.mk (S_iv2 hs11 HW.out.size)
  clear hs5 hs11 St Lt
  have D5 := Aside0.mk (show w3.heap.size ≤ w4.heap.size from hb.size)
  replace B2 := Aside0.mk (blk_below B2.out hb)
  replace HW := Aside0.mk (below_step HW.out hb)
  clear hb
  go_wp2_with (first | ((with_reducible refine gate_dst (N := 6) rfl ?_); (try (refine gate_guard (by rfl) ?_; dsimp only)); refine box_event ?hg (N := 6) ?hd (cs := #[.bool false, .bool false, .int .i64 0, .int .i64 0, .int .i64 0, .slice none 0 0]) (t := 28) ?hr ?_; (case hd => rfl); (case hg => rfl); (case hr => first | (go_simp; done) | (go_simp; rfl)); intro g6 hg w5 hbox hb; have X6 := Aside0.mk hb; have Y6 := Aside0.mk hbox; have G6 := Aside0.mk (Nat.le_of_eq hg.symm : w4.heap.size ≤ g6); clear hb hbox hg) | ((with_reducible refine gate_dst (N := 7) rfl ?_); (try (refine gate_guard (by rfl) ?_; dsimp only)); refine box_event ?hg (N := 7) ?hd (cs := #[.bool false, .bool false, .int .i64 0, .int .i64 0, .int .i64 0, .slice none 0 0]) (t := 28) ?hr ?_; (case hd => rfl); (case hg => rfl); (case hr => first | (go_simp; done) | (go_simp; rfl)); intro g7 hg w6 hbox hb; have X7 := Aside0.mk hb; have Y7 := Aside0.mk hbox; have G7 := Aside0.mk (Nat.le_of_eq hg.symm : w5.heap.size ≤ g7); have N67 := Aside0.mk (by rw [hg]; exact Nat.ne_of_lt (blk_lt Y6.out) : g6 ≠ g7); clear hb hbox hg; have Z6 := Aside0.mk (blk_below Y6.out X7.out); have k1 := N67.out; have k2 := Ne.symm N67.out; have XX := Aside0.mk (below_step X6.out X7.out); have zg6_0 : w6.cell? ⟨g6, 0, none⟩ = some (.bool false) := blk_cell Z6.out 0; have zg6_1 : w6.cell? ⟨g6, 1, none⟩ = some (.bool false) := blk_cell Z6.out 1; have zg6_2 : w6.cell? ⟨g6, 2, none⟩ = some (.int .i64 0) := blk_cell Z6.out 2; have zg6_3 : w6.cell? ⟨g6, 3, none⟩ = some (.int .i64 0) := blk_cell Z6.out 3; have zg6_4 : w6.cell? ⟨g6, 4, none⟩ = some (.int .i64 0) := blk_cell Z6.out 4; have zg6_5 : w6.cell? ⟨g6, 5, none⟩ = some (.slice none 0 0) := blk_cell Z6.out 5; have fzg6_0 : w6.frozen? ⟨g6, 0, none⟩ = false := blk_frozen Z6.out 0; have fzg6_1 : w6.frozen? ⟨g6, 1, none⟩ = false := blk_frozen Z6.out 1; have fzg6_2 : w6.frozen? ⟨g6, 2, none⟩ = false := blk_frozen Z6.out 2; have fzg6_3 : w6.frozen? ⟨g6, 3, none⟩ = false := blk_frozen Z6.out 3; have fzg6_4 : w6.frozen? ⟨g6, 4, none⟩ = false := blk_frozen Z6.out 4; have fzg6_5 : w6.frozen? ⟨g6, 5, none⟩ = false := blk_frozen Z6.out 5; have zg7_0 : w6.cell? ⟨g7, 0, none⟩ = some (.bool false) := blk_cell Y7.out 0; have zg7_1 : w6.cell? ⟨g7, 1, none⟩ = some (.bool false) := blk_cell Y7.out 1; have zg7_2 : w6.cell? ⟨g7, 2, none⟩ = some (.int .i64 0) := blk_cell Y7.out 2; have zg7_3 : w6.cell? ⟨g7, 3, none⟩ = some (.int .i64 0) := blk_cell Y7.out 3; have zg7_4 : w6.cell? ⟨g7, 4, none⟩ = some (.int .i64 0) := blk_cell Y7.out 4; have zg7_5 : w6.cell? ⟨g7, 5, none⟩ = some (.slice none 0 0) := blk_cell Y7.out 5; have fzg7_0 : w6.frozen? ⟨g7, 0, none⟩ = false := blk_frozen Y7.out 0; have fzg7_1 : w6.frozen? ⟨g7, 1, none⟩ = false := blk_frozen Y7.out 1; have fzg7_2 : w6.frozen? ⟨g7, 2, none⟩ = false := blk_frozen Y7.out 2; have fzg7_3 : w6.frozen? ⟨g7, 3, none⟩ = false := blk_frozen Y7.out 3; have fzg7_4 : w6.frozen? ⟨g7, 4, none⟩ = false := blk_frozen Y7.out 4; have fzg7_5 : w6.frozen? ⟨g7, 5, none⟩ = false := blk_frozen Y7.out 5; have O2 := Aside0.mk (blk_below B2.out XX.out); have z2_0 : w6.cell? ⟨g2, 0, none⟩ = some (.bool p) := blk_cell O2.out 0; have z2_1 : w6.cell? ⟨g2, 1, none⟩ = some (.bool m) := blk_cell O2.out 1; have z2_2 : w6.cell? ⟨g2, 2, none⟩ = some (.int .i64 pr) := blk_cell O2.out 2; have z2_3 : w6.cell? ⟨g2, 3, none⟩ = some (.int .i64 ep) := blk_cell O2.out 3; have z2_4 : w6.cell? ⟨g2, 4, none⟩ = some (.int .i64 sq) := blk_cell O2.out 4; have z2_5 : w6.cell? ⟨g2, 5, none⟩ = some (.slice A aB.length c) := blk_cell O2.out 5; have k26 : g2 ≠ g6 := (by have h1 := blk_lt B2.out; have h2 := G6.out; exact Nat.ne_of_lt (by omega)); have l26 := Ne.symm k26; have k27 : g2 ≠ g7 := (by have h1 := blk_lt B2.out; have h2 := G7.out; have h3 := X6.out.size; exact Nat.ne_of_lt (by omega)); have l27 := Ne.symm k27))
  clear zg6_0 fzg6_0 zg6_1 fzg6_1 zg6_2 fzg6_2 zg6_3 fzg6_3 zg6_4 fzg6_4 zg6_5 fzg6_5 zg7_0 fzg7_0 zg7_1 fzg7_1 zg7_2 fzg7_2 zg7_3 fzg7_3 zg7_4 fzg7_4 zg7_5 fzg7_5 z2_0 z2_1 z2_2 z2_3 z2_4 z2_5 k26 l26 k27 l27 k1 k2 O2
  have GG7 := Aside0.mk (show w4.heap.size ≤ g7 from Nat.le_trans X6.out.size G7.out)
  have FB := Aside0.mk (set6_below (set6_below XX.out G6.out (.bool r1) (.bool r2) (.int .i64 r3) (.int .i64 r4) (.int .i64 r5) (.slice Xu r6.length cu)) GG7.out (.bool r7) (.bool r8) (.int .i64 r9) (.int .i64 r10) (.int .i64 r11) (.slice Xv r12.length cv))
  have F6 := Aside0.mk ((set6_heap (set6 w6 g6 (.bool r1) (.bool r2) (.int .i64 r3) (.int .i64 r4) (.int .i64 r5) (.slice Xu r6.length cu)) g7 (.bool r7) (.bool r8) (.int .i64 r9) (.int .i64 r10) (.int .i64 r11) (.slice Xv r12.length cv) N67.out).trans (set6_blk Z6.out (.bool r1) (.bool r2) (.int .i64 r3) (.int .i64 r4) (.int .i64 r5) (.slice Xu r6.length cu)))
  have F7 := Aside0.mk (set6_blk ((set6_heap w6 g6 (.bool r1) (.bool r2) (.int .i64 r3) (.int .i64 r4) (.int .i64 r5) (.slice Xu r6.length cu) (Ne.symm N67.out)).trans Y7.out) (.bool r7) (.bool r8) (.int .i64 r9) (.int .i64 r10) (.int .i64 r11) (.slice Xv r12.length cv))
  unfold set6 at FB F6 F7
  generalize ((((((((((((w6.setCell ⟨g6, 0, none⟩ (.bool r1)).setCell ⟨g6, 1, none⟩ (.bool r2)).setCell ⟨g6, 2, none⟩ (.int .i64 r3)).setCell ⟨g6, 3, none⟩ (.int .i64 r4)).setCell ⟨g6, 4, none⟩ (.int .i64 r5)).setCell ⟨g6, 5, none⟩ (.slice Xu r6.length cu)).setCell ⟨g7, 0, none⟩ (.bool r7)).setCell ⟨g7, 1, none⟩ (.bool r8)).setCell ⟨g7, 2, none⟩ (.int .i64 r9)).setCell ⟨g7, 3, none⟩ (.int .i64 r10)).setCell ⟨g7, 4, none⟩ (.int .i64 r11)).setCell ⟨g7, 5, none⟩ (.slice Xv r12.length cv)) = w6g at FB F6 F7 ⊢
  have D6 := Aside0.mk (show w4.heap.size ≤ w6g.heap.size from FB.out.size)
  replace B2 := Aside0.mk (blk_below B2.out FB.out)
  replace Su := Aside0.mk (Kd.S_below Su.out FB.out)
  replace Sv := Aside0.mk (Kd.S_below Sv.out FB.out)
  replace HW := Aside0.mk (below_step HW.out FB.out)
  have B6 := F6
  have D7 := Aside0.mk (show w4.heap.size ≤ g6 from G6.out)
  have D8 := Aside0.mk (show g6 + 1 ≤ w6g.heap.size from blk_lt F6.out)
  have B7 := F7
  have D9 := Aside0.mk (show w4.heap.size ≤ g7 from GG7.out)
  have D10 := Aside0.mk (show g7 + 1 ≤ w6g.heap.size from blk_lt F7.out)
  clear FB XX F6 X6 Y6 G6 F7 X7 Y7 G7 Z6 N67 GG7
  refine (laws_toBatch.calls KK1 p m pr ep sq A c aB p m pr ep sq l _ (Kd.C_below HA.out HW.out) HC0.out TA.out).mono ?_
  rintro e w7 ⟨vx, rfl, hs, hb⟩
  obtain ⟨Xx, cXx, hv, hl_, hc_⟩ := Kd.S_reads hs
  subst hv
  have Lx := Aside0.mk hl_
  clear hl_ hc_
  have Sx := Aside0.mk (S_iv2 hs HW.out.size)
  clear hs
  have D11 := Aside0.mk (show w6g.heap.size ≤ w7.heap.size from hb.size)
  replace B2 := Aside0.mk (blk_below B2.out hb)
  replace B6 := Aside0.mk (blk_below B6.out hb)
  replace B7 := Aside0.mk (blk_below B7.out hb)
  replace Su := Aside0.mk (Kd.S_below Su.out hb)
  replace Sv := Aside0.mk (Kd.S_below Sv.out hb)
  replace HW := Aside0.mk (below_step HW.out hb)
  clear hb
  go_wp2_with (first | ((with_reducible refine gate_dst (N := 9) rfl ?_); (try (refine gate_guard (by rfl) ?_; dsimp only)); refine box_event ?hg (N := 9) ?hd (cs := #[.bool false, .bool false, .int .i64 0, .int .i64 0, .int .i64 0, .slice none 0 0]) (t := 28) ?hr ?_; (case hd => rfl); (case hg => rfl); (case hr => first | (go_simp; done) | (go_simp; rfl)); intro g9 hg w8 hbox hb; have X9 := Aside0.mk hb; have Y9 := Aside0.mk hbox; have G9 := Aside0.mk (Nat.le_of_eq hg.symm : w7.heap.size ≤ g9); clear hb hbox hg; have XX := X9; have zg9_0 : w8.cell? ⟨g9, 0, none⟩ = some (.bool false) := blk_cell Y9.out 0; have zg9_1 : w8.cell? ⟨g9, 1, none⟩ = some (.bool false) := blk_cell Y9.out 1; have zg9_2 : w8.cell? ⟨g9, 2, none⟩ = some (.int .i64 0) := blk_cell Y9.out 2; have zg9_3 : w8.cell? ⟨g9, 3, none⟩ = some (.int .i64 0) := blk_cell Y9.out 3; have zg9_4 : w8.cell? ⟨g9, 4, none⟩ = some (.int .i64 0) := blk_cell Y9.out 4; have zg9_5 : w8.cell? ⟨g9, 5, none⟩ = some (.slice none 0 0) := blk_cell Y9.out 5; have fzg9_0 : w8.frozen? ⟨g9, 0, none⟩ = false := blk_frozen Y9.out 0; have fzg9_1 : w8.frozen? ⟨g9, 1, none⟩ = false := blk_frozen Y9.out 1; have fzg9_2 : w8.frozen? ⟨g9, 2, none⟩ = false := blk_frozen Y9.out 2; have fzg9_3 : w8.frozen? ⟨g9, 3, none⟩ = false := blk_frozen Y9.out 3; have fzg9_4 : w8.frozen? ⟨g9, 4, none⟩ = false := blk_frozen Y9.out 4; have fzg9_5 : w8.frozen? ⟨g9, 5, none⟩ = false := blk_frozen Y9.out 5))
  clear zg9_0 fzg9_0 zg9_1 fzg9_1 zg9_2 fzg9_2 zg9_3 fzg9_3 zg9_4 fzg9_4 zg9_5 fzg9_5
  have FB := Aside0.mk (set6_below XX.out G9.out (.bool p) (.bool m) (.int .i64 pr) (.int .i64 ep) (.int .i64 sq) (.slice Xx l.length cXx))
  have F9 := Aside0.mk (set6_blk Y9.out (.bool p) (.bool m) (.int .i64 pr) (.int .i64 ep) (.int .i64 sq) (.slice Xx l.length cXx))
  have GG9 := G9
  unfold set6 at FB
  generalize ((((((w8.setCell ⟨g9, 0, none⟩ (.bool p)).setCell ⟨g9, 1, none⟩ (.bool m)).setCell ⟨g9, 2, none⟩ (.int .i64 pr)).setCell ⟨g9, 3, none⟩ (.int .i64 ep)).setCell ⟨g9, 4, none⟩ (.int .i64 sq)).setCell ⟨g9, 5, none⟩ (.slice Xx l.length cXx)) = w8g at FB F9 ⊢
  have D12 := Aside0.mk (show w7.heap.size ≤ w8g.heap.size from FB.out.size)
  replace B2 := Aside0.mk (blk_below B2.out FB.out)
  replace B6 := Aside0.mk (blk_below B6.out FB.out)
  replace B7 := Aside0.mk (blk_below B7.out FB.out)
  replace Su := Aside0.mk (Kd.S_below Su.out FB.out)
  replace Sv := Aside0.mk (Kd.S_below Sv.out FB.out)
  replace Sx := Aside0.mk (Kd.S_below Sx.out FB.out)
  replace HW := Aside0.mk (below_step HW.out FB.out)
  have B9 := F9
  have D13 := Aside0.mk (show w7.heap.size ≤ g9 from G9.out)
  have D14 := Aside0.mk (show g9 + 1 ≤ w8g.heap.size from blk_lt F9.out)
  clear FB XX F9 X9 Y9 G9 GG9
  refine (impl_BatchCut.calls KK1 p m pr ep sq _ _ l off v pe _ (Kd.S_reads' Sx.out).2.2 Lx.out HV.out (pw_cell_below HW.out HG.out) HV6.out HP.out r1 r2 r3 r4 r5 r6 r7 r8 r9 r10 r11 r12 r13 HR.out).mono ?_
  rintro e w9 ⟨P, vg, vh, rfl, ht, hb⟩
  have hs5 := ht.a
  have hs11 := ht.b
  clear ht
  obtain ⟨Xg, cg, hv, hl_, hc_⟩ := Kd.S_reads hs5
  subst hv
  have Lg := Aside0.mk hl_
  clear hl_ hc_
  obtain ⟨Xh, ch, hv, hl_, hc_⟩ := Kd.S_reads hs11
  subst hv
  have Lh := Aside0.mk hl_
  clear hl_ hc_
  have Sg := Aside0.mk (S_iv2 hs5 HW.out.size)
  have Sh := Aside0.mk (S_iv2 hs11 HW.out.size)
  clear hs5 hs11
  have D15 := Aside0.mk (show w8g.heap.size ≤ w9.heap.size from hb.size)
  replace B2 := Aside0.mk (blk_below B2.out hb)
  replace B6 := Aside0.mk (blk_below B6.out hb)
  replace B7 := Aside0.mk (blk_below B7.out hb)
  replace B9 := Aside0.mk (blk_below B9.out hb)
  replace Su := Aside0.mk (Kd.S_below Su.out hb)
  replace Sv := Aside0.mk (Kd.S_below Sv.out hb)
  replace Sx := Aside0.mk (Kd.S_below Sx.out hb)
  replace HW := Aside0.mk (below_step HW.out hb)
  clear hb
  go_wp2_with (first | ((with_reducible refine gate_dst (N := 10) rfl ?_); (try (refine gate_guard (by rfl) ?_; dsimp only)); refine box_event ?hg (N := 10) ?hd (cs := #[.bool false, .bool false, .int .i64 0, .int .i64 0, .int .i64 0, .slice none 0 0]) (t := 28) ?hr ?_; (case hd => rfl); (case hg => rfl); (case hr => first | (go_simp; done) | (go_simp; rfl)); intro g10 hg w10 hbox hb; have X10 := Aside0.mk hb; have Y10 := Aside0.mk hbox; have G10 := Aside0.mk (Nat.le_of_eq hg.symm : w9.heap.size ≤ g10); clear hb hbox hg) | ((with_reducible refine gate_dst (N := 11) rfl ?_); (try (refine gate_guard (by rfl) ?_; dsimp only)); refine box_event ?hg (N := 11) ?hd (cs := #[.bool false, .bool false, .int .i64 0, .int .i64 0, .int .i64 0, .slice none 0 0]) (t := 28) ?hr ?_; (case hd => rfl); (case hg => rfl); (case hr => first | (go_simp; done) | (go_simp; rfl)); intro g11 hg w11 hbox hb; have X11 := Aside0.mk hb; have Y11 := Aside0.mk hbox; have G11 := Aside0.mk (Nat.le_of_eq hg.symm : w10.heap.size ≤ g11); have N1011 := Aside0.mk (by rw [hg]; exact Nat.ne_of_lt (blk_lt Y10.out) : g10 ≠ g11); clear hb hbox hg; have Z10 := Aside0.mk (blk_below Y10.out X11.out); have k1 := N1011.out; have k2 := Ne.symm N1011.out; have XX := Aside0.mk (below_step X10.out X11.out); have zg10_0 : w11.cell? ⟨g10, 0, none⟩ = some (.bool false) := blk_cell Z10.out 0; have zg10_1 : w11.cell? ⟨g10, 1, none⟩ = some (.bool false) := blk_cell Z10.out 1; have zg10_2 : w11.cell? ⟨g10, 2, none⟩ = some (.int .i64 0) := blk_cell Z10.out 2; have zg10_3 : w11.cell? ⟨g10, 3, none⟩ = some (.int .i64 0) := blk_cell Z10.out 3; have zg10_4 : w11.cell? ⟨g10, 4, none⟩ = some (.int .i64 0) := blk_cell Z10.out 4; have zg10_5 : w11.cell? ⟨g10, 5, none⟩ = some (.slice none 0 0) := blk_cell Z10.out 5; have fzg10_0 : w11.frozen? ⟨g10, 0, none⟩ = false := blk_frozen Z10.out 0; have fzg10_1 : w11.frozen? ⟨g10, 1, none⟩ = false := blk_frozen Z10.out 1; have fzg10_2 : w11.frozen? ⟨g10, 2, none⟩ = false := blk_frozen Z10.out 2; have fzg10_3 : w11.frozen? ⟨g10, 3, none⟩ = false := blk_frozen Z10.out 3; have fzg10_4 : w11.frozen? ⟨g10, 4, none⟩ = false := blk_frozen Z10.out 4; have fzg10_5 : w11.frozen? ⟨g10, 5, none⟩ = false := blk_frozen Z10.out 5; have zg11_0 : w11.cell? ⟨g11, 0, none⟩ = some (.bool false) := blk_cell Y11.out 0; have zg11_1 : w11.cell? ⟨g11, 1, none⟩ = some (.bool false) := blk_cell Y11.out 1; have zg11_2 : w11.cell? ⟨g11, 2, none⟩ = some (.int .i64 0) := blk_cell Y11.out 2; have zg11_3 : w11.cell? ⟨g11, 3, none⟩ = some (.int .i64 0) := blk_cell Y11.out 3; have zg11_4 : w11.cell? ⟨g11, 4, none⟩ = some (.int .i64 0) := blk_cell Y11.out 4; have zg11_5 : w11.cell? ⟨g11, 5, none⟩ = some (.slice none 0 0) := blk_cell Y11.out 5; have fzg11_0 : w11.frozen? ⟨g11, 0, none⟩ = false := blk_frozen Y11.out 0; have fzg11_1 : w11.frozen? ⟨g11, 1, none⟩ = false := blk_frozen Y11.out 1; have fzg11_2 : w11.frozen? ⟨g11, 2, none⟩ = false := blk_frozen Y11.out 2; have fzg11_3 : w11.frozen? ⟨g11, 3, none⟩ = false := blk_frozen Y11.out 3; have fzg11_4 : w11.frozen? ⟨g11, 4, none⟩ = false := blk_frozen Y11.out 4; have fzg11_5 : w11.frozen? ⟨g11, 5, none⟩ = false := blk_frozen Y11.out 5; have O6 := Aside0.mk (blk_below B6.out XX.out); have z6_0 : w11.cell? ⟨g6, 0, none⟩ = some (.bool r1) := blk_cell O6.out 0; have z6_1 : w11.cell? ⟨g6, 1, none⟩ = some (.bool r2) := blk_cell O6.out 1; have z6_2 : w11.cell? ⟨g6, 2, none⟩ = some (.int .i64 r3) := blk_cell O6.out 2; have z6_3 : w11.cell? ⟨g6, 3, none⟩ = some (.int .i64 r4) := blk_cell O6.out 3; have z6_4 : w11.cell? ⟨g6, 4, none⟩ = some (.int .i64 r5) := blk_cell O6.out 4; have z6_5 : w11.cell? ⟨g6, 5, none⟩ = some (.slice Xu r6.length cu) := blk_cell O6.out 5; have k610 : g6 ≠ g10 := (by have h1 := blk_lt B6.out; have h2 := G10.out; exact Nat.ne_of_lt (by omega)); have l610 := Ne.symm k610; have k611 : g6 ≠ g11 := (by have h1 := blk_lt B6.out; have h2 := G11.out; have h3 := X10.out.size; exact Nat.ne_of_lt (by omega)); have l611 := Ne.symm k611))
  clear zg10_0 fzg10_0 zg10_1 fzg10_1 zg10_2 fzg10_2 zg10_3 fzg10_3 zg10_4 fzg10_4 zg10_5 fzg10_5 zg11_0 fzg11_0 zg11_1 fzg11_1 zg11_2 fzg11_2 zg11_3 fzg11_3 zg11_4 fzg11_4 zg11_5 fzg11_5 z6_0 z6_1 z6_2 z6_3 z6_4 z6_5 k610 l610 k611 l611 k1 k2 O6
  have GG11 := Aside0.mk (show w9.heap.size ≤ g11 from Nat.le_trans X10.out.size G11.out)
  have FB := Aside0.mk (set6_below (set6_below XX.out G10.out (.bool r1) (.bool r2) (.int .i64 r3) (.int .i64 r4) (.int .i64 r5) (.slice Xg r6.length cg)) GG11.out (.bool r7) (.bool r8) (.int .i64 r9) (.int .i64 r10) (.int .i64 r11) (.slice Xh r12.length ch))
  have F10 := Aside0.mk ((set6_heap (set6 w11 g10 (.bool r1) (.bool r2) (.int .i64 r3) (.int .i64 r4) (.int .i64 r5) (.slice Xg r6.length cg)) g11 (.bool r7) (.bool r8) (.int .i64 r9) (.int .i64 r10) (.int .i64 r11) (.slice Xh r12.length ch) N1011.out).trans (set6_blk Z10.out (.bool r1) (.bool r2) (.int .i64 r3) (.int .i64 r4) (.int .i64 r5) (.slice Xg r6.length cg)))
  have F11 := Aside0.mk (set6_blk ((set6_heap w11 g10 (.bool r1) (.bool r2) (.int .i64 r3) (.int .i64 r4) (.int .i64 r5) (.slice Xg r6.length cg) (Ne.symm N1011.out)).trans Y11.out) (.bool r7) (.bool r8) (.int .i64 r9) (.int .i64 r10) (.int .i64 r11) (.slice Xh r12.length ch))
  unfold set6 at FB F10 F11
  generalize ((((((((((((w11.setCell ⟨g10, 0, none⟩ (.bool r1)).setCell ⟨g10, 1, none⟩ (.bool r2)).setCell ⟨g10, 2, none⟩ (.int .i64 r3)).setCell ⟨g10, 3, none⟩ (.int .i64 r4)).setCell ⟨g10, 4, none⟩ (.int .i64 r5)).setCell ⟨g10, 5, none⟩ (.slice Xg r6.length cg)).setCell ⟨g11, 0, none⟩ (.bool r7)).setCell ⟨g11, 1, none⟩ (.bool r8)).setCell ⟨g11, 2, none⟩ (.int .i64 r9)).setCell ⟨g11, 3, none⟩ (.int .i64 r10)).setCell ⟨g11, 4, none⟩ (.int .i64 r11)).setCell ⟨g11, 5, none⟩ (.slice Xh r12.length ch)) = w11g at FB F10 F11 ⊢
  have D16 := Aside0.mk (show w9.heap.size ≤ w11g.heap.size from FB.out.size)
  replace B2 := Aside0.mk (blk_below B2.out FB.out)
  replace B6 := Aside0.mk (blk_below B6.out FB.out)
  replace B7 := Aside0.mk (blk_below B7.out FB.out)
  replace B9 := Aside0.mk (blk_below B9.out FB.out)
  replace Su := Aside0.mk (Kd.S_below Su.out FB.out)
  replace Sv := Aside0.mk (Kd.S_below Sv.out FB.out)
  replace Sx := Aside0.mk (Kd.S_below Sx.out FB.out)
  replace Sg := Aside0.mk (Kd.S_below Sg.out FB.out)
  replace Sh := Aside0.mk (Kd.S_below Sh.out FB.out)
  replace HW := Aside0.mk (below_step HW.out FB.out)
  have B10 := F10
  have D17 := Aside0.mk (show w9.heap.size ≤ g10 from G10.out)
  have D18 := Aside0.mk (show g10 + 1 ≤ w11g.heap.size from blk_lt F10.out)
  have B11 := F11
  have D19 := Aside0.mk (show w9.heap.size ≤ g11 from GG11.out)
  have D20 := Aside0.mk (show g11 + 1 ≤ w11g.heap.size from blk_lt F11.out)
  clear FB XX F10 X10 Y10 G10 F11 X11 Y11 G11 Z10 N1011 GG11
  refine (laws_eqBatch.calls KK1 r1 r2 r3 r4 r5 _ _ r6 r1 r2 r3 r4 r5 _ _ r6 true _ (Kd.S_reads' Sg.out).2.2 Lg.out (Kd.S_reads' Su.out).2.2 Lu.out E0.out).mono ?_
  rintro e w12 ⟨rfl, hb⟩
  have D21 := Aside0.mk (show w11g.heap.size ≤ w12.heap.size from hb.size)
  replace B2 := Aside0.mk (blk_below B2.out hb)
  replace B6 := Aside0.mk (blk_below B6.out hb)
  replace B7 := Aside0.mk (blk_below B7.out hb)
  replace B9 := Aside0.mk (blk_below B9.out hb)
  replace B10 := Aside0.mk (blk_below B10.out hb)
  replace B11 := Aside0.mk (blk_below B11.out hb)
  replace Su := Aside0.mk (Kd.S_below Su.out hb)
  replace Sv := Aside0.mk (Kd.S_below Sv.out hb)
  replace Sx := Aside0.mk (Kd.S_below Sx.out hb)
  replace Sg := Aside0.mk (Kd.S_below Sg.out hb)
  replace Sh := Aside0.mk (Kd.S_below Sh.out hb)
  replace HW := Aside0.mk (below_step HW.out hb)
  clear hb
  have z11_0 : w12.cell? ⟨g11, 0, none⟩ = some (.bool r7) := blk_cell B11.out 0
  have z11_1 : w12.cell? ⟨g11, 1, none⟩ = some (.bool r8) := blk_cell B11.out 1
  have z11_2 : w12.cell? ⟨g11, 2, none⟩ = some (.int .i64 r9) := blk_cell B11.out 2
  have z11_3 : w12.cell? ⟨g11, 3, none⟩ = some (.int .i64 r10) := blk_cell B11.out 3
  have z11_4 : w12.cell? ⟨g11, 4, none⟩ = some (.int .i64 r11) := blk_cell B11.out 4
  have z11_5 : w12.cell? ⟨g11, 5, none⟩ = some (.slice Xh r12.length ch) := blk_cell B11.out 5
  have z7_0 : w12.cell? ⟨g7, 0, none⟩ = some (.bool r7) := blk_cell B7.out 0
  have z7_1 : w12.cell? ⟨g7, 1, none⟩ = some (.bool r8) := blk_cell B7.out 1
  have z7_2 : w12.cell? ⟨g7, 2, none⟩ = some (.int .i64 r9) := blk_cell B7.out 2
  have z7_3 : w12.cell? ⟨g7, 3, none⟩ = some (.int .i64 r10) := blk_cell B7.out 3
  have z7_4 : w12.cell? ⟨g7, 4, none⟩ = some (.int .i64 r11) := blk_cell B7.out 4
  have z7_5 : w12.cell? ⟨g7, 5, none⟩ = some (.slice Xv r12.length cv) := blk_cell B7.out 5
  go_wp2_with fail
  clear z11_0 z11_1 z11_2 z11_3 z11_4 z11_5 z7_0 z7_1 z7_2 z7_3 z7_4 z7_5
  refine (laws_eqBatch.calls KK1 r7 r8 r9 r10 r11 _ _ r12 r7 r8 r9 r10 r11 _ _ r12 true _ (Kd.S_reads' Sh.out).2.2 Lh.out (Kd.S_reads' Sv.out).2.2 Lv.out E1.out).mono ?_
  rintro e w13 ⟨rfl, hb⟩
  have D22 := Aside0.mk (show w12.heap.size ≤ w13.heap.size from hb.size)
  replace B2 := Aside0.mk (blk_below B2.out hb)
  replace B6 := Aside0.mk (blk_below B6.out hb)
  replace B7 := Aside0.mk (blk_below B7.out hb)
  replace B9 := Aside0.mk (blk_below B9.out hb)
  replace B10 := Aside0.mk (blk_below B10.out hb)
  replace B11 := Aside0.mk (blk_below B11.out hb)
  replace Su := Aside0.mk (Kd.S_below Su.out hb)
  replace Sv := Aside0.mk (Kd.S_below Sv.out hb)
  replace Sx := Aside0.mk (Kd.S_below Sx.out hb)
  replace Sg := Aside0.mk (Kd.S_below Sg.out hb)
  replace Sh := Aside0.mk (Kd.S_below Sh.out hb)
  replace HW := Aside0.mk (below_step HW.out hb)
  clear hb
  go_wp2_with fail
  refine start_ (n := 5) (S := fun w' => w'.cell? ⟨g9, 0, none⟩ = some (.bool p) ∧ w'.cell? ⟨g9, 1, none⟩ = some (.bool m) ∧ w'.cell? ⟨g9, 2, none⟩ = some (.int .i64 pr) ∧ w'.cell? ⟨g9, 3, none⟩ = some (.int .i64 ep) ∧ w'.cell? ⟨g9, 4, none⟩ = some (.int .i64 sq) ∧ w'.cell? ⟨g9, 5, none⟩ = some (.slice Xx l.length cXx) ∧ w'.cell? ⟨g2, 0, none⟩ = some (.bool p) ∧ w'.cell? ⟨g2, 1, none⟩ = some (.bool m) ∧ w'.cell? ⟨g2, 2, none⟩ = some (.int .i64 pr) ∧ w'.cell? ⟨g2, 3, none⟩ = some (.int .i64 ep) ∧ w'.cell? ⟨g2, 4, none⟩ = some (.int .i64 sq) ∧ w'.cell? ⟨g2, 5, none⟩ = some (.slice A aB.length c)) (ds := []) #[false, false, false, false, false] (by kernel_rfl) rfl rfl ⟨(blk_cell B9.out 0), (blk_cell B9.out 1), (blk_cell B9.out 2), (blk_cell B9.out 3), (blk_cell B9.out 4), (blk_cell B9.out 5), (blk_cell B2.out 0), (blk_cell B2.out 1), (blk_cell B2.out 2), (blk_cell B2.out 3), (blk_cell B2.out 4), (blk_cell B2.out 5)⟩ (fun hHeld => ?_)
  replace B2 := Aside0.mk (blk_drew B2.out)
  replace B6 := Aside0.mk (blk_drew B6.out)
  replace B7 := Aside0.mk (blk_drew B7.out)
  replace B9 := Aside0.mk (blk_drew B9.out)
  replace B10 := Aside0.mk (blk_drew B10.out)
  replace B11 := Aside0.mk (blk_drew B11.out)
  replace Su := Aside0.mk (Kd.S_drew Su.out)
  replace Sv := Aside0.mk (Kd.S_drew Sv.out)
  replace Sx := Aside0.mk (Kd.S_drew Sx.out)
  replace Sg := Aside0.mk (Kd.S_drew Sg.out)
  replace Sh := Aside0.mk (Kd.S_drew Sh.out)
  replace HW := Aside0.mk (below_drew HW.out)
  have D23 := Aside0.mk (show w13.heap.size ≤ w13.drew.heap.size from Nat.le_refl _)
  generalize w13.drew = w14 at hHeld HW D23 B2 B6 B7 B9 B10 B11 Su Sv Sx Sg Sh ⊢
  refine take_ (i := 0) (N := some 56) (v := ?_) (a' := ?_) #[true, false, false, false, false] rfl rfl (by kernel_rfl) (fun _ _ _ h => h) (Or.inl ⟨by rfl, ?_⟩) hHeld ?_ ?_
  rotate_left
  · rintro w' ⟨s0, s1, s2, s3, s4, s5, s6, s7, s8, s9, s10, s11⟩
    go_simp
    with_reducible rfl
  rotate_left
  · simp only [Act.put, List.setIfInBounds_toArray, List.set_cons_zero, List.set_cons_succ, i64_w, i32_w]
    rfl
  refine take_ (i := 1) (N := some 57) (v := ?_) (a' := ?_) #[true, true, false, false, false] rfl rfl (by kernel_rfl) (fun _ _ _ h => h) (Or.inl ⟨by rfl, ?_⟩) hHeld ?_ ?_
  rotate_left
  · rintro w' ⟨s0, s1, s2, s3, s4, s5, s6, s7, s8, s9, s10, s11⟩
    go_simp
    with_reducible rfl
  rotate_left
  · simp only [Act.put, List.setIfInBounds_toArray, List.set_cons_zero, List.set_cons_succ, i64_w, i32_w]
    rfl
  clear hHeld
  refine one_ (i := 2) (N := some 58) #[true, true, true, false, false] rfl rfl (by kernel_rfl) (by decide) (fun K hK => ?_)
  refine goes_ Tryd.func8 (by kernel_rfl) rfl #[.agg #[.bool p, .bool m, .int .i64 pr, .int .i64 ep, .int .i64 sq, .slice A aB.length c]] (by rfl) rfl rfl (by (try simp only [List.map_toArray, List.map_cons, List.map_nil]); first | done | rfl) ?_
  refine (laws_toBatch.calls KK1 p m pr ep sq A c aB p m pr ep sq l _ (Kd.C_below HA.out HW.out) HC0.out TA.out).mono ?_
  rintro e w15 ⟨vy, rfl, hs, hb⟩
  refine ⟨_, rfl, ?_⟩
  obtain ⟨Xy, cXy, hv, hl_, hc_⟩ := Kd.S_reads hs
  subst hv
  have Ly := Aside0.mk hl_
  clear hl_ hc_
  have Sy := Aside0.mk (S_iv2 hs HW.out.size)
  clear hs
  have D24 := Aside0.mk (show w14.heap.size ≤ w15.heap.size from hb.size)
  replace B2 := Aside0.mk (blk_below B2.out hb)
  replace B6 := Aside0.mk (blk_below B6.out hb)
  replace B7 := Aside0.mk (blk_below B7.out hb)
  replace B9 := Aside0.mk (blk_below B9.out hb)
  replace B10 := Aside0.mk (blk_below B10.out hb)
  replace B11 := Aside0.mk (blk_below B11.out hb)
  replace Su := Aside0.mk (Kd.S_below Su.out hb)
  replace Sv := Aside0.mk (Kd.S_below Sv.out hb)
  replace Sx := Aside0.mk (Kd.S_below Sx.out hb)
  replace Sg := Aside0.mk (Kd.S_below Sg.out hb)
  replace Sh := Aside0.mk (Kd.S_below Sh.out hb)
  replace HW := Aside0.mk (below_step HW.out hb)
  clear hb
  refine hK.out _ _ ⟨(blk_cell B9.out 0), (blk_cell B9.out 1), (blk_cell B9.out 2), (blk_cell B9.out 3), (blk_cell B9.out 4), (blk_cell B9.out 5), (blk_cell B2.out 0), (blk_cell B2.out 1), (blk_cell B2.out 2), (blk_cell B2.out 3), (blk_cell B2.out 4), (blk_cell B2.out 5)⟩ (fun hHeld => ?_)
  clear hK K hHeld
  refine norm_ (a' := ?_) ?_ ?_
  rotate_left
  · show Act.put _ (some 58) _ = _
    simp only [Act.put, List.setIfInBounds_toArray, List.set_cons_zero, List.set_cons_succ, i64_w, i32_w]
    rfl
  refine one_ (i := 3) (N := some 59) #[true, true, true, true, false] rfl rfl (by kernel_rfl) (by decide) (fun K hK => ?_)
  refine goes_ Tryd.func10 (by kernel_rfl) rfl #[.agg #[.bool p, .bool m, .int .i64 pr, .int .i64 ep, .int .i64 sq, .slice Xx l.length cXx], .agg #[.bool p, .bool m, .int .i64 pr, .int .i64 ep, .int .i64 sq, .slice Xy l.length cXy]] (by rfl) rfl rfl (by (try simp only [List.map_toArray, List.map_cons, List.map_nil]); first | done | rfl) ?_
  refine (laws_eqBatch.calls KK1 p m pr ep sq _ _ l p m pr ep sq _ _ l true _ (Kd.S_reads' Sx.out).2.2 Lx.out (Kd.S_reads' Sy.out).2.2 Ly.out EX.out).mono ?_
  rintro e w16 ⟨rfl, hb⟩
  refine ⟨_, rfl, ?_⟩
  have D25 := Aside0.mk (show w15.heap.size ≤ w16.heap.size from hb.size)
  replace B2 := Aside0.mk (blk_below B2.out hb)
  replace B6 := Aside0.mk (blk_below B6.out hb)
  replace B7 := Aside0.mk (blk_below B7.out hb)
  replace B9 := Aside0.mk (blk_below B9.out hb)
  replace B10 := Aside0.mk (blk_below B10.out hb)
  replace B11 := Aside0.mk (blk_below B11.out hb)
  replace Su := Aside0.mk (Kd.S_below Su.out hb)
  replace Sv := Aside0.mk (Kd.S_below Sv.out hb)
  replace Sx := Aside0.mk (Kd.S_below Sx.out hb)
  replace Sg := Aside0.mk (Kd.S_below Sg.out hb)
  replace Sh := Aside0.mk (Kd.S_below Sh.out hb)
  replace Sy := Aside0.mk (Kd.S_below Sy.out hb)
  replace HW := Aside0.mk (below_step HW.out hb)
  clear hb
  clear Sy Ly
  refine hK.out _ _ ⟨(blk_cell B9.out 0), (blk_cell B9.out 1), (blk_cell B9.out 2), (blk_cell B9.out 3), (blk_cell B9.out 4), (blk_cell B9.out 5), (blk_cell B2.out 0), (blk_cell B2.out 1), (blk_cell B2.out 2), (blk_cell B2.out 3), (blk_cell B2.out 4), (blk_cell B2.out 5)⟩ (fun hHeld => ?_)
  clear hK K hHeld
  refine norm_ (a' := ?_) ?_ ?_
  rotate_left
  · show Act.put _ (some 59) _ = _
    simp only [Act.put, List.setIfInBounds_toArray, List.set_cons_zero, List.set_cons_succ, i64_w, i32_w]
    rfl
  refine pure_ (i := 4) (N := some 60) (v := ?_) (a' := ?_) #[true, true, true, true, true] rfl rfl (by kernel_rfl) (fun _ _ _ h => h) (Or.inl ⟨by rfl, ?_⟩) ?_ ?_
  rotate_left
  · intro w'
    go_simp
    with_reducible rfl
  rotate_left
  · simp only [Act.put, List.setIfInBounds_toArray, List.set_cons_zero, List.set_cons_succ, i64_w, i32_w]
    rfl
  refine done_ (by kernel_rfl) ?_
  have z9_0 : w16.cell? ⟨g9, 0, none⟩ = some (.bool p) := blk_cell B9.out 0
  have z9_1 : w16.cell? ⟨g9, 1, none⟩ = some (.bool m) := blk_cell B9.out 1
  have z9_2 : w16.cell? ⟨g9, 2, none⟩ = some (.int .i64 pr) := blk_cell B9.out 2
  have z9_3 : w16.cell? ⟨g9, 3, none⟩ = some (.int .i64 ep) := blk_cell B9.out 3
  have z9_4 : w16.cell? ⟨g9, 4, none⟩ = some (.int .i64 sq) := blk_cell B9.out 4
  have z9_5 : w16.cell? ⟨g9, 5, none⟩ = some (.slice Xx l.length cXx) := blk_cell B9.out 5
  go_wp2_with fail
  clear z9_0 z9_1 z9_2 z9_3 z9_4 z9_5
  refine (laws_markBatch.calls (fun k => True ∧ w6g.heap.size ≤ k ∧ k < w7.heap.size) p m pr ep sq _ _ l 1 w _ HW.out Sx.out (by omega) (by have := FL.out.k; omega) (by have := FL.out.n; omega)).mono ?_
  rintro e w17 ⟨rfl, hs, hb, hk⟩
  replace B2 := Aside0.mk (blk_keep B2.out hk (fun h1 => by have d1 := D1.out; have d2 := D2.out; have d3 := D3.out; have d4 := D4.out; have d5 := D5.out; have d6 := D6.out; have d7 := D7.out; have d8 := D8.out; have d9 := D9.out; have d10 := D10.out; have d11 := D11.out; have d12 := D12.out; have d13 := D13.out; have d14 := D14.out; have d15 := D15.out; have d16 := D16.out; have d17 := D17.out; have d18 := D18.out; have d19 := D19.out; have d20 := D20.out; have d21 := D21.out; have d22 := D22.out; have d23 := D23.out; have d24 := D24.out; have d25 := D25.out; have e1 := h1.2.1; have e2 := h1.2.2; omega))
  replace B6 := Aside0.mk (blk_keep B6.out hk (fun h1 => by have d1 := D1.out; have d2 := D2.out; have d3 := D3.out; have d4 := D4.out; have d5 := D5.out; have d6 := D6.out; have d7 := D7.out; have d8 := D8.out; have d9 := D9.out; have d10 := D10.out; have d11 := D11.out; have d12 := D12.out; have d13 := D13.out; have d14 := D14.out; have d15 := D15.out; have d16 := D16.out; have d17 := D17.out; have d18 := D18.out; have d19 := D19.out; have d20 := D20.out; have d21 := D21.out; have d22 := D22.out; have d23 := D23.out; have d24 := D24.out; have d25 := D25.out; have e1 := h1.2.1; have e2 := h1.2.2; omega))
  replace B7 := Aside0.mk (blk_keep B7.out hk (fun h1 => by have d1 := D1.out; have d2 := D2.out; have d3 := D3.out; have d4 := D4.out; have d5 := D5.out; have d6 := D6.out; have d7 := D7.out; have d8 := D8.out; have d9 := D9.out; have d10 := D10.out; have d11 := D11.out; have d12 := D12.out; have d13 := D13.out; have d14 := D14.out; have d15 := D15.out; have d16 := D16.out; have d17 := D17.out; have d18 := D18.out; have d19 := D19.out; have d20 := D20.out; have d21 := D21.out; have d22 := D22.out; have d23 := D23.out; have d24 := D24.out; have d25 := D25.out; have e1 := h1.2.1; have e2 := h1.2.2; omega))
  replace B9 := Aside0.mk (blk_keep B9.out hk (fun h1 => by have d1 := D1.out; have d2 := D2.out; have d3 := D3.out; have d4 := D4.out; have d5 := D5.out; have d6 := D6.out; have d7 := D7.out; have d8 := D8.out; have d9 := D9.out; have d10 := D10.out; have d11 := D11.out; have d12 := D12.out; have d13 := D13.out; have d14 := D14.out; have d15 := D15.out; have d16 := D16.out; have d17 := D17.out; have d18 := D18.out; have d19 := D19.out; have d20 := D20.out; have d21 := D21.out; have d22 := D22.out; have d23 := D23.out; have d24 := D24.out; have d25 := D25.out; have e1 := h1.2.1; have e2 := h1.2.2; omega))
  replace B10 := Aside0.mk (blk_keep B10.out hk (fun h1 => by have d1 := D1.out; have d2 := D2.out; have d3 := D3.out; have d4 := D4.out; have d5 := D5.out; have d6 := D6.out; have d7 := D7.out; have d8 := D8.out; have d9 := D9.out; have d10 := D10.out; have d11 := D11.out; have d12 := D12.out; have d13 := D13.out; have d14 := D14.out; have d15 := D15.out; have d16 := D16.out; have d17 := D17.out; have d18 := D18.out; have d19 := D19.out; have d20 := D20.out; have d21 := D21.out; have d22 := D22.out; have d23 := D23.out; have d24 := D24.out; have d25 := D25.out; have e1 := h1.2.1; have e2 := h1.2.2; omega))
  replace B11 := Aside0.mk (blk_keep B11.out hk (fun h1 => by have d1 := D1.out; have d2 := D2.out; have d3 := D3.out; have d4 := D4.out; have d5 := D5.out; have d6 := D6.out; have d7 := D7.out; have d8 := D8.out; have d9 := D9.out; have d10 := D10.out; have d11 := D11.out; have d12 := D12.out; have d13 := D13.out; have d14 := D14.out; have d15 := D15.out; have d16 := D16.out; have d17 := D17.out; have d18 := D18.out; have d19 := D19.out; have d20 := D20.out; have d21 := D21.out; have d22 := D22.out; have d23 := D23.out; have d24 := D24.out; have d25 := D25.out; have e1 := h1.2.1; have e2 := h1.2.2; omega))
  replace Su := Aside0.mk (S_kept Su.out hk (fun k h1 h2 => by have d1 := D1.out; have d2 := D2.out; have d3 := D3.out; have d4 := D4.out; have d5 := D5.out; have d6 := D6.out; have d7 := D7.out; have d8 := D8.out; have d9 := D9.out; have d10 := D10.out; have d11 := D11.out; have d12 := D12.out; have d13 := D13.out; have d14 := D14.out; have d15 := D15.out; have d16 := D16.out; have d17 := D17.out; have d18 := D18.out; have d19 := D19.out; have d20 := D20.out; have d21 := D21.out; have d22 := D22.out; have d23 := D23.out; have d24 := D24.out; have d25 := D25.out; have e1 := h1.2.1; have e2 := h1.2.2; have e3 := h2.2.1; have e4 := h2.2.2; omega))
  replace Sv := Aside0.mk (S_kept Sv.out hk (fun k h1 h2 => by have d1 := D1.out; have d2 := D2.out; have d3 := D3.out; have d4 := D4.out; have d5 := D5.out; have d6 := D6.out; have d7 := D7.out; have d8 := D8.out; have d9 := D9.out; have d10 := D10.out; have d11 := D11.out; have d12 := D12.out; have d13 := D13.out; have d14 := D14.out; have d15 := D15.out; have d16 := D16.out; have d17 := D17.out; have d18 := D18.out; have d19 := D19.out; have d20 := D20.out; have d21 := D21.out; have d22 := D22.out; have d23 := D23.out; have d24 := D24.out; have d25 := D25.out; have e1 := h1.2.1; have e2 := h1.2.2; have e3 := h2.2.1; have e4 := h2.2.2; omega))
  replace Sg := Aside0.mk (S_kept Sg.out hk (fun k h1 h2 => by have d1 := D1.out; have d2 := D2.out; have d3 := D3.out; have d4 := D4.out; have d5 := D5.out; have d6 := D6.out; have d7 := D7.out; have d8 := D8.out; have d9 := D9.out; have d10 := D10.out; have d11 := D11.out; have d12 := D12.out; have d13 := D13.out; have d14 := D14.out; have d15 := D15.out; have d16 := D16.out; have d17 := D17.out; have d18 := D18.out; have d19 := D19.out; have d20 := D20.out; have d21 := D21.out; have d22 := D22.out; have d23 := D23.out; have d24 := D24.out; have d25 := D25.out; have e1 := h1.2.1; have e2 := h1.2.2; have e3 := h2.2.1; have e4 := h2.2.2; omega))
  replace Sh := Aside0.mk (S_kept Sh.out hk (fun k h1 h2 => by have d1 := D1.out; have d2 := D2.out; have d3 := D3.out; have d4 := D4.out; have d5 := D5.out; have d6 := D6.out; have d7 := D7.out; have d8 := D8.out; have d9 := D9.out; have d10 := D10.out; have d11 := D11.out; have d12 := D12.out; have d13 := D13.out; have d14 := D14.out; have d15 := D15.out; have d16 := D16.out; have d17 := D17.out; have d18 := D18.out; have d19 := D19.out; have d20 := D20.out; have d21 := D21.out; have d22 := D22.out; have d23 := D23.out; have d24 := D24.out; have d25 := D25.out; have e1 := h1.2.1; have e2 := h1.2.2; have e3 := h2.2.1; have e4 := h2.2.2; omega))
  have D26 := Aside0.mk (show w16.heap.size ≤ w17.heap.size from hk.1)
  replace HW := Aside0.mk hb
  clear hs hb hk Sx Lx
  obtain ⟨m0, hm0⟩ : ∃ q, q = nextR l 1 := ⟨_, rfl⟩
  rw [← hm0]
  have pm0 : decide (m0 < 0) = false := decide_eq_false (by rw [hm0, nextR_eq]; omega)
  clear hm0
  have z10_0 : w17.cell? ⟨g10, 0, none⟩ = some (.bool r1) := blk_cell B10.out 0
  have z10_1 : w17.cell? ⟨g10, 1, none⟩ = some (.bool r2) := blk_cell B10.out 1
  have z10_2 : w17.cell? ⟨g10, 2, none⟩ = some (.int .i64 r3) := blk_cell B10.out 2
  have z10_3 : w17.cell? ⟨g10, 3, none⟩ = some (.int .i64 r4) := blk_cell B10.out 3
  have z10_4 : w17.cell? ⟨g10, 4, none⟩ = some (.int .i64 r5) := blk_cell B10.out 4
  have z10_5 : w17.cell? ⟨g10, 5, none⟩ = some (.slice Xg r6.length cg) := blk_cell B10.out 5
  have z6_0 : w17.cell? ⟨g6, 0, none⟩ = some (.bool r1) := blk_cell B6.out 0
  have z6_1 : w17.cell? ⟨g6, 1, none⟩ = some (.bool r2) := blk_cell B6.out 1
  have z6_2 : w17.cell? ⟨g6, 2, none⟩ = some (.int .i64 r3) := blk_cell B6.out 2
  have z6_3 : w17.cell? ⟨g6, 3, none⟩ = some (.int .i64 r4) := blk_cell B6.out 3
  have z6_4 : w17.cell? ⟨g6, 4, none⟩ = some (.int .i64 r5) := blk_cell B6.out 4
  have z6_5 : w17.cell? ⟨g6, 5, none⟩ = some (.slice Xu r6.length cu) := blk_cell B6.out 5
  go_wp2_with fail
  clear z10_0 z10_1 z10_2 z10_3 z10_4 z10_5 z6_0 z6_1 z6_2 z6_3 z6_4 z6_5
  refine (laws_eqBatch.calls KK1 r1 r2 r3 r4 r5 _ _ r6 r1 r2 r3 r4 r5 _ _ r6 true _ (Kd.S_reads' Sg.out).2.2 Lg.out (Kd.S_reads' Su.out).2.2 Lu.out E0.out).mono ?_
  rintro e w18 ⟨rfl, hb⟩
  have D27 := Aside0.mk (show w17.heap.size ≤ w18.heap.size from hb.size)
  replace B2 := Aside0.mk (blk_below B2.out hb)
  replace B6 := Aside0.mk (blk_below B6.out hb)
  replace B7 := Aside0.mk (blk_below B7.out hb)
  replace B9 := Aside0.mk (blk_below B9.out hb)
  replace B10 := Aside0.mk (blk_below B10.out hb)
  replace B11 := Aside0.mk (blk_below B11.out hb)
  replace Su := Aside0.mk (Kd.S_below Su.out hb)
  replace Sv := Aside0.mk (Kd.S_below Sv.out hb)
  replace Sg := Aside0.mk (Kd.S_below Sg.out hb)
  replace Sh := Aside0.mk (Kd.S_below Sh.out hb)
  replace HW := Aside0.mk (below_step HW.out hb)
  clear hb
  have z11_0 : w18.cell? ⟨g11, 0, none⟩ = some (.bool r7) := blk_cell B11.out 0
  have z11_1 : w18.cell? ⟨g11, 1, none⟩ = some (.bool r8) := blk_cell B11.out 1
  have z11_2 : w18.cell? ⟨g11, 2, none⟩ = some (.int .i64 r9) := blk_cell B11.out 2
  have z11_3 : w18.cell? ⟨g11, 3, none⟩ = some (.int .i64 r10) := blk_cell B11.out 3
  have z11_4 : w18.cell? ⟨g11, 4, none⟩ = some (.int .i64 r11) := blk_cell B11.out 4
  have z11_5 : w18.cell? ⟨g11, 5, none⟩ = some (.slice Xh r12.length ch) := blk_cell B11.out 5
  have z7_0 : w18.cell? ⟨g7, 0, none⟩ = some (.bool r7) := blk_cell B7.out 0
  have z7_1 : w18.cell? ⟨g7, 1, none⟩ = some (.bool r8) := blk_cell B7.out 1
  have z7_2 : w18.cell? ⟨g7, 2, none⟩ = some (.int .i64 r9) := blk_cell B7.out 2
  have z7_3 : w18.cell? ⟨g7, 3, none⟩ = some (.int .i64 r10) := blk_cell B7.out 3
  have z7_4 : w18.cell? ⟨g7, 4, none⟩ = some (.int .i64 r11) := blk_cell B7.out 4
  have z7_5 : w18.cell? ⟨g7, 5, none⟩ = some (.slice Xv r12.length cv) := blk_cell B7.out 5
  go_wp2_with fail
  clear z11_0 z11_1 z11_2 z11_3 z11_4 z11_5 z7_0 z7_1 z7_2 z7_3 z7_4 z7_5
  refine (laws_eqBatch.calls KK1 r7 r8 r9 r10 r11 _ _ r12 r7 r8 r9 r10 r11 _ _ r12 true _ (Kd.S_reads' Sh.out).2.2 Lh.out (Kd.S_reads' Sv.out).2.2 Lv.out E1.out).mono ?_
  rintro e w19 ⟨rfl, hb⟩
  have D28 := Aside0.mk (show w18.heap.size ≤ w19.heap.size from hb.size)
  replace B2 := Aside0.mk (blk_below B2.out hb)
  replace B6 := Aside0.mk (blk_below B6.out hb)
  replace B7 := Aside0.mk (blk_below B7.out hb)
  replace B9 := Aside0.mk (blk_below B9.out hb)
  replace B10 := Aside0.mk (blk_below B10.out hb)
  replace B11 := Aside0.mk (blk_below B11.out hb)
  replace Su := Aside0.mk (Kd.S_below Su.out hb)
  replace Sv := Aside0.mk (Kd.S_below Sv.out hb)
  replace Sg := Aside0.mk (Kd.S_below Sg.out hb)
  replace Sh := Aside0.mk (Kd.S_below Sh.out hb)
  replace HW := Aside0.mk (below_step HW.out hb)
  clear hb
  have z10_0 : w19.cell? ⟨g10, 0, none⟩ = some (.bool r1) := blk_cell B10.out 0
  have z10_1 : w19.cell? ⟨g10, 1, none⟩ = some (.bool r2) := blk_cell B10.out 1
  have z10_2 : w19.cell? ⟨g10, 2, none⟩ = some (.int .i64 r3) := blk_cell B10.out 2
  have z10_3 : w19.cell? ⟨g10, 3, none⟩ = some (.int .i64 r4) := blk_cell B10.out 3
  have z10_4 : w19.cell? ⟨g10, 4, none⟩ = some (.int .i64 r5) := blk_cell B10.out 4
  have z10_5 : w19.cell? ⟨g10, 5, none⟩ = some (.slice Xg r6.length cg) := blk_cell B10.out 5
  go_wp2_with fail
  clear z10_0 z10_1 z10_2 z10_3 z10_4 z10_5
  refine (laws_markBatch.calls (fun k => P k ∧ w8g.heap.size ≤ k ∧ k < w9.heap.size) r1 r2 r3 r4 r5 _ _ r6 1 w _ HW.out Sg.out (by omega) (by have := F6.out.k; omega) (by have := F6.out.n; omega)).mono ?_
  rintro e w20 ⟨rfl, hs, hb, hk⟩
  replace B2 := Aside0.mk (blk_keep B2.out hk (fun h1 => by have d1 := D1.out; have d2 := D2.out; have d3 := D3.out; have d4 := D4.out; have d5 := D5.out; have d6 := D6.out; have d7 := D7.out; have d8 := D8.out; have d9 := D9.out; have d10 := D10.out; have d11 := D11.out; have d12 := D12.out; have d13 := D13.out; have d14 := D14.out; have d15 := D15.out; have d16 := D16.out; have d17 := D17.out; have d18 := D18.out; have d19 := D19.out; have d20 := D20.out; have d21 := D21.out; have d22 := D22.out; have d23 := D23.out; have d24 := D24.out; have d25 := D25.out; have d26 := D26.out; have d27 := D27.out; have d28 := D28.out; have e1 := h1.2.1; have e2 := h1.2.2; omega))
  replace B6 := Aside0.mk (blk_keep B6.out hk (fun h1 => by have d1 := D1.out; have d2 := D2.out; have d3 := D3.out; have d4 := D4.out; have d5 := D5.out; have d6 := D6.out; have d7 := D7.out; have d8 := D8.out; have d9 := D9.out; have d10 := D10.out; have d11 := D11.out; have d12 := D12.out; have d13 := D13.out; have d14 := D14.out; have d15 := D15.out; have d16 := D16.out; have d17 := D17.out; have d18 := D18.out; have d19 := D19.out; have d20 := D20.out; have d21 := D21.out; have d22 := D22.out; have d23 := D23.out; have d24 := D24.out; have d25 := D25.out; have d26 := D26.out; have d27 := D27.out; have d28 := D28.out; have e1 := h1.2.1; have e2 := h1.2.2; omega))
  replace B7 := Aside0.mk (blk_keep B7.out hk (fun h1 => by have d1 := D1.out; have d2 := D2.out; have d3 := D3.out; have d4 := D4.out; have d5 := D5.out; have d6 := D6.out; have d7 := D7.out; have d8 := D8.out; have d9 := D9.out; have d10 := D10.out; have d11 := D11.out; have d12 := D12.out; have d13 := D13.out; have d14 := D14.out; have d15 := D15.out; have d16 := D16.out; have d17 := D17.out; have d18 := D18.out; have d19 := D19.out; have d20 := D20.out; have d21 := D21.out; have d22 := D22.out; have d23 := D23.out; have d24 := D24.out; have d25 := D25.out; have d26 := D26.out; have d27 := D27.out; have d28 := D28.out; have e1 := h1.2.1; have e2 := h1.2.2; omega))
  replace B9 := Aside0.mk (blk_keep B9.out hk (fun h1 => by have d1 := D1.out; have d2 := D2.out; have d3 := D3.out; have d4 := D4.out; have d5 := D5.out; have d6 := D6.out; have d7 := D7.out; have d8 := D8.out; have d9 := D9.out; have d10 := D10.out; have d11 := D11.out; have d12 := D12.out; have d13 := D13.out; have d14 := D14.out; have d15 := D15.out; have d16 := D16.out; have d17 := D17.out; have d18 := D18.out; have d19 := D19.out; have d20 := D20.out; have d21 := D21.out; have d22 := D22.out; have d23 := D23.out; have d24 := D24.out; have d25 := D25.out; have d26 := D26.out; have d27 := D27.out; have d28 := D28.out; have e1 := h1.2.1; have e2 := h1.2.2; omega))
  replace B10 := Aside0.mk (blk_keep B10.out hk (fun h1 => by have d1 := D1.out; have d2 := D2.out; have d3 := D3.out; have d4 := D4.out; have d5 := D5.out; have d6 := D6.out; have d7 := D7.out; have d8 := D8.out; have d9 := D9.out; have d10 := D10.out; have d11 := D11.out; have d12 := D12.out; have d13 := D13.out; have d14 := D14.out; have d15 := D15.out; have d16 := D16.out; have d17 := D17.out; have d18 := D18.out; have d19 := D19.out; have d20 := D20.out; have d21 := D21.out; have d22 := D22.out; have d23 := D23.out; have d24 := D24.out; have d25 := D25.out; have d26 := D26.out; have d27 := D27.out; have d28 := D28.out; have e1 := h1.2.1; have e2 := h1.2.2; omega))
  replace B11 := Aside0.mk (blk_keep B11.out hk (fun h1 => by have d1 := D1.out; have d2 := D2.out; have d3 := D3.out; have d4 := D4.out; have d5 := D5.out; have d6 := D6.out; have d7 := D7.out; have d8 := D8.out; have d9 := D9.out; have d10 := D10.out; have d11 := D11.out; have d12 := D12.out; have d13 := D13.out; have d14 := D14.out; have d15 := D15.out; have d16 := D16.out; have d17 := D17.out; have d18 := D18.out; have d19 := D19.out; have d20 := D20.out; have d21 := D21.out; have d22 := D22.out; have d23 := D23.out; have d24 := D24.out; have d25 := D25.out; have d26 := D26.out; have d27 := D27.out; have d28 := D28.out; have e1 := h1.2.1; have e2 := h1.2.2; omega))
  replace Su := Aside0.mk (S_kept Su.out hk (fun k h1 h2 => by have d1 := D1.out; have d2 := D2.out; have d3 := D3.out; have d4 := D4.out; have d5 := D5.out; have d6 := D6.out; have d7 := D7.out; have d8 := D8.out; have d9 := D9.out; have d10 := D10.out; have d11 := D11.out; have d12 := D12.out; have d13 := D13.out; have d14 := D14.out; have d15 := D15.out; have d16 := D16.out; have d17 := D17.out; have d18 := D18.out; have d19 := D19.out; have d20 := D20.out; have d21 := D21.out; have d22 := D22.out; have d23 := D23.out; have d24 := D24.out; have d25 := D25.out; have d26 := D26.out; have d27 := D27.out; have d28 := D28.out; have e1 := h1.2.1; have e2 := h1.2.2; have e3 := h2.2.1; have e4 := h2.2.2; omega))
  replace Sv := Aside0.mk (S_kept Sv.out hk (fun k h1 h2 => by have d1 := D1.out; have d2 := D2.out; have d3 := D3.out; have d4 := D4.out; have d5 := D5.out; have d6 := D6.out; have d7 := D7.out; have d8 := D8.out; have d9 := D9.out; have d10 := D10.out; have d11 := D11.out; have d12 := D12.out; have d13 := D13.out; have d14 := D14.out; have d15 := D15.out; have d16 := D16.out; have d17 := D17.out; have d18 := D18.out; have d19 := D19.out; have d20 := D20.out; have d21 := D21.out; have d22 := D22.out; have d23 := D23.out; have d24 := D24.out; have d25 := D25.out; have d26 := D26.out; have d27 := D27.out; have d28 := D28.out; have e1 := h1.2.1; have e2 := h1.2.2; have e3 := h2.2.1; have e4 := h2.2.2; omega))
  replace Sh := Aside0.mk (S_kept Sh.out hk (fun k h1 h2 => h1.1 h2.1))
  have D29 := Aside0.mk (show w19.heap.size ≤ w20.heap.size from hk.1)
  replace HW := Aside0.mk hb
  replace Sg := Aside0.mk (Kd.S_mono (Kd.S_bound hs) (fun k hk => (⟨hk.1, hk.2.2.1⟩ : (_ ∨ _) ∧ k < w20.heap.size)))
  clear hs hb hk
  obtain ⟨m1, hm1⟩ : ∃ q, q = nextR r6 1 := ⟨_, rfl⟩
  rw [← hm1]
  rw [← hm1] at T0 T1
  have pm1 : decide (m1 < 0) = false := decide_eq_false (by rw [hm1, nextR_eq]; omega)
  have PM1 := Aside0.mk (show 0 ≤ m1 ∧ m1 ≤ 5242882 by have := F6.out.k; rw [hm1, nextR_eq]; omega)
  clear hm1
  have z11_0 : w20.cell? ⟨g11, 0, none⟩ = some (.bool r7) := blk_cell B11.out 0
  have z11_1 : w20.cell? ⟨g11, 1, none⟩ = some (.bool r8) := blk_cell B11.out 1
  have z11_2 : w20.cell? ⟨g11, 2, none⟩ = some (.int .i64 r9) := blk_cell B11.out 2
  have z11_3 : w20.cell? ⟨g11, 3, none⟩ = some (.int .i64 r10) := blk_cell B11.out 3
  have z11_4 : w20.cell? ⟨g11, 4, none⟩ = some (.int .i64 r11) := blk_cell B11.out 4
  have z11_5 : w20.cell? ⟨g11, 5, none⟩ = some (.slice Xh r12.length ch) := blk_cell B11.out 5
  go_wp2_with fail
  clear z11_0 z11_1 z11_2 z11_3 z11_4 z11_5
  refine (laws_markBatch.calls (fun k => ¬ P k ∧ w8g.heap.size ≤ k ∧ k < w9.heap.size) r7 r8 r9 r10 r11 _ _ r12 m1 w _ HW.out Sh.out PM1.out.1 (by have := F12.out.k; have := PM1.out.2; omega) (by have := F12.out.n; omega)).mono ?_
  rintro e w21 ⟨rfl, hs, hb, hk⟩
  replace B2 := Aside0.mk (blk_keep B2.out hk (fun h1 => by have d1 := D1.out; have d2 := D2.out; have d3 := D3.out; have d4 := D4.out; have d5 := D5.out; have d6 := D6.out; have d7 := D7.out; have d8 := D8.out; have d9 := D9.out; have d10 := D10.out; have d11 := D11.out; have d12 := D12.out; have d13 := D13.out; have d14 := D14.out; have d15 := D15.out; have d16 := D16.out; have d17 := D17.out; have d18 := D18.out; have d19 := D19.out; have d20 := D20.out; have d21 := D21.out; have d22 := D22.out; have d23 := D23.out; have d24 := D24.out; have d25 := D25.out; have d26 := D26.out; have d27 := D27.out; have d28 := D28.out; have d29 := D29.out; have e1 := h1.2.1; have e2 := h1.2.2; omega))
  replace B6 := Aside0.mk (blk_keep B6.out hk (fun h1 => by have d1 := D1.out; have d2 := D2.out; have d3 := D3.out; have d4 := D4.out; have d5 := D5.out; have d6 := D6.out; have d7 := D7.out; have d8 := D8.out; have d9 := D9.out; have d10 := D10.out; have d11 := D11.out; have d12 := D12.out; have d13 := D13.out; have d14 := D14.out; have d15 := D15.out; have d16 := D16.out; have d17 := D17.out; have d18 := D18.out; have d19 := D19.out; have d20 := D20.out; have d21 := D21.out; have d22 := D22.out; have d23 := D23.out; have d24 := D24.out; have d25 := D25.out; have d26 := D26.out; have d27 := D27.out; have d28 := D28.out; have d29 := D29.out; have e1 := h1.2.1; have e2 := h1.2.2; omega))
  replace B7 := Aside0.mk (blk_keep B7.out hk (fun h1 => by have d1 := D1.out; have d2 := D2.out; have d3 := D3.out; have d4 := D4.out; have d5 := D5.out; have d6 := D6.out; have d7 := D7.out; have d8 := D8.out; have d9 := D9.out; have d10 := D10.out; have d11 := D11.out; have d12 := D12.out; have d13 := D13.out; have d14 := D14.out; have d15 := D15.out; have d16 := D16.out; have d17 := D17.out; have d18 := D18.out; have d19 := D19.out; have d20 := D20.out; have d21 := D21.out; have d22 := D22.out; have d23 := D23.out; have d24 := D24.out; have d25 := D25.out; have d26 := D26.out; have d27 := D27.out; have d28 := D28.out; have d29 := D29.out; have e1 := h1.2.1; have e2 := h1.2.2; omega))
  replace B9 := Aside0.mk (blk_keep B9.out hk (fun h1 => by have d1 := D1.out; have d2 := D2.out; have d3 := D3.out; have d4 := D4.out; have d5 := D5.out; have d6 := D6.out; have d7 := D7.out; have d8 := D8.out; have d9 := D9.out; have d10 := D10.out; have d11 := D11.out; have d12 := D12.out; have d13 := D13.out; have d14 := D14.out; have d15 := D15.out; have d16 := D16.out; have d17 := D17.out; have d18 := D18.out; have d19 := D19.out; have d20 := D20.out; have d21 := D21.out; have d22 := D22.out; have d23 := D23.out; have d24 := D24.out; have d25 := D25.out; have d26 := D26.out; have d27 := D27.out; have d28 := D28.out; have d29 := D29.out; have e1 := h1.2.1; have e2 := h1.2.2; omega))
  replace B10 := Aside0.mk (blk_keep B10.out hk (fun h1 => by have d1 := D1.out; have d2 := D2.out; have d3 := D3.out; have d4 := D4.out; have d5 := D5.out; have d6 := D6.out; have d7 := D7.out; have d8 := D8.out; have d9 := D9.out; have d10 := D10.out; have d11 := D11.out; have d12 := D12.out; have d13 := D13.out; have d14 := D14.out; have d15 := D15.out; have d16 := D16.out; have d17 := D17.out; have d18 := D18.out; have d19 := D19.out; have d20 := D20.out; have d21 := D21.out; have d22 := D22.out; have d23 := D23.out; have d24 := D24.out; have d25 := D25.out; have d26 := D26.out; have d27 := D27.out; have d28 := D28.out; have d29 := D29.out; have e1 := h1.2.1; have e2 := h1.2.2; omega))
  replace B11 := Aside0.mk (blk_keep B11.out hk (fun h1 => by have d1 := D1.out; have d2 := D2.out; have d3 := D3.out; have d4 := D4.out; have d5 := D5.out; have d6 := D6.out; have d7 := D7.out; have d8 := D8.out; have d9 := D9.out; have d10 := D10.out; have d11 := D11.out; have d12 := D12.out; have d13 := D13.out; have d14 := D14.out; have d15 := D15.out; have d16 := D16.out; have d17 := D17.out; have d18 := D18.out; have d19 := D19.out; have d20 := D20.out; have d21 := D21.out; have d22 := D22.out; have d23 := D23.out; have d24 := D24.out; have d25 := D25.out; have d26 := D26.out; have d27 := D27.out; have d28 := D28.out; have d29 := D29.out; have e1 := h1.2.1; have e2 := h1.2.2; omega))
  replace Su := Aside0.mk (S_kept Su.out hk (fun k h1 h2 => by have d1 := D1.out; have d2 := D2.out; have d3 := D3.out; have d4 := D4.out; have d5 := D5.out; have d6 := D6.out; have d7 := D7.out; have d8 := D8.out; have d9 := D9.out; have d10 := D10.out; have d11 := D11.out; have d12 := D12.out; have d13 := D13.out; have d14 := D14.out; have d15 := D15.out; have d16 := D16.out; have d17 := D17.out; have d18 := D18.out; have d19 := D19.out; have d20 := D20.out; have d21 := D21.out; have d22 := D22.out; have d23 := D23.out; have d24 := D24.out; have d25 := D25.out; have d26 := D26.out; have d27 := D27.out; have d28 := D28.out; have d29 := D29.out; have e1 := h1.2.1; have e2 := h1.2.2; have e3 := h2.2.1; have e4 := h2.2.2; omega))
  replace Sv := Aside0.mk (S_kept Sv.out hk (fun k h1 h2 => by have d1 := D1.out; have d2 := D2.out; have d3 := D3.out; have d4 := D4.out; have d5 := D5.out; have d6 := D6.out; have d7 := D7.out; have d8 := D8.out; have d9 := D9.out; have d10 := D10.out; have d11 := D11.out; have d12 := D12.out; have d13 := D13.out; have d14 := D14.out; have d15 := D15.out; have d16 := D16.out; have d17 := D17.out; have d18 := D18.out; have d19 := D19.out; have d20 := D20.out; have d21 := D21.out; have d22 := D22.out; have d23 := D23.out; have d24 := D24.out; have d25 := D25.out; have d26 := D26.out; have d27 := D27.out; have d28 := D28.out; have d29 := D29.out; have e1 := h1.2.1; have e2 := h1.2.2; have e3 := h2.2.1; have e4 := h2.2.2; omega))
  replace Sg := Aside0.mk (S_kept Sg.out hk (fun k h1 h2 => h1.1.elim (fun h3 => h2.1 h3.1) (fun h3 => by have d1 := D1.out; have d2 := D2.out; have d3 := D3.out; have d4 := D4.out; have d5 := D5.out; have d6 := D6.out; have d7 := D7.out; have d8 := D8.out; have d9 := D9.out; have d10 := D10.out; have d11 := D11.out; have d12 := D12.out; have d13 := D13.out; have d14 := D14.out; have d15 := D15.out; have d16 := D16.out; have d17 := D17.out; have d18 := D18.out; have d19 := D19.out; have d20 := D20.out; have d21 := D21.out; have d22 := D22.out; have d23 := D23.out; have d24 := D24.out; have d25 := D25.out; have d26 := D26.out; have d27 := D27.out; have d28 := D28.out; have d29 := D29.out; have e3 := h2.2.1; have e4 := h2.2.2; omega)))
  have D30 := Aside0.mk (show w20.heap.size ≤ w21.heap.size from hk.1)
  replace HW := Aside0.mk hb
  replace Sh := Aside0.mk hs
  clear hs hb hk
  have LG := Aside0.mk (markR_length r6 1)
  have LH := Aside0.mk (markR_length r12 m1)
  obtain ⟨m2, hm2⟩ : ∃ q, q = nextR r12 m1 := ⟨_, rfl⟩
  rw [← hm2]
  rw [← hm2] at T1
  have pm2 : decide (m2 < 0) = false := decide_eq_false (by have := PM1.out.1; rw [hm2, nextR_eq]; omega)
  clear hm2
  have Lg2 := Aside0.mk (by rw [LG.out]; exact Lg.out : (markR r6 1).length ≤ cg)
  have Lh2 := Aside0.mk (by rw [LH.out]; exact Lh.out : (markR r12 m1).length ≤ ch)
  have z10_0 : w21.cell? ⟨g10, 0, none⟩ = some (.bool r1) := blk_cell B10.out 0
  have z10_1 : w21.cell? ⟨g10, 1, none⟩ = some (.bool r2) := blk_cell B10.out 1
  have z10_2 : w21.cell? ⟨g10, 2, none⟩ = some (.int .i64 r3) := blk_cell B10.out 2
  have z10_3 : w21.cell? ⟨g10, 3, none⟩ = some (.int .i64 r4) := blk_cell B10.out 3
  have z10_4 : w21.cell? ⟨g10, 4, none⟩ = some (.int .i64 r5) := blk_cell B10.out 4
  have z10_5 : w21.cell? ⟨g10, 5, none⟩ = some (.slice Xg r6.length cg) := blk_cell B10.out 5
  go_wp2_with fail
  clear z10_0 z10_1 z10_2 z10_3 z10_4 z10_5
  have hrr := Kd.S_reads' Sg.out
  rw [show r6.length = (markR r6 1).length from hrr.1]
  refine (laws_heldBatch.calls KK1 r1 r2 r3 r4 r5 _ _ (markR r6 1) 1 m1 _ hrr.2.2 Lg2.out T0.out).mono ?_
  rintro e w22 ⟨rfl, hb⟩
  clear hrr
  have D31 := Aside0.mk (show w21.heap.size ≤ w22.heap.size from hb.size)
  replace B2 := Aside0.mk (blk_below B2.out hb)
  replace B6 := Aside0.mk (blk_below B6.out hb)
  replace B7 := Aside0.mk (blk_below B7.out hb)
  replace B9 := Aside0.mk (blk_below B9.out hb)
  replace B10 := Aside0.mk (blk_below B10.out hb)
  replace B11 := Aside0.mk (blk_below B11.out hb)
  replace Su := Aside0.mk (Kd.S_below Su.out hb)
  replace Sv := Aside0.mk (Kd.S_below Sv.out hb)
  replace Sg := Aside0.mk (Kd.S_below Sg.out hb)
  replace Sh := Aside0.mk (Kd.S_below Sh.out hb)
  replace HW := Aside0.mk (below_step HW.out hb)
  clear hb
  have z11_0 : w22.cell? ⟨g11, 0, none⟩ = some (.bool r7) := blk_cell B11.out 0
  have z11_1 : w22.cell? ⟨g11, 1, none⟩ = some (.bool r8) := blk_cell B11.out 1
  have z11_2 : w22.cell? ⟨g11, 2, none⟩ = some (.int .i64 r9) := blk_cell B11.out 2
  have z11_3 : w22.cell? ⟨g11, 3, none⟩ = some (.int .i64 r10) := blk_cell B11.out 3
  have z11_4 : w22.cell? ⟨g11, 4, none⟩ = some (.int .i64 r11) := blk_cell B11.out 4
  have z11_5 : w22.cell? ⟨g11, 5, none⟩ = some (.slice Xh r12.length ch) := blk_cell B11.out 5
  go_wp2_with fail
  clear z11_0 z11_1 z11_2 z11_3 z11_4 z11_5
  have hrr := Kd.S_reads' Sh.out
  rw [show r12.length = (markR r12 m1).length from hrr.1]
  refine (laws_heldBatch.calls KK1 r7 r8 r9 r10 r11 _ _ (markR r12 m1) m1 m2 _ hrr.2.2 Lh2.out T1.out).mono ?_
  rintro e w23 ⟨rfl, hb⟩
  clear hrr
  have D32 := Aside0.mk (show w22.heap.size ≤ w23.heap.size from hb.size)
  replace B2 := Aside0.mk (blk_below B2.out hb)
  replace B6 := Aside0.mk (blk_below B6.out hb)
  replace B7 := Aside0.mk (blk_below B7.out hb)
  replace B9 := Aside0.mk (blk_below B9.out hb)
  replace B10 := Aside0.mk (blk_below B10.out hb)
  replace B11 := Aside0.mk (blk_below B11.out hb)
  replace Su := Aside0.mk (Kd.S_below Su.out hb)
  replace Sv := Aside0.mk (Kd.S_below Sv.out hb)
  replace Sg := Aside0.mk (Kd.S_below Sg.out hb)
  replace Sh := Aside0.mk (Kd.S_below Sh.out hb)
  replace HW := Aside0.mk (below_step HW.out hb)
  clear hb
  have z2_0 : w23.cell? ⟨g2, 0, none⟩ = some (.bool p) := blk_cell B2.out 0
  have z2_1 : w23.cell? ⟨g2, 1, none⟩ = some (.bool m) := blk_cell B2.out 1
  have z2_2 : w23.cell? ⟨g2, 2, none⟩ = some (.int .i64 pr) := blk_cell B2.out 2
  have z2_3 : w23.cell? ⟨g2, 3, none⟩ = some (.int .i64 ep) := blk_cell B2.out 3
  have z2_4 : w23.cell? ⟨g2, 4, none⟩ = some (.int .i64 sq) := blk_cell B2.out 4
  have z2_5 : w23.cell? ⟨g2, 5, none⟩ = some (.slice A aB.length c) := blk_cell B2.out 5
  go_wp2_with fail
  clear z2_0 z2_1 z2_2 z2_3 z2_4 z2_5
  refine (laws_toBatch.calls KK1 p m pr ep sq A c aB p m pr ep sq l _ (Kd.C_below HA.out HW.out) HC0.out TA.out).mono ?_
  rintro e w24 ⟨vz, rfl, hs, hb⟩
  obtain ⟨Xz, cXz, hv, hl_, hc_⟩ := Kd.S_reads hs
  subst hv
  have Lz := Aside0.mk hl_
  clear hl_ hc_
  have Sz := Aside0.mk (S_iv2 hs HW.out.size)
  clear hs
  have D33 := Aside0.mk (show w23.heap.size ≤ w24.heap.size from hb.size)
  replace B2 := Aside0.mk (blk_below B2.out hb)
  replace B6 := Aside0.mk (blk_below B6.out hb)
  replace B7 := Aside0.mk (blk_below B7.out hb)
  replace B9 := Aside0.mk (blk_below B9.out hb)
  replace B10 := Aside0.mk (blk_below B10.out hb)
  replace B11 := Aside0.mk (blk_below B11.out hb)
  replace Su := Aside0.mk (Kd.S_below Su.out hb)
  replace Sv := Aside0.mk (Kd.S_below Sv.out hb)
  replace Sg := Aside0.mk (Kd.S_below Sg.out hb)
  replace Sh := Aside0.mk (Kd.S_below Sh.out hb)
  replace HW := Aside0.mk (below_step HW.out hb)
  clear hb
  go_wp2_with fail
  refine (impl_BatchCut.calls KK1 p m pr ep sq _ _ l off v pe _ (Kd.S_reads' Sz.out).2.2 Lz.out HV.out (pw_cell_below HW.out HG.out) HV6.out HP.out r1 r2 r3 r4 r5 r6 r7 r8 r9 r10 r11 r12 r13 HR.out).mono ?_
  rintro e w25 ⟨P2, va, vb, rfl, ht, hb⟩
  have hs5 := ht.a
  have hs11 := ht.b
  clear ht
  obtain ⟨Xa, ca, hv, hl_, hc_⟩ := Kd.S_reads hs5
  subst hv
  have La := Aside0.mk hl_
  clear hl_ hc_
  obtain ⟨Xb, cb, hv, hl_, hc_⟩ := Kd.S_reads hs11
  subst hv
  have Lb := Aside0.mk hl_
  clear hl_ hc_
  have Sa := Aside0.mk (S_iv2 hs5 HW.out.size)
  have Sb := Aside0.mk (S_iv2 hs11 HW.out.size)
  clear hs5 hs11
  have D34 := Aside0.mk (show w24.heap.size ≤ w25.heap.size from hb.size)
  replace B2 := Aside0.mk (blk_below B2.out hb)
  replace B6 := Aside0.mk (blk_below B6.out hb)
  replace B7 := Aside0.mk (blk_below B7.out hb)
  replace B9 := Aside0.mk (blk_below B9.out hb)
  replace B10 := Aside0.mk (blk_below B10.out hb)
  replace B11 := Aside0.mk (blk_below B11.out hb)
  replace Su := Aside0.mk (Kd.S_below Su.out hb)
  replace Sv := Aside0.mk (Kd.S_below Sv.out hb)
  replace Sg := Aside0.mk (Kd.S_below Sg.out hb)
  replace Sh := Aside0.mk (Kd.S_below Sh.out hb)
  replace Sz := Aside0.mk (Kd.S_below Sz.out hb)
  replace HW := Aside0.mk (below_step HW.out hb)
  clear hb
  clear Sz Lz
  go_wp2_with (first | ((with_reducible refine gate_dst (N := 16) rfl ?_); (try (refine gate_guard (by rfl) ?_; dsimp only)); refine box_event ?hg (N := 16) ?hd (cs := #[.bool false, .bool false, .int .i64 0, .int .i64 0, .int .i64 0, .slice none 0 0]) (t := 28) ?hr ?_; (case hd => rfl); (case hg => rfl); (case hr => first | (go_simp; done) | (go_simp; rfl)); intro g16 hg w26 hbox hb; have X16 := Aside0.mk hb; have Y16 := Aside0.mk hbox; have G16 := Aside0.mk (Nat.le_of_eq hg.symm : w25.heap.size ≤ g16); clear hb hbox hg) | ((with_reducible refine gate_dst (N := 17) rfl ?_); (try (refine gate_guard (by rfl) ?_; dsimp only)); refine box_event ?hg (N := 17) ?hd (cs := #[.bool false, .bool false, .int .i64 0, .int .i64 0, .int .i64 0, .slice none 0 0]) (t := 28) ?hr ?_; (case hd => rfl); (case hg => rfl); (case hr => first | (go_simp; done) | (go_simp; rfl)); intro g17 hg w27 hbox hb; have X17 := Aside0.mk hb; have Y17 := Aside0.mk hbox; have G17 := Aside0.mk (Nat.le_of_eq hg.symm : w26.heap.size ≤ g17); have N1617 := Aside0.mk (by rw [hg]; exact Nat.ne_of_lt (blk_lt Y16.out) : g16 ≠ g17); clear hb hbox hg; have Z16 := Aside0.mk (blk_below Y16.out X17.out); have k1 := N1617.out; have k2 := Ne.symm N1617.out; have XX := Aside0.mk (below_step X16.out X17.out); have zg16_0 : w27.cell? ⟨g16, 0, none⟩ = some (.bool false) := blk_cell Z16.out 0; have zg16_1 : w27.cell? ⟨g16, 1, none⟩ = some (.bool false) := blk_cell Z16.out 1; have zg16_2 : w27.cell? ⟨g16, 2, none⟩ = some (.int .i64 0) := blk_cell Z16.out 2; have zg16_3 : w27.cell? ⟨g16, 3, none⟩ = some (.int .i64 0) := blk_cell Z16.out 3; have zg16_4 : w27.cell? ⟨g16, 4, none⟩ = some (.int .i64 0) := blk_cell Z16.out 4; have zg16_5 : w27.cell? ⟨g16, 5, none⟩ = some (.slice none 0 0) := blk_cell Z16.out 5; have fzg16_0 : w27.frozen? ⟨g16, 0, none⟩ = false := blk_frozen Z16.out 0; have fzg16_1 : w27.frozen? ⟨g16, 1, none⟩ = false := blk_frozen Z16.out 1; have fzg16_2 : w27.frozen? ⟨g16, 2, none⟩ = false := blk_frozen Z16.out 2; have fzg16_3 : w27.frozen? ⟨g16, 3, none⟩ = false := blk_frozen Z16.out 3; have fzg16_4 : w27.frozen? ⟨g16, 4, none⟩ = false := blk_frozen Z16.out 4; have fzg16_5 : w27.frozen? ⟨g16, 5, none⟩ = false := blk_frozen Z16.out 5; have zg17_0 : w27.cell? ⟨g17, 0, none⟩ = some (.bool false) := blk_cell Y17.out 0; have zg17_1 : w27.cell? ⟨g17, 1, none⟩ = some (.bool false) := blk_cell Y17.out 1; have zg17_2 : w27.cell? ⟨g17, 2, none⟩ = some (.int .i64 0) := blk_cell Y17.out 2; have zg17_3 : w27.cell? ⟨g17, 3, none⟩ = some (.int .i64 0) := blk_cell Y17.out 3; have zg17_4 : w27.cell? ⟨g17, 4, none⟩ = some (.int .i64 0) := blk_cell Y17.out 4; have zg17_5 : w27.cell? ⟨g17, 5, none⟩ = some (.slice none 0 0) := blk_cell Y17.out 5; have fzg17_0 : w27.frozen? ⟨g17, 0, none⟩ = false := blk_frozen Y17.out 0; have fzg17_1 : w27.frozen? ⟨g17, 1, none⟩ = false := blk_frozen Y17.out 1; have fzg17_2 : w27.frozen? ⟨g17, 2, none⟩ = false := blk_frozen Y17.out 2; have fzg17_3 : w27.frozen? ⟨g17, 3, none⟩ = false := blk_frozen Y17.out 3; have fzg17_4 : w27.frozen? ⟨g17, 4, none⟩ = false := blk_frozen Y17.out 4; have fzg17_5 : w27.frozen? ⟨g17, 5, none⟩ = false := blk_frozen Y17.out 5; have O6 := Aside0.mk (blk_below B6.out XX.out); have z6_0 : w27.cell? ⟨g6, 0, none⟩ = some (.bool r1) := blk_cell O6.out 0; have z6_1 : w27.cell? ⟨g6, 1, none⟩ = some (.bool r2) := blk_cell O6.out 1; have z6_2 : w27.cell? ⟨g6, 2, none⟩ = some (.int .i64 r3) := blk_cell O6.out 2; have z6_3 : w27.cell? ⟨g6, 3, none⟩ = some (.int .i64 r4) := blk_cell O6.out 3; have z6_4 : w27.cell? ⟨g6, 4, none⟩ = some (.int .i64 r5) := blk_cell O6.out 4; have z6_5 : w27.cell? ⟨g6, 5, none⟩ = some (.slice Xu r6.length cu) := blk_cell O6.out 5; have k616 : g6 ≠ g16 := (by have h1 := blk_lt B6.out; have h2 := G16.out; exact Nat.ne_of_lt (by omega)); have l616 := Ne.symm k616; have k617 : g6 ≠ g17 := (by have h1 := blk_lt B6.out; have h2 := G17.out; have h3 := X16.out.size; exact Nat.ne_of_lt (by omega)); have l617 := Ne.symm k617))
  clear zg16_0 fzg16_0 zg16_1 fzg16_1 zg16_2 fzg16_2 zg16_3 fzg16_3 zg16_4 fzg16_4 zg16_5 fzg16_5 zg17_0 fzg17_0 zg17_1 fzg17_1 zg17_2 fzg17_2 zg17_3 fzg17_3 zg17_4 fzg17_4 zg17_5 fzg17_5 z6_0 z6_1 z6_2 z6_3 z6_4 z6_5 k616 l616 k617 l617 k1 k2 O6
  have GG17 := Aside0.mk (show w25.heap.size ≤ g17 from Nat.le_trans X16.out.size G17.out)
  have FB := Aside0.mk (set6_below (set6_below XX.out G16.out (.bool r1) (.bool r2) (.int .i64 r3) (.int .i64 r4) (.int .i64 r5) (.slice Xa r6.length ca)) GG17.out (.bool r7) (.bool r8) (.int .i64 r9) (.int .i64 r10) (.int .i64 r11) (.slice Xb r12.length cb))
  have F16 := Aside0.mk ((set6_heap (set6 w27 g16 (.bool r1) (.bool r2) (.int .i64 r3) (.int .i64 r4) (.int .i64 r5) (.slice Xa r6.length ca)) g17 (.bool r7) (.bool r8) (.int .i64 r9) (.int .i64 r10) (.int .i64 r11) (.slice Xb r12.length cb) N1617.out).trans (set6_blk Z16.out (.bool r1) (.bool r2) (.int .i64 r3) (.int .i64 r4) (.int .i64 r5) (.slice Xa r6.length ca)))
  have F17 := Aside0.mk (set6_blk ((set6_heap w27 g16 (.bool r1) (.bool r2) (.int .i64 r3) (.int .i64 r4) (.int .i64 r5) (.slice Xa r6.length ca) (Ne.symm N1617.out)).trans Y17.out) (.bool r7) (.bool r8) (.int .i64 r9) (.int .i64 r10) (.int .i64 r11) (.slice Xb r12.length cb))
  unfold set6 at FB F16 F17
  generalize ((((((((((((w27.setCell ⟨g16, 0, none⟩ (.bool r1)).setCell ⟨g16, 1, none⟩ (.bool r2)).setCell ⟨g16, 2, none⟩ (.int .i64 r3)).setCell ⟨g16, 3, none⟩ (.int .i64 r4)).setCell ⟨g16, 4, none⟩ (.int .i64 r5)).setCell ⟨g16, 5, none⟩ (.slice Xa r6.length ca)).setCell ⟨g17, 0, none⟩ (.bool r7)).setCell ⟨g17, 1, none⟩ (.bool r8)).setCell ⟨g17, 2, none⟩ (.int .i64 r9)).setCell ⟨g17, 3, none⟩ (.int .i64 r10)).setCell ⟨g17, 4, none⟩ (.int .i64 r11)).setCell ⟨g17, 5, none⟩ (.slice Xb r12.length cb)) = w27g at FB F16 F17 ⊢
  have D35 := Aside0.mk (show w25.heap.size ≤ w27g.heap.size from FB.out.size)
  replace B2 := Aside0.mk (blk_below B2.out FB.out)
  replace B6 := Aside0.mk (blk_below B6.out FB.out)
  replace B7 := Aside0.mk (blk_below B7.out FB.out)
  replace B9 := Aside0.mk (blk_below B9.out FB.out)
  replace B10 := Aside0.mk (blk_below B10.out FB.out)
  replace B11 := Aside0.mk (blk_below B11.out FB.out)
  replace Su := Aside0.mk (Kd.S_below Su.out FB.out)
  replace Sv := Aside0.mk (Kd.S_below Sv.out FB.out)
  replace Sg := Aside0.mk (Kd.S_below Sg.out FB.out)
  replace Sh := Aside0.mk (Kd.S_below Sh.out FB.out)
  replace Sa := Aside0.mk (Kd.S_below Sa.out FB.out)
  replace Sb := Aside0.mk (Kd.S_below Sb.out FB.out)
  replace HW := Aside0.mk (below_step HW.out FB.out)
  have B16 := F16
  have D36 := Aside0.mk (show w25.heap.size ≤ g16 from G16.out)
  have D37 := Aside0.mk (show g16 + 1 ≤ w27g.heap.size from blk_lt F16.out)
  have B17 := F17
  have D38 := Aside0.mk (show w25.heap.size ≤ g17 from GG17.out)
  have D39 := Aside0.mk (show g17 + 1 ≤ w27g.heap.size from blk_lt F17.out)
  clear FB XX F16 X16 Y16 G16 F17 X17 Y17 G17 Z16 N1617 GG17
  refine (laws_eqBatch.calls KK1 r1 r2 r3 r4 r5 _ _ r6 r1 r2 r3 r4 r5 _ _ r6 true _ (Kd.S_reads' Sa.out).2.2 La.out (Kd.S_reads' Su.out).2.2 Lu.out E0.out).mono ?_
  rintro e w28 ⟨rfl, hb⟩
  have D40 := Aside0.mk (show w27g.heap.size ≤ w28.heap.size from hb.size)
  replace B2 := Aside0.mk (blk_below B2.out hb)
  replace B6 := Aside0.mk (blk_below B6.out hb)
  replace B7 := Aside0.mk (blk_below B7.out hb)
  replace B9 := Aside0.mk (blk_below B9.out hb)
  replace B10 := Aside0.mk (blk_below B10.out hb)
  replace B11 := Aside0.mk (blk_below B11.out hb)
  replace B16 := Aside0.mk (blk_below B16.out hb)
  replace B17 := Aside0.mk (blk_below B17.out hb)
  replace Su := Aside0.mk (Kd.S_below Su.out hb)
  replace Sv := Aside0.mk (Kd.S_below Sv.out hb)
  replace Sg := Aside0.mk (Kd.S_below Sg.out hb)
  replace Sh := Aside0.mk (Kd.S_below Sh.out hb)
  replace Sa := Aside0.mk (Kd.S_below Sa.out hb)
  replace Sb := Aside0.mk (Kd.S_below Sb.out hb)
  replace HW := Aside0.mk (below_step HW.out hb)
  clear hb
  have z17_0 : w28.cell? ⟨g17, 0, none⟩ = some (.bool r7) := blk_cell B17.out 0
  have z17_1 : w28.cell? ⟨g17, 1, none⟩ = some (.bool r8) := blk_cell B17.out 1
  have z17_2 : w28.cell? ⟨g17, 2, none⟩ = some (.int .i64 r9) := blk_cell B17.out 2
  have z17_3 : w28.cell? ⟨g17, 3, none⟩ = some (.int .i64 r10) := blk_cell B17.out 3
  have z17_4 : w28.cell? ⟨g17, 4, none⟩ = some (.int .i64 r11) := blk_cell B17.out 4
  have z17_5 : w28.cell? ⟨g17, 5, none⟩ = some (.slice Xb r12.length cb) := blk_cell B17.out 5
  have z7_0 : w28.cell? ⟨g7, 0, none⟩ = some (.bool r7) := blk_cell B7.out 0
  have z7_1 : w28.cell? ⟨g7, 1, none⟩ = some (.bool r8) := blk_cell B7.out 1
  have z7_2 : w28.cell? ⟨g7, 2, none⟩ = some (.int .i64 r9) := blk_cell B7.out 2
  have z7_3 : w28.cell? ⟨g7, 3, none⟩ = some (.int .i64 r10) := blk_cell B7.out 3
  have z7_4 : w28.cell? ⟨g7, 4, none⟩ = some (.int .i64 r11) := blk_cell B7.out 4
  have z7_5 : w28.cell? ⟨g7, 5, none⟩ = some (.slice Xv r12.length cv) := blk_cell B7.out 5
  go_wp2_with fail
  clear z17_0 z17_1 z17_2 z17_3 z17_4 z17_5 z7_0 z7_1 z7_2 z7_3 z7_4 z7_5
  refine (laws_eqBatch.calls KK1 r7 r8 r9 r10 r11 _ _ r12 r7 r8 r9 r10 r11 _ _ r12 true _ (Kd.S_reads' Sb.out).2.2 Lb.out (Kd.S_reads' Sv.out).2.2 Lv.out E1.out).mono ?_
  rintro e w29 ⟨rfl, hb⟩
  have D41 := Aside0.mk (show w28.heap.size ≤ w29.heap.size from hb.size)
  replace B2 := Aside0.mk (blk_below B2.out hb)
  replace B6 := Aside0.mk (blk_below B6.out hb)
  replace B7 := Aside0.mk (blk_below B7.out hb)
  replace B9 := Aside0.mk (blk_below B9.out hb)
  replace B10 := Aside0.mk (blk_below B10.out hb)
  replace B11 := Aside0.mk (blk_below B11.out hb)
  replace B16 := Aside0.mk (blk_below B16.out hb)
  replace B17 := Aside0.mk (blk_below B17.out hb)
  replace Su := Aside0.mk (Kd.S_below Su.out hb)
  replace Sv := Aside0.mk (Kd.S_below Sv.out hb)
  replace Sg := Aside0.mk (Kd.S_below Sg.out hb)
  replace Sh := Aside0.mk (Kd.S_below Sh.out hb)
  replace Sa := Aside0.mk (Kd.S_below Sa.out hb)
  replace Sb := Aside0.mk (Kd.S_below Sb.out hb)
  replace HW := Aside0.mk (below_step HW.out hb)
  clear hb
  have z10_0 : w29.cell? ⟨g10, 0, none⟩ = some (.bool r1) := blk_cell B10.out 0
  have z10_1 : w29.cell? ⟨g10, 1, none⟩ = some (.bool r2) := blk_cell B10.out 1
  have z10_2 : w29.cell? ⟨g10, 2, none⟩ = some (.int .i64 r3) := blk_cell B10.out 2
  have z10_3 : w29.cell? ⟨g10, 3, none⟩ = some (.int .i64 r4) := blk_cell B10.out 3
  have z10_4 : w29.cell? ⟨g10, 4, none⟩ = some (.int .i64 r5) := blk_cell B10.out 4
  have z10_5 : w29.cell? ⟨g10, 5, none⟩ = some (.slice Xg r6.length cg) := blk_cell B10.out 5
  go_wp2_with fail
  clear z10_0 z10_1 z10_2 z10_3 z10_4 z10_5
  have hrr := Kd.S_reads' Sg.out
  rw [show r6.length = (markR r6 1).length from hrr.1]
  refine (laws_heldBatch.calls KK1 r1 r2 r3 r4 r5 _ _ (markR r6 1) 1 m1 _ hrr.2.2 Lg2.out T0.out).mono ?_
  rintro e w30 ⟨rfl, hb⟩
  clear hrr
  have D42 := Aside0.mk (show w29.heap.size ≤ w30.heap.size from hb.size)
  replace B2 := Aside0.mk (blk_below B2.out hb)
  replace B6 := Aside0.mk (blk_below B6.out hb)
  replace B7 := Aside0.mk (blk_below B7.out hb)
  replace B9 := Aside0.mk (blk_below B9.out hb)
  replace B10 := Aside0.mk (blk_below B10.out hb)
  replace B11 := Aside0.mk (blk_below B11.out hb)
  replace B16 := Aside0.mk (blk_below B16.out hb)
  replace B17 := Aside0.mk (blk_below B17.out hb)
  replace Su := Aside0.mk (Kd.S_below Su.out hb)
  replace Sv := Aside0.mk (Kd.S_below Sv.out hb)
  replace Sg := Aside0.mk (Kd.S_below Sg.out hb)
  replace Sh := Aside0.mk (Kd.S_below Sh.out hb)
  replace Sa := Aside0.mk (Kd.S_below Sa.out hb)
  replace Sb := Aside0.mk (Kd.S_below Sb.out hb)
  replace HW := Aside0.mk (below_step HW.out hb)
  clear hb
  have z11_0 : w30.cell? ⟨g11, 0, none⟩ = some (.bool r7) := blk_cell B11.out 0
  have z11_1 : w30.cell? ⟨g11, 1, none⟩ = some (.bool r8) := blk_cell B11.out 1
  have z11_2 : w30.cell? ⟨g11, 2, none⟩ = some (.int .i64 r9) := blk_cell B11.out 2
  have z11_3 : w30.cell? ⟨g11, 3, none⟩ = some (.int .i64 r10) := blk_cell B11.out 3
  have z11_4 : w30.cell? ⟨g11, 4, none⟩ = some (.int .i64 r11) := blk_cell B11.out 4
  have z11_5 : w30.cell? ⟨g11, 5, none⟩ = some (.slice Xh r12.length ch) := blk_cell B11.out 5
  go_wp2_with fail
  clear z11_0 z11_1 z11_2 z11_3 z11_4 z11_5
  have hrr := Kd.S_reads' Sh.out
  rw [show r12.length = (markR r12 m1).length from hrr.1]
  refine (laws_heldBatch.calls KK1 r7 r8 r9 r10 r11 _ _ (markR r12 m1) m1 m2 _ hrr.2.2 Lh2.out T1.out).mono ?_
  rintro e w31 ⟨rfl, hb⟩
  clear hrr
  have D43 := Aside0.mk (show w30.heap.size ≤ w31.heap.size from hb.size)
  replace B2 := Aside0.mk (blk_below B2.out hb)
  replace B6 := Aside0.mk (blk_below B6.out hb)
  replace B7 := Aside0.mk (blk_below B7.out hb)
  replace B9 := Aside0.mk (blk_below B9.out hb)
  replace B10 := Aside0.mk (blk_below B10.out hb)
  replace B11 := Aside0.mk (blk_below B11.out hb)
  replace B16 := Aside0.mk (blk_below B16.out hb)
  replace B17 := Aside0.mk (blk_below B17.out hb)
  replace Su := Aside0.mk (Kd.S_below Su.out hb)
  replace Sv := Aside0.mk (Kd.S_below Sv.out hb)
  replace Sg := Aside0.mk (Kd.S_below Sg.out hb)
  replace Sh := Aside0.mk (Kd.S_below Sh.out hb)
  replace Sa := Aside0.mk (Kd.S_below Sa.out hb)
  replace Sb := Aside0.mk (Kd.S_below Sb.out hb)
  replace HW := Aside0.mk (below_step HW.out hb)
  clear hb
  go_wp2
  go_ret
  exact ⟨rfl, HW.out⟩
end Go.Proofs.YtlhbclblehmdbaaDoor.PFnExactBatchCut
