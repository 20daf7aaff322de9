/- The law FnExactGroupsPut, walked where the sizes fit. -/
import Derived.Test.YtlhbclblehmdbaaH7
import Derived.Deep.CutRange
import Derived.Deep.RegionWith
set_option linter.unusedVariables false
set_option linter.unusedSimpArgs false
namespace Go.Proofs.Ytlhbclblehmdbaa.PFnExactGroupsPut
open Go.RowKit Go.Proofs.YtlhbclblehmdbaaW.PrintWords Go.Proofs.YtlhbclblehmdbaaW.PrintLast Go.Proofs.YtlhbclblehmdbaaW.PrintMore

set_option maxHeartbeats 4000000 in
set_option maxRecDepth 100000 in
theorem law_small (K : Nat) (aA : List S48) (A0 : Option Addr) (c0 : Nat) (yn : ByteArray) (yx : Int) (a R : List S34) (ok : Bool) (r1 r2 : Int) (w : World) (ha : Kd.C k48 w A0 aA.length aA) (hc0 : aA.length ≤ c0)
    (s1 : laws_szGroupS.f K aA 1048576 = some r1) (s2 : laws_szGroup.f yn yx r1 = some r2) (hr1 : 0 ≤ r1) (hr2 : 0 ≤ r2) (ta : laws_toGroupS.f K aA = some a) (la : a.length ≤ 1048576) (lR : R.length ≤ 1048576) (hK : 100000000 ≤ K)
    (SP : spec_GroupsPut.f K a yn yx = some (R, ok))
    (IP : ∀ (A : Option Addr) (c : Nat) (w : World), Kd.C k34 w A a.length a → a.length ≤ c → Calls Try.prog 18 #[.slice A a.length c, .agg #[.string yn, .int .i64 yx]] w fun e w' => ∃ v : Value, e = .returned (.tuple #[v, .bool ok]) ∧ Clipped w' w.heap.size v R ∧ Below w.heap.size w w') :
    Calls Try.prog 9 #[.slice A0 aA.length c0, .agg #[.string yn, .int .i64 yx]] w fun e w' => e = .returned (.bool true) ∧ Below w.heap.size w w' := by
  have hu34 := Try.underlying34
  have hu48 := Try.underlying48
  have HA := Aside0.mk ha
  have HC0 := Aside0.mk hc0
  have S1 := Aside0.mk s1
  have S2 := Aside0.mk s2
  have TA := Aside0.mk ta
  have LA := Aside0.mk la
  have LR := Aside0.mk lR
  have HK := Aside0.mk hK
  have SP' := Aside0.mk SP
  have IP' := Aside0.mk IP
  clear ha hc0 s1 s2 ta la lR hK SP IP
  go_enter Try.func9, Try.ntmps9
  go_upto_region 8 with (first
    | ((with_reducible refine gate_dst (N := 3) rfl ?_); refine box_event ?hg (N := 3) ?hd (cs := #[.string yn, .int .i64 yx]) (t := 48) ?hr ?_; (case hd => rfl); (case hg => rfl); (case hr => first | (go_simp; done) | (go_simp; rfl)); intro pb hg w1 hbox hb; have BK := Aside0.mk hbox; have HW := Aside0.mk hb; clear hg hbox hb)
    | (go_at_call 22; refine (laws_szGroupS.calls K A0 c0 aA 1048576 r1 _ (Kd.C_below HA.out HW.out) HC0.out S1.out).mono ?_; rintro e w2 ⟨rfl, hb⟩; replace BK := Aside0.mk (blk_below BK.out hb); replace HW := Aside0.mk (below_step HW.out hb); clear hb; have x0 : w2.cell? ⟨pb, 0, none⟩ = some (.string yn) := blk_cell BK.out 0; have x1 : w2.cell? ⟨pb, 1, none⟩ = some (.int .i64 yx) := blk_cell BK.out 1)
    | (go_at_call 29; refine (laws_szGroup.calls yn yx r1 r2 _ S2.out).mono ?_; rintro e w3 ⟨rfl, hb⟩; clear x0 x1; replace BK := Aside0.mk (blk_below BK.out hb); replace HW := Aside0.mk (below_step HW.out hb); clear hb; have x0 : w3.cell? ⟨pb, 0, none⟩ = some (.string yn) := blk_cell BK.out 0; have x1 : w3.cell? ⟨pb, 1, none⟩ = some (.int .i64 yx) := blk_cell BK.out 1))
  have HW0 := HW
  have HPB := Aside0.mk (blk_lt BK.out)
  go_cut [6, 7] from 26 to 33 (fun s6 s7 wx => ∃ (Xw : Option Addr) (cw : Nat), s6 = .slice Xw R.length cw ∧ s7 = .bool ok ∧ Aside0 (R.length ≤ cw) ∧ Aside0 (Kd.R k34 34 wx w.heap.size (fun k => w3.heap.size ≤ k ∧ k < wx.heap.size) (.slice Xw R.length cw) R) ∧ Aside0 (Below w.heap.size w wx) ∧ Aside0 (Below w3.heap.size w3 wx))
  case first =>
    have HW4 := Aside0.mk (HW.out.drew)
    have HB4 := Aside0.mk ((Below.refl w3.heap.size w3).drew)
    have BK4 := Aside0.mk (blk_drew BK.out)
    clear HW BK
    go_region_with (first
      | (go_at_call 24; refine (laws_toGroupS.calls K A0 c0 aA a _ (Kd.C_below HA.out HW4.out) HC0.out TA.out).mono ?_; rintro e w4 ⟨v4, rfl, h4, hb⟩; obtain ⟨Xp, cp, e4, hl4, hC4⟩ := Kd.R_reads h4; subst e4; have HC4 := Aside0.mk hC4; have HL4 := Aside0.mk hl4; replace HW4 := Aside0.mk (below_step HW4.out hb); replace HB4 := Aside0.mk (below_step HB4.out hb); replace BK4 := Aside0.mk (blk_below BK4.out hb); clear h4 hb hl4 hC4; have y0 : w4.cell? ⟨pb, 0, none⟩ = some (.string yn) := blk_cell BK4.out 0; have y1 : w4.cell? ⟨pb, 1, none⟩ = some (.int .i64 yx) := blk_cell BK4.out 1)
      | (go_at_call 30; refine (laws_toGroup.calls yn yx yn yx _ rfl).mono ?_; rintro e w5 ⟨rfl, hb⟩; (try replace HC4 := Aside0.mk (Kd.C_below HC4.out hb)); replace HW4 := Aside0.mk (below_step HW4.out hb); replace HB4 := Aside0.mk (below_step HB4.out hb); replace BK4 := Aside0.mk (blk_below BK4.out hb); clear hb; have z0 : w5.cell? ⟨pb, 0, none⟩ = some (.string yn) := blk_cell BK4.out 0; have z1 : w5.cell? ⟨pb, 1, none⟩ = some (.int .i64 yx) := blk_cell BK4.out 1)
      | (go_at_call 19; refine (spec_GroupsPut.calls K Xp cp a yn yx R ok _ HC4.out HL4.out SP'.out).mono ?_; rintro e w6 ⟨vw, rfl, h6, hb⟩; have HR6 := Aside0.mk (Kd.R_mono (R_iv h6 HW4.out.size) (fun k hk => (⟨Nat.le_trans HB4.out.size hk.1, hk.2⟩ : w3.heap.size ≤ k ∧ k < w6.heap.size))); obtain ⟨Xw, cw, e6, hl6, _⟩ := Kd.R_reads h6; subst e6; have HL6 := Aside0.mk hl6; replace HW4 := Aside0.mk (below_step HW4.out hb); replace HB4 := Aside0.mk (below_step HB4.out hb); clear h6 hb hl6))
    all_goals (go_wp2_with fail; go_meet; exact ⟨Xw, cw, rfl, rfl, HL6, HR6, HW4, HB4⟩)
  case rest =>
    obtain ⟨Xw, cw, rfl, rfl, HLw, HSw, HWc, HBc⟩ := hcut
    replace BK := Aside0.mk (blk_below BK.out HBc.out)
    have HW := HWc
    clear HWc x0 x1
    have HDw := Aside0.mk (show w.heap.size ≤ w3.heap.size ∧ w3.heap.size ≤ wc.heap.size from ⟨HW0.out.size, HBc.out.size⟩)
    clear HW0 HBc
    have VA := Aside0.mk (eqS a K (by have := LA.out; omega) (by have := LA.out; have := HK.out; omega))
    have VR := Aside0.mk (eqS R K (by have := LR.out; omega) (by have := LR.out; have := HK.out; omega))
    have MA := Aside0.mk (markS a 1 K (by have := LA.out; have := HK.out; omega) (by omega) (by have := LA.out; omega))
    have HH := Aside0.mk (heldS R 1 K (by have := LR.out; have := HK.out; omega) (by omega) (by have := LR.out; omega))
    have LM := Aside0.mk (markG_length R K 1 (by have := LR.out; have := HK.out; omega))
    go_wp2_with fail
    refine (laws_toGroupS.calls K A0 c0 aA a _ (Kd.C_below HA.out HW.out) HC0.out TA.out).mono ?_
    rintro e w7 ⟨vx, rfl, hs, hb⟩
    obtain ⟨Xx, cx, hv, hl_, hc_⟩ := Kd.R_reads hs
    subst hv
    have HSx := Aside0.mk (R_iv hs HW.out.size)
    have HLx := Aside0.mk hl_
    have HDx := Aside0.mk (show wc.heap.size ≤ w7.heap.size from hb.size)
    replace HSw := Aside0.mk (Kd.R_below HSw.out hb)
    replace BK := Aside0.mk (blk_below BK.out hb)
    replace HW := Aside0.mk (below_step HW.out hb)
    clear hs hb hl_ hc_
    have x0 : w7.cell? ⟨pb, 0, none⟩ = some (.string yn) := blk_cell BK.out 0
    have x1 : w7.cell? ⟨pb, 1, none⟩ = some (.int .i64 yx) := blk_cell BK.out 1
    go_wp2_with fail
    refine (laws_toGroup.calls yn yx yn yx _ rfl).mono ?_
    rintro e w8 ⟨rfl, hb⟩
    clear x0 x1
    have HDy := Aside0.mk (show w7.heap.size ≤ w8.heap.size from hb.size)
    replace HSw := Aside0.mk (Kd.R_below HSw.out hb)
    replace HSx := Aside0.mk (Kd.R_below HSx.out hb)
    replace BK := Aside0.mk (blk_below BK.out hb)
    replace HW := Aside0.mk (below_step HW.out hb)
    clear hb
    go_wp2_with fail
    refine (IP'.out _ _ _ (Kd.R_reads' HSx.out).2.2 HLx.out).mono ?_
    rintro e w9 ⟨vg, rfl, hs, hb⟩
    have HSg := Aside0.mk (clip_iv hs HW.out.size)
    obtain ⟨Xg, hv, hc_⟩ := clip_reads HSg.out
    subst hv
    have HDg := Aside0.mk (show w8.heap.size ≤ w9.heap.size from hb.size)
    have HGb := Aside0.mk (show ∀ k, (Value.slice Xg R.length R.length).ownBlock = some k → w8.heap.size ≤ k from fun k hk => by
      rcases hs with ⟨e, _⟩ | ⟨g, c, e, hr⟩
      · rw [e] at hk; simp [Value.ownBlock] at hk
      · rw [e] at hk
        exact own_base (R_flat hr) k (by simpa [Value.ownBlock] using hk))
    replace HSw := Aside0.mk (Kd.R_below HSw.out hb)
    replace HSx := Aside0.mk (Kd.R_below HSx.out hb)
    replace BK := Aside0.mk (blk_below BK.out hb)
    replace HW := Aside0.mk (below_step HW.out hb)
    clear hs hb hc_
    have CG : ∀ {W : World} {B : Nat} {okk : Nat → Prop}, ClippedP W B okk (.slice Xg R.length R.length) R → Kd.C k34 W Xg R.length R := fun h => by
      obtain ⟨A, e, hC⟩ := clip_reads h
      injection e with e _ _
      subst e
      exact hC
    have HCG := Aside0.mk @CG
    clear CG
    go_wp2_with fail
    refine (laws_eqGroupS.calls K _ _ R _ _ R true _ (HCG.out HSg.out) (Nat.le_refl _) (Kd.R_reads' HSw.out).2.2 HLw.out VR.out).mono ?_
    rintro e w10 ⟨rfl, hb⟩
    replace HSw := Aside0.mk (Kd.R_below HSw.out hb)
    replace HSx := Aside0.mk (Kd.R_below HSx.out hb)
    replace HSg := Aside0.mk (clip_below HSg.out hb)
    replace BK := Aside0.mk (blk_below BK.out hb)
    replace HW := Aside0.mk (below_step HW.out hb)
    clear hb
    go_wp2_with fail
    refine (laws_toGroupS.calls K A0 c0 aA a _ (Kd.C_below HA.out HW.out) HC0.out TA.out).mono ?_
    rintro e w11 ⟨vs, rfl, hs, hb⟩
    obtain ⟨Xs, cs, hv, hl_, hc_⟩ := Kd.R_reads hs
    subst hv
    have HSs := Aside0.mk hc_
    have HLs := Aside0.mk hl_
    replace HSw := Aside0.mk (Kd.R_below HSw.out hb)
    replace HSx := Aside0.mk (Kd.R_below HSx.out hb)
    replace HSg := Aside0.mk (clip_below HSg.out hb)
    replace BK := Aside0.mk (blk_below BK.out hb)
    replace HW := Aside0.mk (below_step HW.out hb)
    clear hs hb hl_ hc_
    go_wp2_with fail
    refine (laws_eqGroupS.calls K _ _ a _ _ a true _ (Kd.R_reads' HSx.out).2.2 HLx.out HSs.out HLs.out VA.out).mono ?_
    rintro e w12 ⟨rfl, hb⟩
    replace HSw := Aside0.mk (Kd.R_below HSw.out hb)
    replace HSx := Aside0.mk (Kd.R_below HSx.out hb)
    replace HSg := Aside0.mk (clip_below HSg.out hb)
    replace BK := Aside0.mk (blk_below BK.out hb)
    replace HW := Aside0.mk (below_step HW.out hb)
    clear hb HSs HLs
    go_wp2_with fail
    refine (laws_markGroupS.calls K (fun k => wc.heap.size ≤ k ∧ k < w7.heap.size) _ a 1 _ _ w _ HW.out HSx.out MA.out).mono ?_
    rintro e w13 ⟨rfl, hs, hb, hk⟩
    replace HSw := Aside0.mk (R_kept HSw.out hk (fun k h1 h2 => by have e1 := h1.2; have e2 := h2.1; omega))
    replace HSg := Aside0.mk (clip_kept HSg.out hk (fun k h1 h2 => by have e1 := h1.1; have e2 := h2.2; have e3 := HDy.out; omega))
    have HKB := Aside0.mk (show Below w3.heap.size w3 w3 from Below.refl _ _)
    replace BK := Aside0.mk (show w13.heap[pb]? = some (.cells #[.string yn, .int .i64 yx] 48 (0, 0)) from (hk.2 pb (blk_lt BK.out) (fun h => by have e1 := h.1; have e2 := HPB.out; have e3 := HDw.out.2; omega)).trans BK.out)
    replace HW := Aside0.mk hb
    clear hs hb hk HSx HKB
    have pa : 0 ≤ 1 + 2 * (a.length : Int) := by omega
    go_wp2_with fail
    refine (laws_eqGroupS.calls K _ _ R _ _ R true _ (HCG.out HSg.out) (Nat.le_refl _) (Kd.R_reads' HSw.out).2.2 HLw.out VR.out).mono ?_
    rintro e w14 ⟨rfl, hb⟩
    replace HSw := Aside0.mk (Kd.R_below HSw.out hb)
    replace HSg := Aside0.mk (clip_below HSg.out hb)
    replace BK := Aside0.mk (blk_below BK.out hb)
    replace HW := Aside0.mk (below_step HW.out hb)
    clear hb
    go_wp2_with fail
    refine (laws_markGroupS.clipped K w.heap.size _ _ R _ HSg.out (by have := LR.out; omega) (by have := LR.out; have := HK.out; omega)).mono ?_
    rintro e w15 ⟨rfl, ⟨A, hv, hC⟩, hg⟩
    injection hv with hv _ _
    subst hv
    have hbw : w.heap.size ≤ w14.heap.size := HW.out.size
    replace HSw := Aside0.mk (Kd.R_step HSw.out (fun k h1 h2 => hg.block k h2 (fun e => by have e1 := h1.2; have e2 := HGb.out k e.symm; have e3 := HDx.out; have e4 := HDy.out; omega)))
    replace BK := Aside0.mk (show w15.heap[pb]? = some (.cells #[.string yn, .int .i64 yx] 48 (0, 0)) from (hg.block pb (blk_lt BK.out) (fun e => by have e1 := HGb.out pb e.symm; have e2 := HPB.out; have e3 := HDw.out.2; have e4 := HDx.out; have e5 := HDy.out; omega)).trans BK.out)
    replace HW := Aside0.mk (HW.out.grown hg hbw (fun k e => by have e1 := HGb.out k e; have e2 := HDw.out; have e3 := HDx.out; have e4 := HDy.out; omega))
    have HM := Aside0.mk (show Kd.C k34 w15 Xg (markG K R 1).length (markG K R 1) by rw [LM.out]; exact hC)
    clear hg hbw hC HSg
    have pR : 0 ≤ 1 + 2 * (R.length : Int) := by omega
    go_wp2_with fail
    refine calls_of_args (args' := #[.slice Xg (markG K R 1).length R.length, .int .i64 1]) (by rw [LM.out]) ?_
    refine (laws_heldGroupS.calls K _ _ (markG K R 1) 1 (1 + 2 * R.length) _ HM.out (by rw [LM.out]; exact Nat.le_refl _) HH.out).mono ?_
    rintro e w16 ⟨rfl, hb⟩
    replace HSw := Aside0.mk (Kd.R_below HSw.out hb)
    replace HM := Aside0.mk (Kd.C_below HM.out hb)
    replace BK := Aside0.mk (blk_below BK.out hb)
    replace HW := Aside0.mk (below_step HW.out hb)
    clear hb
    have x0 : w16.cell? ⟨pb, 0, none⟩ = some (.string yn) := blk_cell BK.out 0
    have x1 : w16.cell? ⟨pb, 1, none⟩ = some (.int .i64 yx) := blk_cell BK.out 1
    go_upto_region 27 with (fail)
    go_cut [14, 15] from 84 to 91 (fun s14 s15 wx => ∃ (Xh : Option Addr), s14 = .slice Xh R.length R.length ∧ s15 = .bool ok ∧ Aside0 (Kd.C k34 wx Xh R.length R) ∧ Aside0 (Below w.heap.size w wx) ∧ Aside0 (Below w16.heap.size w16 wx))
    case first =>
      have HW4 := Aside0.mk (HW.out.drew)
      have HB4 := Aside0.mk ((Below.refl w16.heap.size w16).drew)
      have BK4 := Aside0.mk (blk_drew BK.out)
      clear HW BK
      go_region_with (first
        | (go_at_call 24; refine (laws_toGroupS.calls K A0 c0 aA a _ (Kd.C_below HA.out HW4.out) HC0.out TA.out).mono ?_; rintro e w4 ⟨v4, rfl, h4, hb⟩; obtain ⟨Xp, cp, e4, hl4, hC4⟩ := Kd.R_reads h4; subst e4; have HC4 := Aside0.mk hC4; have HL4 := Aside0.mk hl4; replace HW4 := Aside0.mk (below_step HW4.out hb); replace HB4 := Aside0.mk (below_step HB4.out hb); replace BK4 := Aside0.mk (blk_below BK4.out hb); clear h4 hb hl4 hC4; have y0 : w4.cell? ⟨pb, 0, none⟩ = some (.string yn) := blk_cell BK4.out 0; have y1 : w4.cell? ⟨pb, 1, none⟩ = some (.int .i64 yx) := blk_cell BK4.out 1)
        | (go_at_call 30; refine (laws_toGroup.calls yn yx yn yx _ rfl).mono ?_; rintro e w5 ⟨rfl, hb⟩; (try replace HC4 := Aside0.mk (Kd.C_below HC4.out hb)); replace HW4 := Aside0.mk (below_step HW4.out hb); replace HB4 := Aside0.mk (below_step HB4.out hb); replace BK4 := Aside0.mk (blk_below BK4.out hb); clear hb; have z0 : w5.cell? ⟨pb, 0, none⟩ = some (.string yn) := blk_cell BK4.out 0; have z1 : w5.cell? ⟨pb, 1, none⟩ = some (.int .i64 yx) := blk_cell BK4.out 1)
        | (go_at_call 18; refine (IP'.out Xp cp _ HC4.out HL4.out).mono ?_; rintro e w6 ⟨vh, rfl, h6, hb⟩; obtain ⟨Xh, e6, hC6⟩ := clip_reads (clip_iv h6 HW4.out.size); subst e6; have HC6 := Aside0.mk hC6; replace HW4 := Aside0.mk (below_step HW4.out hb); replace HB4 := Aside0.mk (below_step HB4.out hb); clear h6 hb hC6))
      all_goals (go_wp2_with fail; go_meet; exact ⟨Xh, rfl, rfl, HC6, HW4, HB4⟩)
    case rest =>
      obtain ⟨Xh, rfl, rfl, HCh, HWc, HBc⟩ := hcut
      replace HSw := Aside0.mk (Kd.R_below HSw.out HBc.out)
      replace HM := Aside0.mk (Kd.C_below HM.out HBc.out)
      clear HW BK x0 x1
      have HW := HWc
      go_wp2_with fail
      refine (laws_eqGroupS.calls K _ _ R _ _ R true _ HCh.out (Nat.le_refl _) (Kd.R_reads' HSw.out).2.2 HLw.out VR.out).mono ?_
      rintro e w20 ⟨rfl, hb⟩
      replace HM := Aside0.mk (Kd.C_below HM.out hb)
      replace HW := Aside0.mk (below_step HW.out hb)
      clear hb
      go_wp2_with fail
      refine calls_of_args (args' := #[.slice Xg (markG K R 1).length R.length, .int .i64 1]) (by rw [LM.out]) ?_
      refine (laws_heldGroupS.calls K _ _ (markG K R 1) 1 (1 + 2 * R.length) _ HM.out (by rw [LM.out]; exact Nat.le_refl _) HH.out).mono ?_
      rintro e w21 ⟨rfl, hb⟩
      replace HW := Aside0.mk (below_step HW.out hb)
      clear hb
      go_wp2
      go_ret
      exact ⟨rfl, HW.out⟩
end Go.Proofs.Ytlhbclblehmdbaa.PFnExactGroupsPut
