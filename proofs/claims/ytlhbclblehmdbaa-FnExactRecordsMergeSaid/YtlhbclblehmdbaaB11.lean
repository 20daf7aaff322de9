/- The law FnExactRecordsMerge returns true for every two rows of records that can be read. -/
import Derived.Test.YtlhbclblehmdbaaB7
import Derived.Test.YtlhbclblehmdbaaB10
set_option linter.unusedVariables false
set_option linter.unusedSimpArgs false
namespace Go.Proofs.Ytlhbclblehmdbaa.PFnExactRecordsMerge
open Go.RowKit Go.Proofs.YtlhbclblehmdbaaW.PrintWords Go.Proofs.YtlhbclblehmdbaaW.PrintLast Go.Proofs.YtlhbclblehmdbaaW.PrintMore

theorem impl_RecordsMerge.both (k : Nat) (A0 : Option Addr) (c0 : Nat) (l0 : List S58) (A1 : Option Addr) (c1 : Nat) (l1 : List S58) (va vb ok : Bool) (w : World) (hr0 : Kd.C k58 w A0 l0.length l0) (hc0 : l0.length ≤ c0) (hr1 : Kd.C k58 w A1 l1.length l1) (hc1 : l1.length ≤ c1)
    (hva : impl_rowValid.f k l0 = some va) (hvb : impl_rowValid.f k l1 = some vb) (hm : l0.length ≤ 1048576) (hn : l1.length ≤ 1048576) (hok : mergeOk va vb l0 l1 = ok)
    (hp0 : ∀ x ∈ l0, x.f3.length < 17592186044416 ∧ x.f5.length < 17592186044416) (hp1 : ∀ x ∈ l1, x.f3.length < 17592186044416 ∧ x.f5.length < 17592186044416) :
    Calls Try.prog 13 #[.slice A0 l0.length c0, .slice A1 l1.length c1] w fun e w' => ∃ v0 : Value, e = .returned (.tuple #[v0, .bool ok]) ∧ Kd.S kd58 58 w' w.heap.size (fun _ => True) v0 (if ok = true then mergeF l0 l1 else []) ∧ Below w.heap.size w w' := by
  cases ok with
  | false =>
    refine (impl_RecordsMerge.no k A0 c0 l0 A1 c1 l1 va vb w hr0 hc0 hr1 hc1 hva hvb hm hn hok).mono ?_
    rintro e w' ⟨rfl, hb⟩
    exact ⟨_, rfl, by simpa using Kd.S_nil _ _ _ _ _, hb⟩
  | true =>
    have h := hok
    simp only [mergeOk, Bool.and_eq_true, decide_eq_true_eq] at h
    obtain ⟨⟨rfl, rfl⟩, hlen⟩ := h
    refine (impl_RecordsMerge.yes k A0 c0 l0 A1 c1 l1 w hr0 hc0 hr1 hc1 hva hvb hlen hp0 hp1).mono ?_
    rintro e w' ⟨v0, rfl, hs, hb⟩
    exact ⟨_, rfl, by simpa using hs, hb⟩

section
variable {α : Type} {d : Kd α} {e B : Nat} {w w1 W : World} {ok P : Nat → Prop} {v : Value} {xs : List α}
/-- What a call has made lies between the heap's sizes before and behind it. -/
theorem S_iv (h : Kd.S d e w W.heap.size (fun _ => True) v xs) (hb : B ≤ W.heap.size) : Kd.S d e w B (fun k => W.heap.size ≤ k ∧ k < w.heap.size) v xs := Kd.S_lower (Kd.S_mono (Kd.S_bound h) (fun k hk => ⟨hk.2.1, hk.2.2.1⟩)) hb
theorem S_kept (h : Kd.S d e w B ok v xs) (hk : Kept w w1 P) (hd : ∀ k, ok k → ¬ P k) : Kd.S d e w1 B ok v xs := Kd.S_step h (fun k ho hlt => hk.2 k hlt (hd k ho))
end
/-- How much two rows hold, and the merged one. -/
theorem bulk_merge (a b : List S58) : bulkR (mergeF a b) = bulkR a + bulkR b ∧ (mergeF a b).length = a.length + b.length ∧ ∀ x ∈ mergeF a b, x ∈ a ∨ x ∈ b := by
  fun_induction mergeF a b with
  | case1 ys => exact ⟨by simp [bulkR], by simp, fun x hx => .inr hx⟩
  | case2 x xs => exact ⟨by simp [bulkR], by simp, fun x hx => .inl hx⟩
  | case3 x xs y ys h ih =>
    obtain ⟨h1, h2, h3⟩ := ih
    refine ⟨by rw [bulkR_cons, bulkR_cons, h1]; omega, by simp only [List.length_cons] at h2 ⊢; omega, fun z hz => ?_⟩
    rcases List.mem_cons.1 hz with rfl | hz
    · exact .inl List.mem_cons_self
    · exact (h3 z hz).imp (List.mem_cons_of_mem _) id
  | case4 x xs y ys h ih =>
    obtain ⟨h1, h2, h3⟩ := ih
    refine ⟨by rw [bulkR_cons, bulkR_cons y, h1]; omega, by simp only [List.length_cons] at h2 ⊢; omega, fun z hz => ?_⟩
    rcases List.mem_cons.1 hz with rfl | hz
    · exact .inr List.mem_cons_self
    · exact (h3 z hz).imp id (List.mem_cons_of_mem _)
theorem bulk_conv (l : List S56) : bulkR (l.map conv) = 4 * l.length + sz56 l := by
  induction l with
  | nil => rfl
  | cons x t ih =>
    have e : sz56 (x :: t) = x.f3.length + x.f5.length + sz56 t := by simp [sz56]
    rw [List.map_cons, bulkR_cons, ih, e]
    simp only [conv, List.length_cons]; omega

/-- What the walk needs to know of the two rows. -/
structure Two (a b : List S58) (R : List S58) (ok : Bool) : Prop where
  la : a.length ≤ 1048576
  lb : b.length ≤ 1048576
  xa : ∀ x ∈ a, x.f3.length ≤ 1048576 ∧ x.f5.length ≤ 1048576
  xb : ∀ x ∈ b, x.f3.length ≤ 1048576 ∧ x.f5.length ≤ 1048576
  ka : bulkR a ≤ 5242880
  kb : bulkR b ≤ 5242880
  ho : mergeOk (rowB a) (rowB b) a b = ok
  hR : R = if ok = true then mergeF a b else []
theorem Two.lR {a b R : List S58} {ok : Bool} (h : Two a b R ok) : R.length ≤ 2097152 ∧ bulkR R ≤ 10485760 ∧ ∀ x ∈ R, x.f3.length ≤ 1048576 ∧ x.f5.length ≤ 1048576 := by
  obtain ⟨h1, h2, h3⟩ := bulk_merge a b
  have la := h.la; have lb := h.lb; have ka := h.ka; have kb := h.kb
  rw [h.hR]
  cases ok with
  | false => exact ⟨by simp, by simp [bulkR], fun x hx => by simp at hx⟩
  | true => exact ⟨by simp; omega, by simp; omega, fun x hx => by
      rcases h3 x (by simpa using hx) with h4 | h4
      · exact h.xa x h4
      · exact h.xb x h4⟩


set_option maxHeartbeats 4000000 in
set_option maxRecDepth 100000 in
theorem law_small (KK1 : Nat) (hK : 100000000 ≤ KK1) (aA : List S56) (A0 : Option Addr) (c0 : Nat) (bB : List S56) (A1 : Option Addr) (c1 : Nat) (a b R : List S58) (ok : Bool) (r1 r2 : Int) (w : World) (ha : Kd.C k56 w A0 aA.length aA) (hc0 : aA.length ≤ c0) (hb : Kd.C k56 w A1 bB.length bB) (hc1 : bB.length ≤ c1)
    (s1 : laws_szRecordS.f KK1 aA 1048576 = some r1) (s2 : laws_szRecordS.f KK1 bB r1 = some r2) (hr1 : 0 ≤ r1) (hr2 : 0 ≤ r2) (ta : laws_toRecordS.f KK1 aA = some a) (tb : laws_toRecordS.f KK1 bB = some b) (T : Two a b R ok) :
    Calls Try.prog 3 #[.slice A0 aA.length c0, .slice A1 bB.length c1] w fun e w' => e = .returned (.bool true) ∧ Below w.heap.size w w' := by
  have HA := Aside0.mk ha
  have HB := Aside0.mk hb
  have HC0 := Aside0.mk hc0
  have HC1 := Aside0.mk hc1
  have S1 := Aside0.mk s1
  have S2 := Aside0.mk s2
  have TA := Aside0.mk ta
  have TB := Aside0.mk tb
  have HT := Aside0.mk T
  have SM := Aside0.mk (show spec_RecordsMerge.f KK1 a b = some (R, ok) by rw [specMerge 1048576 a b KK1 T.la T.lb T.xa T.xb (by omega) (by have := T.la; have := T.lb; omega), T.ho, T.hR])
  have VA := Aside0.mk (rowV 1048576 a KK1 (by have := T.la; omega) T.xa (by omega) (by have := T.la; omega))
  have VB := Aside0.mk (rowV 1048576 b KK1 (by have := T.lb; omega) T.xb (by omega) (by have := T.lb; omega))
  have EA := Aside0.mk (eqRecs 1048576 a KK1 (by have := T.la; omega) T.xa (by omega) (by have := T.la; omega))
  have EB := Aside0.mk (eqRecs 1048576 b KK1 (by have := T.lb; omega) T.xb (by omega) (by have := T.lb; omega))
  have ER := Aside0.mk (eqRecs 1048576 R KK1 (by have := T.lR.1; omega) T.lR.2.2 (by omega) (by have := T.lR.1; omega))
  have HR := Aside0.mk (heldRec 1048576 R 1 KK1 T.lR.2.2 (by have := T.lR.1; omega) (by omega) (by have := T.lR.2.1; omega) (by have := T.lR.1; omega))
  have PA := Aside0.mk (fun x (hx : x ∈ a) => (⟨by have := (T.xa x hx).1; omega, by have := (T.xa x hx).2; omega⟩ : x.f3.length < 17592186044416 ∧ x.f5.length < 17592186044416))
  have PB := Aside0.mk (fun x (hx : x ∈ b) => (⟨by have := (T.xb x hx).1; omega, by have := (T.xb x hx).2; omega⟩ : x.f3.length < 17592186044416 ∧ x.f5.length < 17592186044416))
  have LA := Aside0.mk T.la
  have LB := Aside0.mk T.lb
  clear ha hb hc0 hc1 s1 s2 ta tb T hK
  have hu56 := Try.underlying56
  have hu58 := Try.underlying58
  go_enter Try.func3, Try.ntmps3
  go_wp2_with fail
  refine (laws_szRecordS.calls KK1 A0 c0 aA 1048576 r1 _ HA.out HC0.out S1.out).mono ?_
  rintro e w1 ⟨rfl, hb⟩
  have HW := Aside0.mk hb
  clear hb
  go_wp2_with fail
  refine (laws_szRecordS.calls KK1 A1 c1 bB r1 r2 _ (Kd.C_below HB.out HW.out) HC1.out S2.out).mono ?_
  rintro e w2 ⟨rfl, hb⟩
  replace HW := Aside0.mk (below_step HW.out hb)
  clear hb S1 S2
  go_wp2_with fail
  refine (laws_toRecordS.calls KK1 A0 c0 aA a _ (Kd.C_below HA.out HW.out) HC0.out TA.out).mono ?_
  rintro e w3 ⟨vp, rfl, hs, hb⟩
  obtain ⟨Xp, cp, hv, hl_, hc_⟩ := Kd.S_reads hs
  subst hv
  have HSp := Aside0.mk (S_iv hs HW.out.size)
  have HLp := Aside0.mk hl_
  have HDp := Aside0.mk (show w2.heap.size ≤ w3.heap.size from hb.size)
  replace HW := Aside0.mk (below_step HW.out hb)
  clear hs hb hl_ hc_
  go_wp2_with fail
  refine (laws_toRecordS.calls KK1 A1 c1 bB b _ (Kd.C_below HB.out HW.out) HC1.out TB.out).mono ?_
  rintro e w4 ⟨vq, rfl, hs, hb⟩
  obtain ⟨Xq, cq, hv, hl_, hc_⟩ := Kd.S_reads hs
  subst hv
  have HSq := Aside0.mk (S_iv hs HW.out.size)
  have HLq := Aside0.mk hl_
  have HDq := Aside0.mk (show w3.heap.size ≤ w4.heap.size from hb.size)
  replace HSp := Aside0.mk (Kd.S_below HSp.out hb)
  replace HW := Aside0.mk (below_step HW.out hb)
  clear hs hb hl_ hc_
  go_wp2_with fail
  refine (spec_RecordsMerge.calls KK1 _ _ a _ _ b R ok _ (Kd.S_reads' HSp.out).2.2 HLp.out (Kd.S_reads' HSq.out).2.2 HLq.out SM.out).mono ?_
  rintro e w5 ⟨vw, rfl, hs, hb⟩
  obtain ⟨Xw, cw, hv, hl_, hc_⟩ := Kd.S_reads hs
  subst hv
  have HSw := Aside0.mk (S_iv hs HW.out.size)
  have HLw := Aside0.mk hl_
  have HDw := Aside0.mk (show w4.heap.size ≤ w5.heap.size from hb.size)
  replace HSp := Aside0.mk (Kd.S_below HSp.out hb)
  replace HSq := Aside0.mk (Kd.S_below HSq.out hb)
  replace HW := Aside0.mk (below_step HW.out hb)
  clear hs hb hl_ hc_
  clear HSp HLp HSq HLq
  go_wp2_with fail
  refine (laws_toRecordS.calls KK1 A0 c0 aA a _ (Kd.C_below HA.out HW.out) HC0.out TA.out).mono ?_
  rintro e w6 ⟨vx, rfl, hs, hb⟩
  obtain ⟨Xx, cx, hv, hl_, hc_⟩ := Kd.S_reads hs
  subst hv
  have HSx := Aside0.mk (S_iv hs HW.out.size)
  have HLx := Aside0.mk hl_
  have HDx := Aside0.mk (show w5.heap.size ≤ w6.heap.size from hb.size)
  replace HSw := Aside0.mk (Kd.S_below HSw.out hb)
  replace HW := Aside0.mk (below_step HW.out hb)
  clear hs hb hl_ hc_
  go_wp2_with fail
  refine (laws_toRecordS.calls KK1 A1 c1 bB b _ (Kd.C_below HB.out HW.out) HC1.out TB.out).mono ?_
  rintro e w7 ⟨vy, rfl, hs, hb⟩
  obtain ⟨Xy, cy, hv, hl_, hc_⟩ := Kd.S_reads hs
  subst hv
  have HSy := Aside0.mk (S_iv hs HW.out.size)
  have HLy := Aside0.mk hl_
  have HDy := Aside0.mk (show w6.heap.size ≤ w7.heap.size from hb.size)
  replace HSw := Aside0.mk (Kd.S_below HSw.out hb)
  replace HSx := Aside0.mk (Kd.S_below HSx.out hb)
  replace HW := Aside0.mk (below_step HW.out hb)
  clear hs hb hl_ hc_
  go_wp2_with fail
  refine (impl_RecordsMerge.both KK1 _ _ a _ _ b (rowB a) (rowB b) ok _ (Kd.S_reads' HSx.out).2.2 HLx.out (Kd.S_reads' HSy.out).2.2 HLy.out VA.out VB.out LA.out LB.out HT.out.ho PA.out PB.out).mono ?_
  rintro e w8 ⟨vg, rfl, hs, hb⟩
  rw [← HT.out.hR] at hs
  obtain ⟨Xg, cg, hv, hl_, hc_⟩ := Kd.S_reads hs
  subst hv
  have HSg := Aside0.mk (S_iv hs HW.out.size)
  have HLg := Aside0.mk hl_
  have HDg := Aside0.mk (show w7.heap.size ≤ w8.heap.size from hb.size)
  replace HSw := Aside0.mk (Kd.S_below HSw.out hb)
  replace HSx := Aside0.mk (Kd.S_below HSx.out hb)
  replace HSy := Aside0.mk (Kd.S_below HSy.out hb)
  replace HW := Aside0.mk (below_step HW.out hb)
  clear hs hb hl_ hc_
  go_wp2_with fail
  refine (laws_eqRecordS.calls KK1 _ _ R _ _ R true _ (Kd.S_reads' HSg.out).2.2 HLg.out (Kd.S_reads' HSw.out).2.2 HLw.out ER.out).mono ?_
  rintro e w9 ⟨rfl, hb⟩
  replace HSw := Aside0.mk (Kd.S_below HSw.out hb)
  replace HSx := Aside0.mk (Kd.S_below HSx.out hb)
  replace HSy := Aside0.mk (Kd.S_below HSy.out hb)
  replace HSg := Aside0.mk (Kd.S_below HSg.out hb)
  replace HW := Aside0.mk (below_step HW.out hb)
  clear hb
  go_wp2_with fail
  refine (laws_toRecordS.calls KK1 A0 c0 aA a _ (Kd.C_below HA.out HW.out) HC0.out TA.out).mono ?_
  rintro e w10 ⟨vs, rfl, hs, hb⟩
  obtain ⟨Xs, cs, hv, hl_, hc_⟩ := Kd.S_reads hs
  subst hv
  have HSs := Aside0.mk (S_iv hs HW.out.size)
  have HLs := Aside0.mk hl_
  have HDs := Aside0.mk (show w9.heap.size ≤ w10.heap.size from hb.size)
  replace HSw := Aside0.mk (Kd.S_below HSw.out hb)
  replace HSx := Aside0.mk (Kd.S_below HSx.out hb)
  replace HSy := Aside0.mk (Kd.S_below HSy.out hb)
  replace HSg := Aside0.mk (Kd.S_below HSg.out hb)
  replace HW := Aside0.mk (below_step HW.out hb)
  clear hs hb hl_ hc_
  go_wp2_with fail
  refine (laws_eqRecordS.calls KK1 _ _ a _ _ a true _ (Kd.S_reads' HSx.out).2.2 HLx.out (Kd.S_reads' HSs.out).2.2 HLs.out EA.out).mono ?_
  rintro e w11 ⟨rfl, hb⟩
  replace HSw := Aside0.mk (Kd.S_below HSw.out hb)
  replace HSx := Aside0.mk (Kd.S_below HSx.out hb)
  replace HSy := Aside0.mk (Kd.S_below HSy.out hb)
  replace HSg := Aside0.mk (Kd.S_below HSg.out hb)
  replace HSs := Aside0.mk (Kd.S_below HSs.out hb)
  replace HW := Aside0.mk (below_step HW.out hb)
  clear hb
  clear HSs HLs
  go_wp2_with fail
  refine (laws_toRecordS.calls KK1 A1 c1 bB b _ (Kd.C_below HB.out HW.out) HC1.out TB.out).mono ?_
  rintro e w12 ⟨vt, rfl, hs, hb⟩
  obtain ⟨Xt, ct, hv, hl_, hc_⟩ := Kd.S_reads hs
  subst hv
  have HSt := Aside0.mk (S_iv hs HW.out.size)
  have HLt := Aside0.mk hl_
  have HDt := Aside0.mk (show w11.heap.size ≤ w12.heap.size from hb.size)
  replace HSw := Aside0.mk (Kd.S_below HSw.out hb)
  replace HSx := Aside0.mk (Kd.S_below HSx.out hb)
  replace HSy := Aside0.mk (Kd.S_below HSy.out hb)
  replace HSg := Aside0.mk (Kd.S_below HSg.out hb)
  replace HW := Aside0.mk (below_step HW.out hb)
  clear hs hb hl_ hc_
  go_wp2_with fail
  refine (laws_eqRecordS.calls KK1 _ _ b _ _ b true _ (Kd.S_reads' HSy.out).2.2 HLy.out (Kd.S_reads' HSt.out).2.2 HLt.out EB.out).mono ?_
  rintro e w13 ⟨rfl, hb⟩
  replace HSw := Aside0.mk (Kd.S_below HSw.out hb)
  replace HSx := Aside0.mk (Kd.S_below HSx.out hb)
  replace HSy := Aside0.mk (Kd.S_below HSy.out hb)
  replace HSg := Aside0.mk (Kd.S_below HSg.out hb)
  replace HSt := Aside0.mk (Kd.S_below HSt.out hb)
  replace HW := Aside0.mk (below_step HW.out hb)
  clear hb
  clear HSt HLt
  go_wp2_with fail
  refine (laws_markRecordS.calls (fun k => w5.heap.size ≤ k ∧ k < w6.heap.size) _ a 1 w _ HW.out HSx.out (by omega) (by have := HT.out.ka; omega) (by have := HT.out.la; omega)).mono ?_
  rintro e w14 ⟨rfl, hs, hb, hk⟩
  replace HSw := Aside0.mk (S_kept HSw.out hk (fun k h1 h2 => by have e1 := HDw.out; have e2 := HDx.out; have e3 := HDy.out; have e4 := HDg.out; have e5 := h1.1; have e6 := h1.2; have e7 := h2.1; have e8 := h2.2; omega))
  replace HSy := Aside0.mk (S_kept HSy.out hk (fun k h1 h2 => by have e1 := HDw.out; have e2 := HDx.out; have e3 := HDy.out; have e4 := HDg.out; have e5 := h1.1; have e6 := h1.2; have e7 := h2.1; have e8 := h2.2; omega))
  replace HSg := Aside0.mk (S_kept HSg.out hk (fun k h1 h2 => by have e1 := HDw.out; have e2 := HDx.out; have e3 := HDy.out; have e4 := HDg.out; have e5 := h1.1; have e6 := h1.2; have e7 := h2.1; have e8 := h2.2; omega))
  replace HW := Aside0.mk hb
  clear hs hb hk HSx
  obtain ⟨m1, hm1⟩ : ∃ q, q = nextR a 1 := ⟨_, rfl⟩
  rw [← hm1]
  have Nm1 := Aside0.mk hm1
  have pm1 : 1 ≤ m1 := by rw [hm1, nextR_eq]; omega
  clear hm1
  go_wp2_with fail
  refine (laws_markRecordS.calls (fun k => w6.heap.size ≤ k ∧ k < w7.heap.size) _ b m1 w _ HW.out HSy.out (by omega) (by have := Nm1.out; rw [nextR_eq] at this; have := HT.out.ka; have := HT.out.kb; omega) (by have := HT.out.lb; omega)).mono ?_
  rintro e w15 ⟨rfl, hs, hb, hk⟩
  replace HSw := Aside0.mk (S_kept HSw.out hk (fun k h1 h2 => by have e1 := HDw.out; have e2 := HDx.out; have e3 := HDy.out; have e4 := HDg.out; have e5 := h1.1; have e6 := h1.2; have e7 := h2.1; have e8 := h2.2; omega))
  replace HSg := Aside0.mk (S_kept HSg.out hk (fun k h1 h2 => by have e1 := HDw.out; have e2 := HDx.out; have e3 := HDy.out; have e4 := HDg.out; have e5 := h1.1; have e6 := h1.2; have e7 := h2.1; have e8 := h2.2; omega))
  replace HW := Aside0.mk hb
  clear hs hb hk HSy
  obtain ⟨m2, hm2⟩ : ∃ q, q = nextR b m1 := ⟨_, rfl⟩
  rw [← hm2]
  have Nm2 := Aside0.mk hm2
  have pm2 : 1 ≤ m2 := by rw [hm2, nextR_eq]; omega
  clear hm2
  go_wp2_with fail
  refine (laws_eqRecordS.calls KK1 _ _ R _ _ R true _ (Kd.S_reads' HSg.out).2.2 HLg.out (Kd.S_reads' HSw.out).2.2 HLw.out ER.out).mono ?_
  rintro e w16 ⟨rfl, hb⟩
  replace HSw := Aside0.mk (Kd.S_below HSw.out hb)
  replace HSg := Aside0.mk (Kd.S_below HSg.out hb)
  replace HW := Aside0.mk (below_step HW.out hb)
  clear hb
  go_wp2_with fail
  refine (laws_markRecordS.calls (fun k => w7.heap.size ≤ k ∧ k < w8.heap.size) _ R 1 w _ HW.out HSg.out (by omega) (by have := HT.out.lR.2.1; omega) (by have := HT.out.lR.1; omega)).mono ?_
  rintro e w17 ⟨rfl, hs, hb, hk⟩
  replace HSw := Aside0.mk (S_kept HSw.out hk (fun k h1 h2 => by have e1 := HDw.out; have e2 := HDx.out; have e3 := HDy.out; have e4 := HDg.out; have e5 := h1.1; have e6 := h1.2; have e7 := h2.1; have e8 := h2.2; omega))
  replace HW := Aside0.mk hb
  have HSG := Aside0.mk hs
  clear hs hb hk HSg
  obtain ⟨m3, hm3⟩ : ∃ q, q = nextR R 1 := ⟨_, rfl⟩
  rw [← hm3]
  have Nm3 := Aside0.mk hm3
  have pm3 : 1 ≤ m3 := by rw [hm3, nextR_eq]; omega
  clear hm3
  have HLG := Aside0.mk (show (markR R 1).length ≤ cg by rw [markR_length]; exact HLg.out)
  go_wp2_with fail
  refine calls_of_args (args' := #[.slice Xg (markR R 1).length cg, .int .i64 1]) (by rw [markR_length]) ?_
  refine (laws_heldRecordS.calls KK1 _ _ (markR R 1) 1 (nextR R 1) _ (Kd.S_reads' HSG.out).2.2 HLG.out HR.out).mono ?_
  rintro e w18 ⟨rfl, hd⟩
  have hb := hd.below
  replace HSw := Aside0.mk (Kd.S_below HSw.out hb)
  replace HSG := Aside0.mk (Kd.S_below HSG.out hb)
  replace HW := Aside0.mk (below_step HW.out hb)
  clear hb hd
  rw [← Nm3.out]
  go_wp2_with fail
  refine (laws_toRecordS.calls KK1 A0 c0 aA a _ (Kd.C_below HA.out HW.out) HC0.out TA.out).mono ?_
  rintro e w19 ⟨vu, rfl, hs, hb⟩
  obtain ⟨Xu, cu, hv, hl_, hc_⟩ := Kd.S_reads hs
  subst hv
  have HSu := Aside0.mk (S_iv hs HW.out.size)
  have HLu := Aside0.mk hl_
  have HDu := Aside0.mk (show w18.heap.size ≤ w19.heap.size from hb.size)
  replace HSw := Aside0.mk (Kd.S_below HSw.out hb)
  replace HSG := Aside0.mk (Kd.S_below HSG.out hb)
  replace HW := Aside0.mk (below_step HW.out hb)
  clear hs hb hl_ hc_
  go_wp2_with fail
  refine (laws_toRecordS.calls KK1 A1 c1 bB b _ (Kd.C_below HB.out HW.out) HC1.out TB.out).mono ?_
  rintro e w20 ⟨vv, rfl, hs, hb⟩
  obtain ⟨Xv, cv, hv, hl_, hc_⟩ := Kd.S_reads hs
  subst hv
  have HSv := Aside0.mk (S_iv hs HW.out.size)
  have HLv := Aside0.mk hl_
  have HDv := Aside0.mk (show w19.heap.size ≤ w20.heap.size from hb.size)
  replace HSw := Aside0.mk (Kd.S_below HSw.out hb)
  replace HSG := Aside0.mk (Kd.S_below HSG.out hb)
  replace HSu := Aside0.mk (Kd.S_below HSu.out hb)
  replace HW := Aside0.mk (below_step HW.out hb)
  clear hs hb hl_ hc_
  go_wp2_with fail
  refine (impl_RecordsMerge.both KK1 _ _ a _ _ b (rowB a) (rowB b) ok _ (Kd.S_reads' HSu.out).2.2 HLu.out (Kd.S_reads' HSv.out).2.2 HLv.out VA.out VB.out LA.out LB.out HT.out.ho PA.out PB.out).mono ?_
  rintro e w21 ⟨vh, rfl, hs, hb⟩
  rw [← HT.out.hR] at hs
  obtain ⟨Xh, ch, hv, hl_, hc_⟩ := Kd.S_reads hs
  subst hv
  have HSh := Aside0.mk (S_iv hs HW.out.size)
  have HLh := Aside0.mk hl_
  have HDh := Aside0.mk (show w20.heap.size ≤ w21.heap.size from hb.size)
  replace HSw := Aside0.mk (Kd.S_below HSw.out hb)
  replace HSG := Aside0.mk (Kd.S_below HSG.out hb)
  replace HSu := Aside0.mk (Kd.S_below HSu.out hb)
  replace HSv := Aside0.mk (Kd.S_below HSv.out hb)
  replace HW := Aside0.mk (below_step HW.out hb)
  clear hs hb hl_ hc_
  clear HSu HLu HSv HLv
  go_wp2_with fail
  refine (laws_eqRecordS.calls KK1 _ _ R _ _ R true _ (Kd.S_reads' HSh.out).2.2 HLh.out (Kd.S_reads' HSw.out).2.2 HLw.out ER.out).mono ?_
  rintro e w22 ⟨rfl, hb⟩
  replace HSw := Aside0.mk (Kd.S_below HSw.out hb)
  replace HSG := Aside0.mk (Kd.S_below HSG.out hb)
  replace HSh := Aside0.mk (Kd.S_below HSh.out hb)
  replace HW := Aside0.mk (below_step HW.out hb)
  clear hb
  go_wp2_with fail
  refine calls_of_args (args' := #[.slice Xg (markR R 1).length cg, .int .i64 1]) (by rw [markR_length]) ?_
  refine (laws_heldRecordS.calls KK1 _ _ (markR R 1) 1 (nextR R 1) _ (Kd.S_reads' HSG.out).2.2 HLG.out HR.out).mono ?_
  rintro e w23 ⟨rfl, hd⟩
  have hb := hd.below
  replace HSw := Aside0.mk (Kd.S_below HSw.out hb)
  replace HSG := Aside0.mk (Kd.S_below HSG.out hb)
  replace HSh := Aside0.mk (Kd.S_below HSh.out hb)
  replace HW := Aside0.mk (below_step HW.out hb)
  clear hb hd
  rw [← Nm3.out]
  go_wp2
  go_ret
  exact ⟨rfl, HW.out⟩
end Go.Proofs.Ytlhbclblehmdbaa.PFnExactRecordsMerge
