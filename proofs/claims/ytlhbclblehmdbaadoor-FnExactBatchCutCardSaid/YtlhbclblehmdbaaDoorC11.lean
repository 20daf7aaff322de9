/- The contract of the law's markRecordS: every number, bool and byte of a row of records of the call's own is overwritten by what its place tells; nothing else is. -/
import Derived.Test.YtlhbclblehmdbaaDoorC10
set_option linter.unusedVariables false
set_option linter.unusedSimpArgs false
namespace Go.Proofs.YtlhbclblehmdbaaDoor.PFnExactBatchCut
open Go.RowKit Go.Proofs.YtlhbclblehmdbaaDoorW.PrintWords Go.Proofs.YtlhbclblehmdbaaDoorW.PrintLast Go.Proofs.YtlhbclblehmdbaaDoorW.PrintMore

section
variable {g n cap : Nat} {W : World} {base : Nat} {ok oki : Nat → Prop} {xs : List S41} {i : Int} {a0 a1 a2 a3 a4 a5 : Value}
theorem hput0 (h : Kd.H kd41 41 W base ok (.slice (some ⟨g, 0, none⟩) n cap) xs i oki [a0, a1, a2, a3, a4, a5]) (h0 : 0 ≤ i) (h1 : i < n) (b : Value) (hb : b.oneCell' = true) : Kd.H kd41 41 (W.setCell ⟨g, i.toNat * 6, none⟩ b) base ok (.slice (some ⟨g, 0, none⟩) n cap) xs i oki [b, a1, a2, a3, a4, a5] ∧ W.grownBy (W.setCell ⟨g, i.toNat * 6, none⟩ b) (some g) :=
  Kd.H_seg h h0 h1 (seg := [b]) (j := 0) (show 0 + 1 ≤ 6 by decide) (by simpa using hb)
theorem hput1 (h : Kd.H kd41 41 W base ok (.slice (some ⟨g, 0, none⟩) n cap) xs i oki [a0, a1, a2, a3, a4, a5]) (h0 : 0 ≤ i) (h1 : i < n) (b : Value) (hb : b.oneCell' = true) : Kd.H kd41 41 (W.setCell ⟨g, i.toNat * 6 + 1, none⟩ b) base ok (.slice (some ⟨g, 0, none⟩) n cap) xs i oki [a0, b, a2, a3, a4, a5] ∧ W.grownBy (W.setCell ⟨g, i.toNat * 6 + 1, none⟩ b) (some g) :=
  Kd.H_seg h h0 h1 (seg := [b]) (j := 1) (show 1 + 1 ≤ 6 by decide) (by simpa using hb)
theorem hput2 (h : Kd.H kd41 41 W base ok (.slice (some ⟨g, 0, none⟩) n cap) xs i oki [a0, a1, a2, a3, a4, a5]) (h0 : 0 ≤ i) (h1 : i < n) (b : Value) (hb : b.oneCell' = true) : Kd.H kd41 41 (W.setCell ⟨g, i.toNat * 6 + 2, none⟩ b) base ok (.slice (some ⟨g, 0, none⟩) n cap) xs i oki [a0, a1, b, a3, a4, a5] ∧ W.grownBy (W.setCell ⟨g, i.toNat * 6 + 2, none⟩ b) (some g) :=
  Kd.H_seg h h0 h1 (seg := [b]) (j := 2) (show 2 + 1 ≤ 6 by decide) (by simpa using hb)
theorem hput4 (h : Kd.H kd41 41 W base ok (.slice (some ⟨g, 0, none⟩) n cap) xs i oki [a0, a1, a2, a3, a4, a5]) (h0 : 0 ≤ i) (h1 : i < n) (b : Value) (hb : b.oneCell' = true) : Kd.H kd41 41 (W.setCell ⟨g, i.toNat * 6 + 4, none⟩ b) base ok (.slice (some ⟨g, 0, none⟩) n cap) xs i oki [a0, a1, a2, a3, b, a5] ∧ W.grownBy (W.setCell ⟨g, i.toNat * 6 + 4, none⟩ b) (some g) :=
  Kd.H_seg h h0 h1 (seg := [b]) (j := 4) (show 4 + 1 ≤ 6 by decide) (by simpa using hb)
theorem hcells (h : Kd.H kd41 41 W base ok (.slice (some ⟨g, 0, none⟩) n cap) xs i oki [a0, a1, a2, a3, a4, a5]) (h0 : 0 ≤ i) (h1 : i < n) : W.cell? ⟨g, i.toNat * 6, none⟩ = some a0 ∧ W.cell? ⟨g, i.toNat * 6 + 1, none⟩ = some a1 ∧ W.cell? ⟨g, i.toNat * 6 + 2, none⟩ = some a2 ∧ W.cell? ⟨g, i.toNat * 6 + 3, none⟩ = some a3 ∧ W.cell? ⟨g, i.toNat * 6 + 4, none⟩ = some a4 ∧ W.cell? ⟨g, i.toNat * 6 + 5, none⟩ = some a5 := by
  obtain ⟨_, _, _, _, _, hcc, _⟩ := Kd.H_raw h h0 h1
  exact ⟨hcc 0 _ rfl, hcc 1 _ rfl, hcc 2 _ rfl, hcc 3 _ rfl, hcc 4 _ rfl, hcc 5 _ rfl⟩
theorem hfroz (h : Kd.H kd41 41 W base ok (.slice (some ⟨g, 0, none⟩) n cap) xs i oki [a0, a1, a2, a3, a4, a5]) : ∀ q, W.frozen? ⟨g, q, none⟩ = false := by
  obtain ⟨_, f, hR⟩ := h
  obtain ⟨cells, hc⟩ := Kd.R_typed hR g (by simp [Value.ownBlock])
  exact blk_frozen hc
end
theorem set_mid {α : Type} (a : List α) (b : List α) (x : α) (n : Nat) (hn : a.length = n) (hb : b ≠ []) : (a ++ b).set n x = (a ++ [x]) ++ b.drop 1 := by
  subst hn
  cases b with
  | nil => exact absurd rfl hb
  | cons y t => simp
theorem bulk_at (l : List S41) (i : Nat) (x : S41) (hx : l[i]? = some x) : bulkR (l.take i) + (4 + x.f3.length + x.f5.length) ≤ bulkR l := by
  obtain ⟨hi, rfl⟩ := List.getElem?_eq_some_iff.1 hx
  have h := List.take_append_drop i l
  have h2 : bulkR (l.take i ++ l.drop i) = bulkR l := by rw [h]
  rw [bulkR_append, List.drop_eq_getElem_cons hi, bulkR_cons] at h2
  omega

set_option maxHeartbeats 4000000 in
set_option maxRecDepth 100000 in
theorem laws_markRecordS.calls (P0 : Nat → Prop) (u : Value) (l0 : List S41) (k : Int) (w0 w : World) (hB : Below w0.heap.size w0 w) (hS : Kd.S kd41 41 w w0.heap.size P0 u l0) (hk : 0 ≤ k) (hbk : k + bulkR l0 ≤ 4611686018427387904) (hl : l0.length ≤ 4611686018427387904) :
    Calls Tryd.prog 25 #[u, .int .i64 k] w fun e w' => e = .returned (.int .i64 (nextR l0 k)) ∧ Kd.S kd41 41 w' w0.heap.size (fun k_ => P0 k_ ∨ w.heap.size ≤ k_) u (markR l0 k) ∧ Below w0.heap.size w0 w' ∧ Kept w w' P0 := by
  have HB0 := Aside0.mk hB
  have HS0 := Aside0.mk hS
  have HBK := Aside0.mk hbk
  clear hB hS hbk
  obtain ⟨A, c, hu⟩ := Kd.S_slice HS0.out
  subst hu
  go_enter Tryd.func25, Tryd.ntmps25
  go_wp2
  go_loopw [1, 5] (fun v1 v5 wr => ∃ i : Int, v5 = .int .i64 i ∧ 0 ≤ i ∧ i ≤ (l0.length : Int) ∧ v1 = .int .i64 (nextR (l0.take i.toNat) k) ∧ Aside0 (Kd.S kd41 41 wr w0.heap.size (fun k_ => P0 k_ ∨ w.heap.size ≤ k_) (.slice A l0.length c) (markR (l0.take i.toNat) k ++ l0.drop i.toNat)) ∧ Aside0 (Kept w wr P0) ∧ Aside0 (Below w0.heap.size w0 wr)) (fun _ v5 _ => l0.length - (intOf v5).toNat)
  case atStart => exact ⟨0, rfl, by omega, by omega, by simp [nextR], ⟨by simpa [markR] using Kd.S_mono HS0.out (fun _ h => .inl h)⟩, ⟨Kept.refl _ _⟩, HB0⟩
  case round =>
    obtain ⟨i, rfl, hi0, hi1, rfl, HS, HK, HB⟩ := hrel
    by_cases hlt : i < (l0.length : Int)
    · have hle : i.toNat < l0.length := by omega
      obtain ⟨x, hx⟩ : ∃ x, l0[i.toNat]? = some x := ⟨_, List.getElem?_eq_getElem hle⟩
      have HX := Aside0.mk hx
      clear hx hle
      obtain ⟨q, hq⟩ : ∃ q, q = nextR (l0.take i.toNat) k := ⟨_, rfl⟩
      have HQ := Aside0.mk hq
      rw [← hq]
      clear hq
      have hq0 : 0 ≤ q := by rw [HQ.out, nextR_eq]; omega
      have hqb : q + 4 + x.f3.length + x.f5.length ≤ 4611686018427387904 := by
        have h1 := HBK.out
        have h2 := bulk_at l0 i.toNat x HX.out
        rw [HQ.out, nextR_eq]; omega
      have hll : (markR (l0.take i.toNat) k ++ l0.drop i.toNat).length = l0.length := by rw [List.length_append, markR_length, List.length_take, List.length_drop]; omega
      obtain ⟨g, cap, heq, hgb, hgl, cells, hgc⟩ := Kd.S_form HS.out (by rw [hll]; omega)
      rw [hll] at heq
      cases heq
      have HGB := Aside0.mk hgb
      clear hgb hgl hgc hll
      obtain ⟨oki, ce, hcl, hM, hcc, hfr, hoki, hH⟩ := Kd.S_elem HS.out z41 i hi0 hlt
      have hxe : (markR (l0.take i.toNat) k ++ l0.drop i.toNat).getD i.toNat z41 = x := by
        have hm : (markR (l0.take i.toNat) k).length = i.toNat := by rw [markR_length, List.length_take]; omega
        rw [List.getD_eq_getElem?_getD, List.getElem?_append_right (by omega), hm, Nat.sub_self, List.getElem?_drop, Nat.add_zero, HX.out]
        rfl
      rw [hxe] at hM
      obtain ⟨v3, v5, rfl, h3, h5⟩ := kd41_openM hM
      obtain ⟨B3, d3, rfl⟩ := Kd.R_slice h3
      obtain ⟨B5, d5, rfl⟩ := Kd.R_slice h5
      have HOK := Aside0.mk hoki
      have HPG := Aside0.mk ((Kd.S_R HS.out).1 g rfl)
      have HH := Aside0.mk hH
      have H3 := Aside0.mk h3
      have H5 := Aside0.mk h5
      clear hcl hM hcc hfr hoki hH hxe h3 h5 HS
      obtain ⟨hx0, hx1, hx2, hx3, hx4, hx5⟩ := hcells HH.out hi0 hlt
      have hf := hfroz HH.out
      go_upto_region 11 with (first | ((with_reducible refine gate_store (t := 3) (p := 16) rfl ?_); refine store_event (t := 3) (p := 16) (v := ?vo16) (w1 := wr.setCell ⟨g, i.toNat * 6, none⟩ (.int .i64 q)) ?hg ?ho ?hn ?hr ?_; (case ho => rfl); (case hg => rfl); (case hn => rfl); (case hr => first | (go_simp; done) | (go_simp; rfl)); intro wa hw; clear hx0 hx1 hx2 hx3 hx4 hx5 hf; have hp_ := hput0 HH.out hi0 hlt (.int .i64 q) rfl; rw [← hw] at hp_; have N1 := Aside0.mk hp_.1; have N2 := Aside0.mk (Kd.R_grown H3.out hp_.2 (fun k_ hk_ he_ => by have h_ := (HOK.out k_ hk_.1).2; injection he_ with he_; exact h_ he_)); have N3 := Aside0.mk (Kd.R_grown H5.out hp_.2 (fun k_ hk_ he_ => by have h_ := (HOK.out k_ hk_.1).2; injection he_ with he_; exact h_ he_)); have N4 := Aside0.mk (Kept.of_grown (S := P0) hp_.2 HK.out (fun k_ he_ => by injection he_ with he_; rw [← he_]; exact HPG.out)); have N5 := Aside0.mk (pw_below_grown HB.out (some g) HB.out.size hp_.2 (fun k_ he_ => by injection he_ with he_; rw [← he_]; exact HGB.out)); clear hp_ hw HH H3 H5 HK HB; have HH := N1; have H3 := N2; have H5 := N3; have HK := N4; have HB := N5; clear N1 N2 N3 N4 N5; obtain ⟨hx0, hx1, hx2, hx3, hx4, hx5⟩ := hcells HH.out hi0 hlt; have hf := hfroz HH.out) | ((with_reducible refine gate_store (t := 3) (p := 23) rfl ?_); refine store_event (t := 3) (p := 23) (v := ?vo23) (w1 := wa.setCell ⟨g, i.toNat * 6 + 1, none⟩ (.int .i64 (q + 1))) ?hg ?ho ?hn ?hr ?_; (case ho => rfl); (case hg => rfl); (case hn => rfl); (case hr => first | (go_simp; done) | (go_simp; rfl)); intro wb hw; clear hx0 hx1 hx2 hx3 hx4 hx5 hf; have hp_ := hput1 HH.out hi0 hlt (.int .i64 (q + 1)) rfl; rw [← hw] at hp_; have N1 := Aside0.mk hp_.1; have N2 := Aside0.mk (Kd.R_grown H3.out hp_.2 (fun k_ hk_ he_ => by have h_ := (HOK.out k_ hk_.1).2; injection he_ with he_; exact h_ he_)); have N3 := Aside0.mk (Kd.R_grown H5.out hp_.2 (fun k_ hk_ he_ => by have h_ := (HOK.out k_ hk_.1).2; injection he_ with he_; exact h_ he_)); have N4 := Aside0.mk (Kept.of_grown (S := P0) hp_.2 HK.out (fun k_ he_ => by injection he_ with he_; rw [← he_]; exact HPG.out)); have N5 := Aside0.mk (pw_below_grown HB.out (some g) HB.out.size hp_.2 (fun k_ he_ => by injection he_ with he_; rw [← he_]; exact HGB.out)); clear hp_ hw HH H3 H5 HK HB; have HH := N1; have H3 := N2; have H5 := N3; have HK := N4; have HB := N5; clear N1 N2 N3 N4 N5; obtain ⟨hx0, hx1, hx2, hx3, hx4, hx5⟩ := hcells HH.out hi0 hlt; have hf := hfroz HH.out) | ((with_reducible refine gate_store (t := 4) (p := 32) rfl ?_); refine store_event (t := 4) (p := 32) (v := ?vo32) (w1 := wb.setCell ⟨g, i.toNat * 6 + 2, none⟩ (.bool ((q + 1 + 1) % 3 == 0))) ?hg ?ho ?hn ?hr ?_; (case ho => rfl); (case hg => rfl); (case hn => rfl); (case hr => first | (go_simp; done) | (go_simp; rfl)); intro wc hw; clear hx0 hx1 hx2 hx3 hx4 hx5 hf; have hp_ := hput2 HH.out hi0 hlt (.bool ((q + 1 + 1) % 3 == 0)) rfl; rw [← hw] at hp_; have N1 := Aside0.mk hp_.1; have N2 := Aside0.mk (Kd.R_grown H3.out hp_.2 (fun k_ hk_ he_ => by have h_ := (HOK.out k_ hk_.1).2; injection he_ with he_; exact h_ he_)); have N3 := Aside0.mk (Kd.R_grown H5.out hp_.2 (fun k_ hk_ he_ => by have h_ := (HOK.out k_ hk_.1).2; injection he_ with he_; exact h_ he_)); have N4 := Aside0.mk (Kept.of_grown (S := P0) hp_.2 HK.out (fun k_ he_ => by injection he_ with he_; rw [← he_]; exact HPG.out)); have N5 := Aside0.mk (pw_below_grown HB.out (some g) HB.out.size hp_.2 (fun k_ he_ => by injection he_ with he_; rw [← he_]; exact HGB.out)); clear hp_ hw HH H3 H5 HK HB; have HH := N1; have H3 := N2; have H5 := N3; have HK := N4; have HB := N5; clear N1 N2 N3 N4 N5; obtain ⟨hx0, hx1, hx2, hx3, hx4, hx5⟩ := hcells HH.out hi0 hlt; have hf := hfroz HH.out) | (go_at_call 45; refine (laws_markIntS.calls (x.f3.length + 1) (fun k_ => some k_ = (Value.ownBlock (.slice B3 x.f3.length d3))) _ x.f3 (q + 1 + 1 + 1) (q + 1 + 1 + 1 + x.f3.length) (markI x.f3 (q + 1 + 1 + 1)) w0 _ HB.out (Kd.R_tight rfl H3.out) (markInt _ _ _ (by omega) (by omega) (by omega))).mono ?_; rintro e wd ⟨rfl, hr, hb, hk2⟩; clear hx0 hx1 hx2 hx3 hx4 hx5 hf; have N1 := Aside0.mk (Kd.H_step HH.out (fun k_ hk_ hn_ hlt_ => hk2.2 k_ hlt_ (fun he_ => hn_ (H3.out.1 k_ he_.symm).1))); have N2 := Aside0.mk (Kd.R_mono (Kd.R_tight rfl hr) (fun k_ hk_ => H3.out.1 k_ hk_.symm)); have N3 := Aside0.mk (Kd.R_step H5.out (fun k_ hk_ hlt_ => hk2.2 k_ hlt_ (fun he_ => hk_.2 he_))); have N4 := Aside0.mk (HK.out.then_ hk2 (fun k_ hk_ => (HOK.out k_ (H3.out.1 k_ hk_.symm).1).1)); have N5 := Aside0.mk hb; clear hr hb hk2 HH H3 H5 HK HB; have HH := N1; have H3 := N2; have H5 := N3; have HK := N4; have HB := N5; clear N1 N2 N3 N4 N5; obtain ⟨hx0, hx1, hx2, hx3, hx4, hx5⟩ := hcells HH.out hi0 hlt; have hf := hfroz HH.out))
      go_wp2_with (first | ((with_reducible refine gate_store (t := 4) (p := 48) rfl ?_); refine store_event (t := 4) (p := 48) (v := ?vo48) (w1 := wd.setCell ⟨g, i.toNat * 6 + 4, none⟩ (.bool ((q + 1 + 1 + 1 + ↑x.f3.length) % 3 == 0))) ?hg ?ho ?hn ?hr ?_; (case ho => rfl); (case hg => rfl); (case hn => rfl); (case hr => first | (go_simp; done) | (go_simp; rfl)); intro we hw; clear hx0 hx1 hx2 hx3 hx4 hx5 hf; have hp_ := hput4 HH.out hi0 hlt (.bool ((q + 1 + 1 + 1 + ↑x.f3.length) % 3 == 0)) rfl; rw [← hw] at hp_; have N1 := Aside0.mk hp_.1; have N2 := Aside0.mk (Kd.R_grown H3.out hp_.2 (fun k_ hk_ he_ => by have h_ := (HOK.out k_ hk_.1).2; injection he_ with he_; exact h_ he_)); have N3 := Aside0.mk (Kd.R_grown H5.out hp_.2 (fun k_ hk_ he_ => by have h_ := (HOK.out k_ hk_.1).2; injection he_ with he_; exact h_ he_)); have N4 := Aside0.mk (Kept.of_grown (S := P0) hp_.2 HK.out (fun k_ he_ => by injection he_ with he_; rw [← he_]; exact HPG.out)); have N5 := Aside0.mk (pw_below_grown HB.out (some g) HB.out.size hp_.2 (fun k_ he_ => by injection he_ with he_; rw [← he_]; exact HGB.out)); clear hp_ hw HH H3 H5 HK HB; have HH := N1; have H3 := N2; have H5 := N3; have HK := N4; have HB := N5; clear N1 N2 N3 N4 N5; obtain ⟨hx0, hx1, hx2, hx3, hx4, hx5⟩ := hcells HH.out hi0 hlt; have hf := hfroz HH.out) | (go_at_call 45; refine (laws_markIntS.calls (x.f5.length + 1) (fun k_ => some k_ = (Value.ownBlock (.slice B5 x.f5.length d5))) _ x.f5 (q + 1 + 1 + 1 + ↑x.f3.length + 1) (q + 1 + 1 + 1 + ↑x.f3.length + 1 + x.f5.length) (markI x.f5 (q + 1 + 1 + 1 + ↑x.f3.length + 1)) w0 _ HB.out (Kd.R_tight rfl H5.out) (markInt _ _ _ (by omega) (by omega) (by omega))).mono ?_; rintro e wf ⟨rfl, hr, hb, hk2⟩; clear hx0 hx1 hx2 hx3 hx4 hx5 hf; have N1 := Aside0.mk (Kd.H_step HH.out (fun k_ hk_ hn_ hlt_ => hk2.2 k_ hlt_ (fun he_ => hn_ (H5.out.1 k_ he_.symm).1))); have N2 := Aside0.mk (Kd.R_mono (Kd.R_tight rfl hr) (fun k_ hk_ => H5.out.1 k_ hk_.symm)); have N3 := Aside0.mk (Kd.R_step H3.out (fun k_ hk_ hlt_ => hk2.2 k_ hlt_ (fun he_ => hk_.2 he_))); have N4 := Aside0.mk (HK.out.then_ hk2 (fun k_ hk_ => (HOK.out k_ (H5.out.1 k_ hk_.symm).1).1)); have N5 := Aside0.mk hb; clear hr hb hk2 HH H3 H5 HK HB; have HH := N1; have H5 := N2; have H3 := N3; have HK := N4; have HB := N5; clear N1 N2 N3 N4 N5; obtain ⟨hx0, hx1, hx2, hx3, hx4, hx5⟩ := hcells HH.out hi0 hlt; have hf := hfroz HH.out))
      go_roundw
      case measure => simp [intOf]; omega
      case rel =>
        have e1 : (i + 1).toNat = i.toNat + 1 := by omega
        have e2 : l0.take (i.toNat + 1) = l0.take i.toNat ++ [x] := by rw [List.take_add_one, HX.out]; rfl
        have e3 : nextR (l0.take (i + 1).toNat) k = q + 1 + 1 + 1 + x.f3.length + 1 + x.f5.length := by rw [e1, e2, nextR_append, ← HQ.out]; simp only [nextR, next1]; omega
        have hne : l0.drop i.toNat ≠ [] := by rw [List.drop_eq_getElem_cons (by omega)]; exact List.cons_ne_nil _ _
        have hmk : mark1 x q = ⟨q, q + 1, (q + 1 + 1) % 3 == 0, markI x.f3 (q + 1 + 1 + 1), (q + 1 + 1 + 1 + (x.f3.length : Int)) % 3 == 0, markI x.f5 (q + 1 + 1 + 1 + (x.f3.length : Int) + 1)⟩ := by
          unfold mark1
          rw [show q + 2 = q + 1 + 1 from by omega, show q + 3 = q + 1 + 1 + 1 from by omega, show q + 4 + (x.f3.length : Int) = q + 1 + 1 + 1 + (x.f3.length : Int) + 1 from by omega]
        have e4 : markR (l0.take (i + 1).toNat) k ++ l0.drop (i + 1).toNat = (markR (l0.take i.toNat) k ++ l0.drop i.toNat).set i.toNat (mark1 x q) := by
          rw [set_mid _ _ _ _ (by rw [markR_length, List.length_take]; omega) hne, e1, e2, markR_append, ← HQ.out, List.drop_drop]
          simp [markR]
        refine ⟨i + 1, by first | rfl | (simp; done), by omega, by omega, by rw [e3], ⟨?_⟩, HK, HB⟩
        rw [e4, hmk]
        have h3 := H3.out
        have h5 := H5.out
        have l3 : (markI x.f3 (q + 1 + 1 + 1)).length = x.f3.length := markI_length _ _
        have l5 : (markI x.f5 (q + 1 + 1 + 1 + (x.f3.length : Int) + 1)).length = x.f5.length := markI_length _ _
        exact Kd.H_back HH.out (kd41_mkM _ _ oki ⟨q, q + 1, (q + 1 + 1) % 3 == 0, markI x.f3 (q + 1 + 1 + 1), (q + 1 + 1 + 1 + (x.f3.length : Int)) % 3 == 0, markI x.f5 (q + 1 + 1 + 1 + (x.f3.length : Int) + 1)⟩ h3 h5) (fun _ h_ => h_)
    · have e0 : i = (l0.length : Int) := by omega
      subst e0
      go_wp2
      go_ret
      have h1 := HS.out
      rw [Int.toNat_natCast, List.take_of_length_le (Nat.le_refl _), List.drop_length, List.append_nil] at h1
      exact ⟨by simp, h1, HB.out, HK.out⟩
end Go.Proofs.YtlhbclblehmdbaaDoor.PFnExactBatchCut
