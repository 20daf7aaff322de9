/- slices.Insert of one group where there is no room; the three roads in one. -/
import Derived.Test.YtlhbclblehmdbaaG7
import Derived.Lib.JoinLaws
import Derived.Lib.Walk
set_option linter.unusedVariables false
set_option linter.unusedSimpArgs false
namespace Go.Proofs.Ytlhbclblehmdbaa.PFnExactGroupsPut
open Go.RowKit Go.Proofs.YtlhbclblehmdbaaW.PrintWords Go.Proofs.YtlhbclblehmdbaaW.PrintLast Go.Proofs.YtlhbclblehmdbaaW.PrintMore

theorem take_two2 {L F D Y : List Value} {i n : Nat} (hF : L.take (2 * i) = F.take (2 * i)) (hFl : F.length = 2 * n) (hn : 2 * n + 2 ≤ L.length) (hi : i ≤ n) (hD : D = F.drop (2 * i)) (hY : Y.length = 2) :
    (splice (splice L (2 * i) Y) (2 * i + 2) D).take (2 * n + 2) = F.take (2 * i) ++ Y ++ F.drop (2 * i) ∧ (splice (splice L (2 * i) Y) (2 * i + 2) D).length = L.length := by
  have hDl : D.length = 2 * n - 2 * i := by rw [hD, List.length_drop, hFl]
  have lt : (F.take (2 * i)).length = 2 * i := by rw [List.length_take, hFl]; omega
  have e1 : splice L (2 * i) Y = (F.take (2 * i) ++ Y) ++ L.drop (2 * i + 2) := by unfold splice; rw [hF, hY, List.append_assoc]
  have l1 : (F.take (2 * i) ++ Y).length = 2 * i + 2 := by rw [List.length_append, lt, hY]
  have e2 : (splice L (2 * i) Y).take (2 * i + 2) = F.take (2 * i) ++ Y := by rw [e1]; exact List.take_left' l1
  have e3 : (splice L (2 * i) Y).drop (2 * i + 2 + D.length) = L.drop (2 * n + 2) := by
    rw [e1, ← List.drop_drop, List.drop_left' l1, List.drop_drop]
    congr 1
    omega
  have e4 : splice (splice L (2 * i) Y) (2 * i + 2) D = (F.take (2 * i) ++ Y ++ D) ++ L.drop (2 * n + 2) := by
    show (splice L (2 * i) Y).take (2 * i + 2) ++ (D ++ (splice L (2 * i) Y).drop (2 * i + 2 + D.length)) = _
    rw [e2, e3, List.append_assoc, List.append_assoc, List.append_assoc]
  refine ⟨?_, ?_⟩
  · rw [e4, ← hD]
    refine List.take_left' ?_
    simp only [List.length_append, lt, hY, hDl]
    omega
  · rw [e4]
    simp only [List.length_append, lt, hY, hDl, List.length_drop]
    omega

set_option maxHeartbeats 4000000 in
set_option maxRecDepth 100000 in
/-- There is no room: a new row. -/
theorem slices_Insert.grow (base g vb i : Nat) (l0 : List S34) (y : S34) (w0 w : World) (hR : Kd.R k34 34 w base (fun _ => True) (.slice (some ⟨g, 0, none⟩) l0.length l0.length) l0) (hi : i < l0.length) (hl : l0.length < 1099511627776)
    (hv : w.heap[vb]? = some (.cells #[.string y.f0, .int .i64 y.f1] 34 (0, 0))) (hB : Below base w0 w) (hbase : base ≤ w.heap.size) :
    Calls Try.prog 67 #[.slice (some ⟨g, 0, none⟩) l0.length l0.length, .int .i64 i, .slice (some ⟨vb, 0, none⟩) 1 1] w fun e w' => ∃ v' : Value, e = .returned v' ∧ Kd.R k34 34 w' base (fun _ => True) v' (insAt l0 i y) ∧ Below base w0 w' ∧ w.grownBy w' none := by
  have hu34 := Try.underlying34
  obtain ⟨cur, hb, hg, hcs, ht⟩ : ∃ cur : List Value, base ≤ g ∧ w.heap[g]? = some (.cells cur.toArray 34 (0, 0)) ∧ cur.length = l0.length * 2 ∧ cur = flat l0 := by
    rcases (R_flat hR).2 with ⟨h, _⟩ | ⟨g', cap, cur, h, h1, h2, h3, h4, h5, h6⟩
    · cases h
    · injection h with ha hn hc
      injection ha with ha
      injection ha with ha
      subst ha; subst hc
      have h5' : cur.toList.length = l0.length * 2 := by simpa using h5
      exact ⟨cur.toList, h1, by simpa using h2, h5', by rw [← h6, ← h5', List.take_length]⟩
  subst ht
  obtain ⟨n, hn⟩ : ∃ n, n = l0.length := ⟨_, rfl⟩
  obtain ⟨i0, hi0, hz0, hzs, hzb⟩ : ∃ i0, Try.prog.info? 34 = some i0 ∧ i0.zero = some (.agg #[(.string ⟨#[]⟩), (.int .i64 0)]) ∧ i0.size = 2 ∧ i0.bytes = 24 := by
    obtain ⟨i0, h0, h1⟩ := Option.map_eq_some_iff.1 info34
    simp only [Prod.mk.injEq] at h1
    exact ⟨i0, h0, h1.1, h1.2.1, h1.2.2⟩
  have hold : (Builtin.firstCells i0.size i (.slice (some ⟨g, 0, none⟩) i l0.length)).run Try.prog w.drew = .ok ((flat l0).take (2 * i)).toArray w.drew := by
    rw [hzs]
    refine run_firstCells_some w.drew 2 i ⟨g, 0, none⟩ i l0.length ((flat l0).take (2 * i)) (by rw [List.length_take, flat_length]; omega) (fun j v hj => ?_)
    rw [Addr.add_lit]
    rw [List.getElem?_take] at hj
    split at hj
    · show w.cell? _ = _
      simpa [World.cell?, hg] using hj
    · cases hj
  obtain ⟨G, hG⟩ : ∃ G, G = grownCap w (l0.length + 1) l0.length 34 := ⟨_, rfl⟩
  have hGn : l0.length + 1 ≤ G := by rw [hG]; exact grownCap_ge w _ _ _
  have hG63 : G ≤ maxLen := by rw [hG]; exact grownCap_le_maxLen w (l0.length + 1) l0.length 34 (by unfold maxLen; omega)
  obtain ⟨ROW, hROW⟩ : ∃ ROW : Array Value, ROW = ((flat l0).take (2 * i)).toArray ++ Builtin.zeroCells (Value.agg #[(.string ⟨#[]⟩), (.int .i64 0)]).cells (l0.length + 1 - i) ++ Builtin.zeroCells (Value.agg #[(.string ⟨#[]⟩), (.int .i64 0)]).cells (G - (l0.length + 1)) := ⟨_, rfl⟩
  have hkk : (l0.length : Int) + 1 - (i : Int) = ((l0.length + 1 - i : Nat) : Int) := by omega
  have hrz : ∀ ty, (Builtin.append_ #[32, 3] ty #[.slice (some ⟨g, 0, none⟩) i l0.length, .int .i64 ((l0.length : Int) + 1 - (i : Int))]).run Try.prog w =
      .ok (.slice (some ⟨w.heap.size, 0, none⟩) (l0.length + 1) G) (w.drew.alloc (.cells ROW 34)) := fun ty => by
    have h := Lib.run_append_grow_zeros w 32 3 ty 34 i0 _ .i64 .i64 Try.underlying32 Try.underlying3 hi0 hz0 (some ⟨g, 0, none⟩) i l0.length _ hold (l0.length + 1 - i) (by omega) (by omega) (by omega) (by omega) (by rw [hzb]; omega) (by rw [hzb, show i + (l0.length + 1 - i) = l0.length + 1 by omega]; exact growslice_fits (by omega) (by omega))
    rw [show i + (l0.length + 1 - i) = l0.length + 1 by omega] at h
    rw [hkk, hROW, hG]
    exact h
  have hRs : ROW.toList.length = G * 2 := by rw [hROW]; simp [Builtin.zeroCells, Value.cells, flat_length]; omega
  have hRt : ROW.toList.take (2 * i) = (flat l0).take (2 * i) := by
    rw [hROW]
    simp only [Array.toList_append, List.append_assoc]
    exact List.take_left' (by rw [List.length_take, flat_length]; omega)
  obtain ⟨W1, hW1⟩ : ∃ W1, W1 = w.drew.alloc (.cells ROW 34) := ⟨_, rfl⟩
  rw [← hW1] at hrz
  have HN := Aside0.mk (show W1.heap[w.heap.size]? = some (.cells ROW.toList.toArray 34 (0, 0)) by rw [hW1]; exact heap_alloc_new w.drew _)
  have G1 := Aside0.mk (show w.grownBy W1 none by rw [hW1]; exact ⟨rfl, rfl, rfl, by simp, fun k hk _ => heap_alloc_old w.drew _ hk⟩)
  have HRS := Aside0.mk hRs
  have HRT := Aside0.mk hRt
  have HB := Aside0.mk hB
  have HV := Aside0.mk hv
  have HG := Aside0.mk hg
  have HBS := Aside0.mk hbase
  have HG63 := Aside0.mk hG63
  clear hR hB hv hg hb hold hkk hRs hRt hW1 hROW hcs hi0 hz0 hzs hzb hn n i0 hG hG63 hbase
  have hNe : vb ≠ w.heap.size ∧ g ≠ w.heap.size := ⟨Nat.ne_of_lt (Array.getElem?_eq_some_iff.1 HV.out).1, Nat.ne_of_lt (Array.getElem?_eq_some_iff.1 HG.out).1⟩
  have HNe := Aside0.mk hNe
  have HBN := Aside0.mk (show base ≤ w.heap.size from HBS.out)
  clear hNe
  obtain ⟨N, hN⟩ : ∃ N, N = w.heap.size := ⟨_, rfl⟩
  rw [← hN] at hrz HN HNe HBN
  have HNN := Aside0.mk (show ∀ k, k < w.heap.size → some k ≠ some N from fun k hk h => by rw [hN] at h; injection h; omega)
  clear hN
  obtain ⟨RL, hRL⟩ : ∃ RL, RL = ROW.toList := ⟨_, rfl⟩
  rw [← hRL] at HN HRS HRT
  clear hRL
  have hgn := hGn
  have HC1 := Aside0.mk (show ∀ j v, [Value.string y.f0, .int .i64 y.f1][j]? = some v → W1.cell? ((⟨vb, 0, none⟩ : Addr).add j) = some v from fun j v hj => by
    have hvb : W1.heap[vb]? = w.heap[vb]? := G1.out.block vb (Array.getElem?_eq_some_iff.1 HV.out).1 (by simp)
    rw [Addr.add_lit]
    have := blk_cell (hvb.trans HV.out) j
    simpa [← hj] using this)
  have HFIT1 := Aside0.mk (show i * 2 + [Value.string y.f0, .int .i64 y.f1].length ≤ RL.length by rw [HRS.out]; simp; omega)
  have HM1 := Aside0.mk (show Nat.min 1 (l0.length + 1 - i) = 1 by simp only [Nat.min_def]; split <;> omega)
  have mixed : Try.prog.follows .mixedOrders = true := by kernel_rfl
  have hz2 : ¬ ((i : Int) = (l0.length : Int)) := by omega
  have hin : i ≤ l0.length := by omega
  have hw1 : IntKind.i64.wrap ((i : Int) + 1) = (i : Int) + 1 := by rw [IntKind.wrap_i64]; omega
  have hb1 : (0 : Int) ≤ (i : Int) + 1 := by omega
  have htn : ((i : Int) + 1).toNat = i + 1 := by omega
  have hb3 : (i : Int) ≤ (l0.length : Int) + 1 := by omega
  have hci : ¬ (l0.length = i) := by omega
  have hGi : ¬ (G = i) := by omega
  have hGi1 : ¬ (G = i + 1) := by omega
  go_enter Try.func67, Try.ntmps67
  go_upto_region 11 with (first
    | ((with_reducible refine gate_dst (N := 40) rfl ?_); refine Lib.wpList_append_run _ rfl _ _ _ _ rfl _ _ rfl rfl _ _ (hrz _) ?_)
    | ((with_reducible refine gate_dst (N := 45) rfl ?_); refine wpList_copyK rfl (.tmp 43) (.tmp 44) 32 32 rfl 34 2 Try.underlying32 size34 N (i * 2) RL 34 [.string y.f0, .int .i64 y.f1] 1 ⟨vb, 0, none⟩ (l0.length + 1 - i) (G - i) 1 1 (by simp [Act.eval, Act.put]) (by simp [Act.eval, Act.put]) HN.out HM1.out rfl HC1.out HFIT1.out (by intro v hv; simp at hv; rcases hv with rfl | rfl <;> rfl) ?_; intro w2 hg2 hb2))
  obtain ⟨D, hD⟩ : ∃ D, D = (flat l0).drop (2 * i) := ⟨_, rfl⟩
  have HD := Aside0.mk hD
  have hDl : D.length = (l0.length - i) * 2 := by rw [hD, List.length_drop, flat_length]; omega
  have HDL := Aside0.mk hDl
  have HSRC := Aside0.mk (show ∀ j v, D[j]? = some v → w2.drew.cell? ((⟨g, i * 2, none⟩ : Addr).add j) = some v from fun j v hj => by
    have h1 : (flat l0)[2 * i + j]? = some v := by rwa [hD, List.getElem?_drop] at hj
    have hlt : g < w.heap.size := (Array.getElem?_eq_some_iff.1 HG.out).1
    have hgg : w2.heap[g]? = w.heap[g]? := (hb2.out.block g (Nat.lt_of_lt_of_le hlt G1.out.size) (by simpa using HNe.out.2)).trans (G1.out.block g hlt (by simp))
    rw [Addr.add_lit]
    show w2.cell? _ = _
    rw [Nat.mul_comm i 2]
    simpa [World.cell?, hgg, HG.out] using h1)
  have hcl : (splice RL (i * 2) [Value.string y.f0, .int .i64 y.f1]).length = RL.length := length_splice _ _ _ HFIT1.out
  have HFIT := Aside0.mk (show (i + 1) * 2 + D.length ≤ (splice RL (i * 2) [Value.string y.f0, .int .i64 y.f1]).length by rw [hcl, hDl, HRS.out]; omega)
  have H1 := Aside0.mk (show ∀ v ∈ D, v.oneCell' = true from fun v hv => flat_one l0 v (by rw [hD] at hv; exact List.mem_of_mem_drop hv))
  have HM := Aside0.mk (show Nat.min (l0.length - i) (l0.length - i) = l0.length - i by simp only [Nat.min_def]; split <;> omega)
  clear hD hDl hcl
  go_region_law_o (refine step_copyK rfl (.tmp 50) (.tmp 53) 32 32 rfl 34 2 Try.underlying32 size34 N ((i + 1) * 2) (splice RL (i * 2) [Value.string y.f0, .int .i64 y.f1]) 34 D (l0.length - i) ⟨g, i * 2, none⟩ (l0.length - i) (G - (i + 1)) (l0.length - i) (l0.length - i) (by simp [Act.eval, Act.put]) (by simp [Act.eval, Act.put]) hg2.out HM.out HDL.out HSRC.out HFIT.out H1.out ?_; intro w3 hg3 hb3)
  go_wp2
  go_ret
  obtain ⟨e1, e2⟩ := take_two2 HRT.out (flat_length l0) (by rw [HRS.out]; omega) hin HD.out (Y := [Value.string y.f0, .int .i64 y.f1]) rfl
  have ex : (i + 1) * 2 = 2 * i + 2 := by omega
  have hfl : flat (insAt l0 i y) = (flat l0).take (2 * i) ++ [Value.string y.f0, .int .i64 y.f1] ++ (flat l0).drop (2 * i) := by
    rw [insAt, flat_append, flat_append, ← flat_take, ← flat_drop]; rfl
  have hln : (insAt l0 i y).length = l0.length + 1 := by simp [insAt]; omega
  have hg3' := hg3.out
  rw [ex, Nat.mul_comm i 2] at hg3'
  have G3 : w.grownBy w3 none := ⟨hb3.out.os.trans (hb2.out.os.trans G1.out.os), hb3.out.tape.trans (hb2.out.tape.trans G1.out.tape), hb3.out.output.trans (hb2.out.output.trans G1.out.output), Nat.le_trans G1.out.size (Nat.le_trans hb2.out.size hb3.out.size), fun k hk _ => by
    have hkN : some k ≠ some N := HNN.out k hk
    exact (hb3.out.block k (Nat.lt_of_lt_of_le (Nat.lt_of_lt_of_le hk G1.out.size) hb2.out.size) hkN).trans ((hb2.out.block k (Nat.lt_of_lt_of_le hk G1.out.size) hkN).trans (G1.out.block k hk (by simp)))⟩
  refine ⟨_, rfl, flat_R ?_ (fun _ _ => trivial), HB.out.grown G3 HBS.out (by simp), G3⟩
  show w3.ownsRow base 34 2 (.slice (some ⟨N, 0, none⟩) (l0.length + 1) G) (insAt l0 i y).length (flat (insAt l0 i y))
  rw [hln, hfl]
  refine ⟨by rw [← hfl, flat_length, hln]; omega, .inr ⟨N, G, _, rfl, HBN.out, hg3', hgn, HG63.out, by simpa [e2] using HRS.out, ?_⟩⟩
  rw [List.toList_toArray, ← e1]
  congr 1
  omega

/-- One group put in before place i. -/
theorem slices_Insert.calls (base : Nat) (v0 : Value) (vb i : Nat) (l0 : List S34) (y : S34) (w0 w : World) (hR : Kd.R k34 34 w base (fun _ => True) v0 l0) (hi : i ≤ l0.length) (hl : l0.length < 1099511627776)
    (hv : w.heap[vb]? = some (.cells #[.string y.f0, .int .i64 y.f1] 34 (0, 0))) (hne : v0.ownBlock ≠ some vb) (hB : Below base w0 w) (hbase : base ≤ w.heap.size) :
    Calls Try.prog 67 #[v0, .int .i64 i, .slice (some ⟨vb, 0, none⟩) 1 1] w fun e w' => ∃ v' : Value, e = .returned v' ∧ Kd.R k34 34 w' base (fun _ => True) v' (insAt l0 i y) ∧ Below base w0 w' ∧ w.grownBy w' v0.ownBlock := by
  rcases Nat.lt_or_ge i l0.length with hlt | hge
  · obtain ⟨g, c, rfl, hb, hgl, _⟩ := Kd.R_form hR (by omega)
    obtain ⟨A, c', e, hc, _⟩ := Kd.R_reads hR
    injection e with _ _ e
    subst e
    have hc63 : c ≤ 9223372036854775807 := by
      rcases (R_flat hR).2 with ⟨h, _⟩ | ⟨g', cap, cur, h, h1, h2, h3, h4, h5, h6⟩
      · cases h
      · injection h with _ _ h
        subst h
        unfold maxLen at h4
        omega
    by_cases hr : l0.length + 1 ≤ c
    · refine (slices_Insert.room base g c vb i l0 y w0 w hR hlt hr hc63 hl hv (fun h => hne (by rw [h]; rfl)) hB).mono ?_
      rintro e w' ⟨v', rfl, h1, h2, h3⟩
      exact ⟨v', rfl, h1, h2, h3⟩
    · obtain rfl : c = l0.length := by omega
      refine (slices_Insert.grow base g vb i l0 y w0 w hR hlt hl hv hB hbase).mono ?_
      rintro e w' ⟨v', rfl, h1, h2, h3⟩
      exact ⟨v', rfl, h1, h2, ⟨h3.os, h3.tape, h3.output, h3.size, fun k hk _ => h3.block k hk (by simp)⟩⟩
  · obtain rfl : i = l0.length := by omega
    obtain ⟨A, c, rfl, hc, _⟩ := Kd.R_reads hR
    have hc63 : c ≤ 9223372036854775807 := by
      rcases (R_flat hR).2 with ⟨h, _⟩ | ⟨g', cap, cur, h, h1, h2, h3, h4, h5, h6⟩
      · injection h with _ _ h
        omega
      · injection h with _ _ h
        subst h
        unfold maxLen at h4
        omega
    have ei : insAt l0 l0.length y = l0 ++ [y] := by simp [insAt]
    rw [ei]
    exact slices_Insert.at_end base A c vb l0 y w0 w hR hc hc63 hl hv hB hbase
end Go.Proofs.Ytlhbclblehmdbaa.PFnExactGroupsPut
