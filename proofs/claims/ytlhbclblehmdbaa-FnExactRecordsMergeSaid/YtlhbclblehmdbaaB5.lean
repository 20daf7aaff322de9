/- The contract of the program's RecordsMerge where both rows are valid and not too long: the merged row in new memory of which no two records share any. -/
import Derived.Test.YtlhbclblehmdbaaB4
set_option linter.unusedVariables false
set_option linter.unusedSimpArgs false
namespace Go.Proofs.Ytlhbclblehmdbaa.PFnExactRecordsMerge
open Go.RowKit Go.Proofs.YtlhbclblehmdbaaW.PrintWords Go.Proofs.YtlhbclblehmdbaaW.PrintLast Go.Proofs.YtlhbclblehmdbaaW.PrintMore
open Go.Proofs.Ytlhbclblehmdbaa.Comm

/-- As QF, all blocks below N. -/
def QB (w : World) (base N : Nat) (F : Nat → Nat) (buf : Array Value) (xs : List S58) : Prop :=
  buf.size = xs.length ∧ ∀ j x, xs[j]? = some x → ∃ cs, buf[j]? = some (.agg cs.toArray) ∧ kd58.M w base (fun k => F k = j ∧ k < N) x cs
theorem QF.bound {w : World} {base : Nat} {F : Nat → Nat} {buf : Array Value} {xs : List S58} (h : QF w base F buf xs) : QB w base w.heap.size F buf xs :=
  ⟨h.1, fun j x hj => let ⟨cs, hc, hM⟩ := h.2 j x hj; ⟨cs, hc, kd58.M_mono (fun k hk => ⟨hk.1, hk.2.2.1⟩) (kd58.M_bound hM)⟩⟩
section
variable {w w1 : World} {base N : Nat} {F : Nat → Nat} {buf : Array Value} {xs : List S58}
/-- Whatever keeps the blocks of numbers. -/
theorem QB.step (h : QB w base N F buf xs) (hm : ∀ k a, w.heap[k]? = some (.cells a 3 (0, 0)) → base ≤ k → k < N → w1.heap[k]? = w.heap[k]?) : QB w1 base N F buf xs :=
  ⟨h.1, fun j x hj => let ⟨cs, hc, hM⟩ := h.2 j x hj
    ⟨cs, hc, kd58.M_mono (fun _ hk => hk.1) (kd58.M_move (fun k hk => by
      obtain ⟨⟨_, hN⟩, hb, _, q, hq, a, ha⟩ := hk
      have : q = 3 := by
        have hE : kd58.E = [3, 3] := rfl
        rw [hE] at hq
        simpa using hq
      subst this
      exact hm k a ha hb hN) (kd58.M_bound hM))⟩⟩
theorem QB.below (h : QB w base N F buf xs) (hb : Below w.heap.size w w1) : QB w1 base N F buf xs := h.step (fun k a ha _ _ => hb.block k (blk_lt ha))
theorem QB.chan (h : QB w base N F buf xs) {c cap cap' s r s' r' : Nat} {b b' : Array Value} {cl cl' tm tm' : Bool} (hc : w.heap[c]? = some (.chan cap b cl s r tm)) : QB (w.setChan c cap' b' cl' s' r' tm') base N F buf xs :=
  h.step (fun k a ha _ _ => setChan_ne w c _ _ _ _ _ _ (cells_ne_chan hc ha))
theorem QB.grown (h : QB w base N F buf xs) {row : Option Nat} (hg : w.grownBy w1 row) (hr : ∀ k, row = some k → ∃ a, w.heap[k]? = some (.cells a 58 (0, 0))) : QB w1 base N F buf xs :=
  h.step (fun k a ha _ _ => hg.block k (blk_lt ha) (fun he => by
    obtain ⟨a', h'⟩ := hr k he.symm
    rw [ha] at h'
    injection h' with h'
    injection h' with _ h' _
    cases h'))
/-- A block that lies behind is written. -/
theorem QB.set (h : QB w base N F buf xs) {g : Nat} (hg : N ≤ g) (j : Nat) (u : Value) : QB (w.setCell ⟨g, j, none⟩ u) base N F buf xs :=
  h.step (fun k a ha _ hN => Below.heap_setCell w ⟨g, j, none⟩ u k (by show k ≠ g; omega))
end

/-- What the next receive hands over. -/
theorem QB.val {w : World} {base N : Nat} {F : Nat → Nat} {buf : Array Value} {xs : List S58} (h : QB w base N F buf xs) (m : Nat) : ∃ (x : S58) (A3 : Option Addr) (n3 c3 : Nat) (A5 : Option Addr) (n5 c5 : Nat),
    .agg #[.int .i64 x.f0, .int .i64 x.f1, .bool x.f2, .slice A3 n3 c3, .bool x.f4, .slice A5 n5 c5] = (if m < buf.size then buf.getD m undef else .agg #[.int .i64 0, .int .i64 0, .bool false, .slice none 0 0, .bool false, .slice none 0 0]) ∧ (m < xs.length → xs[m]? = some x ∧ buf[m]? = some (.agg #[.int .i64 x.f0, .int .i64 x.f1, .bool x.f2, .slice A3 n3 c3, .bool x.f4, .slice A5 n5 c5])) := by
  by_cases hm : m < xs.length
  · obtain ⟨cs, hc, hM⟩ := h.2 m xs[m] (List.getElem?_eq_getElem hm)
    obtain ⟨v3, v5, rfl, h3, h5⟩ := kd58_openM hM
    obtain ⟨A3, c3, rfl⟩ := Kd.R_slice h3
    obtain ⟨A5, c5, rfl⟩ := Kd.R_slice h5
    refine ⟨xs[m], A3, _, c3, A5, _, c5, ?_, fun _ => ⟨List.getElem?_eq_getElem hm, hc⟩⟩
    rw [if_pos (by rw [h.1]; exact hm), Array.getD_eq_getD_getElem?, hc]
    rfl
  · exact ⟨z58, none, 0, 0, none, 0, 0, by rw [if_neg (by rw [h.1]; exact hm)]; rfl, fun h2 => absurd h2 hm⟩
theorem QB.M {w : World} {base N m : Nat} {F : Nat → Nat} {buf : Array Value} {xs : List S58} (h : QB w base N F buf xs) {x : S58} {cs : List Value} (hx : xs[m]? = some x) (hb : buf[m]? = some (.agg cs.toArray)) : kd58.M w base (fun k => F k = m ∧ k < N) x cs := by
  obtain ⟨cs', hc, hM⟩ := h.2 m x hx
  rw [hb] at hc
  have : cs = cs' := by
    injection hc with hc
    injection hc with hc
    simpa using congrArg Array.toList hc
  subst this
  exact hM

/-! ### Six cells of one block written -/
@[reducible] def set6 (w : World) (g : Nat) (b0 b1 b2 b3 b4 b5 : Value) : World := (((((w.setCell ⟨g, 0, none⟩ b0).setCell ⟨g, 1, none⟩ b1).setCell ⟨g, 2, none⟩ b2).setCell ⟨g, 3, none⟩ b3).setCell ⟨g, 4, none⟩ b4).setCell ⟨g, 5, none⟩ b5
theorem set6_heap (w : World) (g : Nat) (b0 b1 b2 b3 b4 b5 : Value) {k : Nat} (h : k ≠ g) : (set6 w g b0 b1 b2 b3 b4 b5).heap[k]? = w.heap[k]? := by
  unfold set6
  rw [Below.heap_setCell _ _ _ _ h, Below.heap_setCell _ _ _ _ h, Below.heap_setCell _ _ _ _ h, Below.heap_setCell _ _ _ _ h, Below.heap_setCell _ _ _ _ h, Below.heap_setCell _ _ _ _ h]
theorem set6_S {α : Type} {d : Kd α} {e base : Nat} {ok : Nat → Prop} {v : Value} {xs : List α} {w : World} {g : Nat} (h : Kd.S d e w base ok v xs) (hok : ∀ k, ok k → k ≠ g) (b0 b1 b2 b3 b4 b5 : Value) : Kd.S d e (set6 w g b0 b1 b2 b3 b4 b5) base ok v xs :=
  Kd.S_far (p := ⟨g, 5, none⟩) (Kd.S_far (p := ⟨g, 4, none⟩) (Kd.S_far (p := ⟨g, 3, none⟩) (Kd.S_far (p := ⟨g, 2, none⟩) (Kd.S_far (p := ⟨g, 1, none⟩) (Kd.S_far (p := ⟨g, 0, none⟩) h hok b0) hok b1) hok b2) hok b3) hok b4) hok b5
theorem set6_QB {w : World} {base N : Nat} {F : Nat → Nat} {buf : Array Value} {xs : List S58} {g : Nat} (h : QB w base N F buf xs) (hg : N ≤ g) (b0 b1 b2 b3 b4 b5 : Value) : QB (set6 w g b0 b1 b2 b3 b4 b5) base N F buf xs := h.step (fun k a _ _ hN => set6_heap w g b0 b1 b2 b3 b4 b5 (by omega))
theorem set6_below {w0 w : World} {g : Nat} (h : Below w0.heap.size w0 w) (hg : w0.heap.size ≤ g) (b0 b1 b2 b3 b4 b5 : Value) : Below w0.heap.size w0 (set6 w g b0 b1 b2 b3 b4 b5) :=
  below_set (below_set (below_set (below_set (below_set (below_set h hg) hg) hg) hg) hg) hg

theorem info58z : (Try.prog.info? 58).map (fun i => i.zero) = some (some (.agg #[.int .i64 0, .int .i64 0, .bool false, .slice none 0 0, .bool false, .slice none 0 0])) := by kernel_rfl
/-- Which blocks the merged row may lie in, i and j records of the two rows having been moved into it. -/
def okout (gx gy B1 N1 N2 : Nat) (F1 F2 : Nat → Nat) (i j k : Nat) : Prop := k ≠ gx ∧ k ≠ gy ∧ (B1 ≤ k → k < N1 → F1 k < i) ∧ (N1 ≤ k → k < N2 → F2 k < j)

theorem merge_a {a b : List S58} {i j : Nat} {x : S58} (hx : a[i]? = some x) (h : b[j]? = none ∨ ∃ y, b[j]? = some y ∧ x.f1 ≤ y.f1) : mergeF (a.drop i) (b.drop j) = x :: mergeF (a.drop (i + 1)) (b.drop j) := by
  obtain ⟨hi, rfl⟩ := List.getElem?_eq_some_iff.1 hx
  rw [List.drop_eq_getElem_cons hi]
  rcases h with h | ⟨y, hy, hle⟩
  · rw [List.drop_eq_nil_of_le (List.getElem?_eq_none_iff.1 h)]
    cases a.drop (i + 1) with
    | nil => simp [mergeF]
    | cons z zs => simp [mergeF]
  · obtain ⟨hj, rfl⟩ := List.getElem?_eq_some_iff.1 hy
    rw [List.drop_eq_getElem_cons hj, mergeF, if_pos hle]
theorem merge_b {a b : List S58} {i j : Nat} {y : S58} (hy : b[j]? = some y) (h : a[i]? = none ∨ ∃ x, a[i]? = some x ∧ ¬ x.f1 ≤ y.f1) : mergeF (a.drop i) (b.drop j) = y :: mergeF (a.drop i) (b.drop (j + 1)) := by
  obtain ⟨hj, rfl⟩ := List.getElem?_eq_some_iff.1 hy
  rw [List.drop_eq_getElem_cons hj]
  rcases h with h | ⟨x, hx, hle⟩
  · rw [List.drop_eq_nil_of_le (List.getElem?_eq_none_iff.1 h)]
    simp [mergeF]
  · obtain ⟨hi, rfl⟩ := List.getElem?_eq_some_iff.1 hx
    rw [List.drop_eq_getElem_cons hi, mergeF, if_neg hle]
theorem merge_end {a b : List S58} {i j : Nat} (hi : a.length ≤ i) (hj : b.length ≤ j) : mergeF (a.drop i) (b.drop j) = [] := by
  rw [List.drop_eq_nil_of_le hi, List.drop_eq_nil_of_le hj, mergeF]

set_option maxHeartbeats 4000000 in
set_option maxRecDepth 100000 in
theorem impl_RecordsMerge.yes (k : Nat) (A0 : Option Addr) (c0 : Nat) (l0 : List S58) (A1 : Option Addr) (c1 : Nat) (l1 : List S58) (w : World) (hr0 : Kd.C k58 w A0 l0.length l0) (hc0 : l0.length ≤ c0) (hr1 : Kd.C k58 w A1 l1.length l1) (hc1 : l1.length ≤ c1)
    (hva : impl_rowValid.f k l0 = some true) (hvb : impl_rowValid.f k l1 = some true) (hlen : l0.length + l1.length ≤ 30)
    (hp0 : ∀ x ∈ l0, x.f3.length < 17592186044416 ∧ x.f5.length < 17592186044416) (hp1 : ∀ x ∈ l1, x.f3.length < 17592186044416 ∧ x.f5.length < 17592186044416) :
    Calls Try.prog 13 #[.slice A0 l0.length c0, .slice A1 l1.length c1] w fun e w' => ∃ v0 : Value, e = .returned (.tuple #[v0, .bool true]) ∧ Kd.S kd58 58 w' w.heap.size (fun _ => True) v0 (mergeF l0 l1) ∧ Below w.heap.size w w' := by
  have HR0 := Aside0.mk hr0
  have HC0 := Aside0.mk hc0
  have HR1 := Aside0.mk hr1
  have HC1 := Aside0.mk hc1
  have HVA := Aside0.mk hva
  have HVB := Aside0.mk hvb
  have HP0 := Aside0.mk hp0
  have HP1 := Aside0.mk hp1
  clear hr0 hc0 hr1 hc1 hva hvb hp0 hp1
  obtain ⟨i0, hi, hz⟩ := Option.map_eq_some_iff.1 info58
  simp only [Prod.mk.injEq] at hz
  have HI := Aside0.mk hi
  have HZ := Aside0.mk hz
  clear hi hz
  go_enter Try.func13, Try.ntmps13
  go_wp2_with fail
  refine (impl_rowValid.calls k A0 c0 l0 true _ HR0.out HC0.out HVA.out).mono ?_
  rintro e w1 ⟨rfl, hb⟩
  have HB1 := Aside0.mk hb
  clear hb
  go_wp2_with fail
  refine (impl_rowValid.calls k A1 c1 l1 true _ (Kd.C_below HR1.out HB1.out) HC1.out HVB.out).mono ?_
  rintro e w2 ⟨rfl, hb⟩
  have HB2 := Aside0.mk (below_step HB1.out hb)
  clear hb HB1 HVA HVB
  go_wp2_with (first | (at_make; refine wpList_make_own _ rfl _ _ 24 rfl w.heap.size 58 i0 (.agg #[(.int .i64 0), (.int .i64 0), (.bool false), (.slice none 0 0), (.bool false), (.slice none 0 0)]) 6 Try.underlying24 HI.out HZ.out.1 HZ.out.2.1 .i64 .i64 _ (l0.length + l1.length) rfl rfl (by simp) ?c2 ?c3 ?c4 ?_; (case c2 => rw [HZ.out.2.2]; omega); (case c3 => simp only [maxLen]; omega); (case c4 => exact HB2.out.size); intro w3 ho hg; have HO3 := Aside0.mk ho; have HG3 := Aside0.mk hg; clear ho hg))
  have HB3 := Aside0.mk (HB2.out.grown HG3.out HB2.out.size (by simp))
  have HS3 := Aside0.mk (show Kd.S kd58 58 w3 w.heap.size (fun k => k < w3.heap.size) (.slice (some ⟨w2.heap.size, 0, none⟩) 0 (l0.length + l1.length)) [] from ⟨fun _ => 0, fun k hk => own_lt HO3.out k hk, [], HO3.out, Reps.none _ _⟩)
  clear HB2 HG3 HO3
  refine (impl_flow.calls A0 c0 l0 _ (Kd.C_below HR0.out HB3.out) HC0.out (by omega) HP0.out).mono ?_
  rintro e w4 ⟨ca, Fa, bufa, rfl, hca, hqa, hQa, hb⟩
  have HCA := Aside0.mk hca
  have HQA := Aside0.mk hqa
  have HBA := Aside0.mk (QF.bound hQa)
  have HS4 := Aside0.mk (Kd.S_below HS3.out hb)
  have HB4 := Aside0.mk (below_step HB3.out hb)
  have HL4 := Aside0.mk hb.size
  clear hca hqa hQa hb HS3
  go_wp2_with fail
  refine (impl_flow.calls A1 c1 l1 _ (Kd.C_below HR1.out HB4.out) HC1.out (by omega) HP1.out).mono ?_
  rintro e w5 ⟨cb, Fb, bufb, rfl, hcb, hqb, hQb, hb⟩
  have HCB := Aside0.mk hcb
  have HQB := Aside0.mk hqb
  have HBB := Aside0.mk (QF.bound hQb)
  have HS5 := Aside0.mk (Kd.S_below HS4.out hb)
  have HB5 := Aside0.mk (below_step HB4.out hb)
  have HQA5 := Aside0.mk (blk_below HQA.out hb)
  have HBA5 := Aside0.mk (HBA.out.below hb)
  have HL5 := Aside0.mk hb.size
  have HNE := Aside0.mk (show ca ≠ cb by have := blk_lt HQA.out; omega)
  clear hcb hqb hQb hb HS4 HQA HBA HR0 HC0 HR1 HC1 HP0 HP1
  have HSA := Aside0.mk HBA5.out.1
  have HSB := Aside0.mk HBB.out.1
  go_upto_region 5 with (fail)
  refine RLo.split (id := 5) 1 ?_
  simp only [List.take_succ_cons, List.take_zero, List.drop_succ_cons, List.drop_zero]
  go_wp2_with fail
  obtain ⟨x, A3, n3, d3, A5, n5, d5, hval, hx⟩ := QB.val HBA5.out 0
  have HX := Aside0.mk hx
  clear hx
  obtain ⟨o1, ho1⟩ : ∃ b, b = decide (0 < bufa.size) := ⟨_, rfl⟩
  refine RLo.recv_next (cap := l0.length) (s := l0.length) (r := 0) (tm := false) (buf := bufa) rfl rfl rfl Try.underlying61 info58z 0 (by rw [Array.extract_size]; exact HQA5.out) _ o1 hval ho1 ?_
  clear hval
  have HO1 := Aside0.mk ho1
  clear ho1
  intro r1 w6 hw
  have HQB6 := Aside0.mk (by rw [hw]; exact (setChan_ne w5 ca _ _ _ _ _ _ (Ne.symm HNE.out)).trans HQB.out : w6.heap[cb]? = some (.chan l1.length bufb true l1.length 0 false))
  have HQA6 := Aside0.mk (by rw [hw]; exact Go.Conc.heap_setChan _ _ _ _ _ _ _ _ (blk_lt HQA5.out) : w6.heap[ca]? = some (.chan l0.length (bufa.extract (0 + 1) bufa.size) true l0.length r1 false))
  have HBA6 := Aside0.mk (by rw [hw]; exact QB.chan HBA5.out HQA5.out : QB w6 _ _ Fa bufa l0)
  have HBB6 := Aside0.mk (by rw [hw]; exact QB.chan HBB.out HQA5.out : QB w6 _ _ Fb bufb l1)
  have HS6 := Aside0.mk (by rw [hw]; exact S_chan HS5.out HQA5.out : Kd.S kd58 58 w6 _ _ _ _)
  have HB6 := Aside0.mk (by rw [hw]; exact Go.Conc.below_setChan HB5.out (Nat.le_trans HB3.out.size HCA.out) _ _ _ _ _ _ : Below w.heap.size w w6)
  have HZ6 := Aside0.mk (by rw [hw]; exact Go.Conc.size_setChan _ _ _ _ _ _ _ _ : w6.heap.size = w5.heap.size)
  clear hw HQB HBA5 HBB HS5 HQA5
  refine RLo.walk ?_
  go_upto_region 6 with (fail)
  refine RLo.split (id := 6) 1 ?_
  simp only [List.take_succ_cons, List.take_zero, List.drop_succ_cons, List.drop_zero]
  go_wp2_with fail
  obtain ⟨y, E3, m3, e3, E5, m5, e5, hval, hy⟩ := QB.val HBB6.out 0
  have HY := Aside0.mk hy
  clear hy
  obtain ⟨o2, ho2⟩ : ∃ b, b = decide (0 < bufb.size) := ⟨_, rfl⟩
  refine RLo.recv_next (cap := l1.length) (s := l1.length) (r := 0) (tm := false) (buf := bufb) rfl rfl rfl Try.underlying61 info58z 0 (by rw [Array.extract_size]; exact blk_alloc HQB6.out _) _ o2 hval ho2 ?_
  clear hval
  have HO2 := Aside0.mk ho2
  clear ho2
  intro r2 w7 hw
  have HQ6 := Aside0.mk (blk_alloc HQB6.out (.cells #[.int .i64 x.f0, .int .i64 x.f1, .bool x.f2, .slice A3 n3 d3, .bool x.f4, .slice A5 n5 d5] 58))
  have HQA7 := Aside0.mk (by rw [hw]; exact (setChan_ne _ cb _ _ _ _ _ _ HNE.out).trans (blk_alloc HQA6.out _) : w7.heap[ca]? = some (.chan l0.length (bufa.extract (0 + 1) bufa.size) true l0.length r1 false))
  have HQB7 := Aside0.mk (by rw [hw]; exact Go.Conc.heap_setChan _ _ _ _ _ _ _ _ (blk_lt HQ6.out) : w7.heap[cb]? = some (.chan l1.length (bufb.extract (0 + 1) bufb.size) true l1.length r2 false))
  have HGX7 := Aside0.mk (by rw [hw]; exact (setChan_ne _ cb _ _ _ _ _ _ (by have := blk_lt HQB6.out; omega)).trans (blk_new w6 _) : w7.heap[w6.heap.size]? = some (.cells #[.int .i64 x.f0, .int .i64 x.f1, .bool x.f2, .slice A3 n3 d3, .bool x.f4, .slice A5 n5 d5] 58 (0, 0)))
  have HBA7 := Aside0.mk (by rw [hw]; exact QB.chan (HBA6.out.below (below_alloc (Below.refl _ _) _)) HQ6.out : QB w7 _ _ Fa bufa l0)
  have HBB7 := Aside0.mk (by rw [hw]; exact QB.chan (HBB6.out.below (below_alloc (Below.refl _ _) _)) HQ6.out : QB w7 _ _ Fb bufb l1)
  have HS7 := Aside0.mk (by rw [hw]; exact S_chan (Kd.S_alloc HS6.out _) HQ6.out : Kd.S kd58 58 w7 _ _ _ _)
  have HB7 := Aside0.mk (by rw [hw]; exact Go.Conc.below_setChan (below_alloc HB6.out _) (Nat.le_trans HB4.out.size HCB.out) _ _ _ _ _ _ : Below w.heap.size w w7)
  have HZ7 := Aside0.mk (by rw [hw, Go.Conc.size_setChan]; simp : w7.heap.size = w6.heap.size + 1)
  clear hw HQB6 HQA6 HBA6 HBB6 HS6 HB6 HQ6
  refine RLo.walk ?_
  go_wp2_with fail
  go_loopg [6, 10, 12] (l0.length + l1.length + 1) (fun kq v6 v10 v12 wr => ∃ (i j : Nat) (o1 o2 : Bool) (os : List S58) (x y : S58) (A3 A5 E3 E5 : Option Addr) (n3 d3 n5 d5 m3 e3 m5 e5 r1 r2 : Nat), v10 = .bool o1 ∧ v12 = .bool o2 ∧ Aside0 (o1 = decide (i < l0.length) ∧ o2 = decide (j < l1.length) ∧ i ≤ l0.length ∧ j ≤ l1.length ∧ kq = (l0.length - i) + (l1.length - j) + 1) ∧ Aside0 (os ++ mergeF (l0.drop i) (l1.drop j) = mergeF l0 l1 ∧ os.length ≤ i + j) ∧ Aside0 (wr.heap[w6.heap.size]? = some (.cells #[.int .i64 x.f0, .int .i64 x.f1, .bool x.f2, .slice A3 n3 d3, .bool x.f4, .slice A5 n5 d5] 58 (0, 0))) ∧ Aside0 (wr.heap[w7.heap.size]? = some (.cells #[.int .i64 y.f0, .int .i64 y.f1, .bool y.f2, .slice E3 m3 e3, .bool y.f4, .slice E5 m5 e5] 58 (0, 0))) ∧ Aside0 (i < l0.length → l0[i]? = some x ∧ bufa[i]? = some (.agg #[.int .i64 x.f0, .int .i64 x.f1, .bool x.f2, .slice A3 n3 d3, .bool x.f4, .slice A5 n5 d5])) ∧ Aside0 (j < l1.length → l1[j]? = some y ∧ bufb[j]? = some (.agg #[.int .i64 y.f0, .int .i64 y.f1, .bool y.f2, .slice E3 m3 e3, .bool y.f4, .slice E5 m5 e5])) ∧ Aside0 (wr.heap[ca]? = some (.chan l0.length (bufa.extract (i + 1) bufa.size) true l0.length r1 false)) ∧ Aside0 (wr.heap[cb]? = some (.chan l1.length (bufb.extract (j + 1) bufb.size) true l1.length r2 false)) ∧ Aside0 (QB wr w3.heap.size w4.heap.size Fa bufa l0) ∧ Aside0 (QB wr w4.heap.size w5.heap.size Fb bufb l1) ∧ Aside0 (Kd.S kd58 58 wr w.heap.size (okout w6.heap.size w7.heap.size w3.heap.size w4.heap.size w5.heap.size Fa Fb i j) v6 os) ∧ Aside0 (Below w.heap.size w wr))
  case atStart =>
    refine ⟨0, 0, o1, o2, [], x, y, A3, A5, E3, E5, n3, d3, n5, d5, m3, e3, m5, e5, r1, r2, rfl, rfl, ⟨by rw [HO1.out, HSA.out], by rw [HO2.out, HSB.out], by omega, by omega, by omega⟩, ⟨by simp, by simp⟩, ⟨blk_alloc HGX7.out _⟩, ⟨blk_new w7 _⟩, HX, HY, ⟨blk_alloc HQA7.out _⟩, ⟨blk_alloc HQB7.out _⟩, ⟨HBA7.out.below (below_alloc (Below.refl _ _) _)⟩, ⟨HBB7.out.below (below_alloc (Below.refl _ _) _)⟩, ⟨Kd.S_mono (Kd.S_alloc HS7.out _) (fun k hk => ?_)⟩, ⟨below_alloc HB7.out _⟩⟩
    have h1 := HL4.out; have h2 := HL5.out; have h3 := HZ6.out; have h4 := HZ7.out
    exact ⟨by omega, by omega, by omega, by omega⟩
  case round =>
    clear HX HY HQA7 HQB7 HGX7 HBA7 HBB7 HS7 HB7 HO1 HO2
    obtain ⟨i, j, p1, p2, os, s, t, A3', A5', E3', E5', n3', d3', n5', d5', m3', e3', m5', e5', r1', r2', rfl, rfl, HO, HM, HGX, HGY, HX, HY, HQA, HQB, HBA, HBB, HS, HB⟩ := hrel
    obtain ⟨k1, rfl⟩ : ∃ k1, gk = k1 + 1 := ⟨_, HO.out.2.2.2.2⟩
    cases p1 with
    | false =>
      cases p2 with
      | false =>
        clear HX HY HGX HGY HQA HQB HBA HBB
        go_wp2
        go_ret2
        have h5 := HO.out
        simp only [true_eq_decide_iff, false_eq_decide_iff] at h5
        have h6 := HM.out.1
        rw [merge_end (by omega) (by omega), List.append_nil] at h6
        exact ⟨_, rfl, by rw [← h6]; exact Kd.S_mono HS.out (fun _ _ => trivial), HB.out⟩
      | true =>
        have hx := HY.out (by have := HO.out; simp at this; omega)
        have HXX := Aside0.mk hx
        clear hx
        have hx0 : wr.cell? ⟨w7.heap.size, 0, none⟩ = some (.int .i64 t.f0) := blk_cell HGY.out 0
        have hx1 : wr.cell? ⟨w7.heap.size, 1, none⟩ = some (.int .i64 t.f1) := blk_cell HGY.out 1
        have hx2 : wr.cell? ⟨w7.heap.size, 2, none⟩ = some (.bool t.f2) := blk_cell HGY.out 2
        have hx3 : wr.cell? ⟨w7.heap.size, 3, none⟩ = some (.slice E3' m3' e3') := blk_cell HGY.out 3
        have hx4 : wr.cell? ⟨w7.heap.size, 4, none⟩ = some (.bool t.f4) := blk_cell HGY.out 4
        have hx5 : wr.cell? ⟨w7.heap.size, 5, none⟩ = some (.slice E5' m5' e5') := blk_cell HGY.out 5
        go_upto_region 12 with (first | (at_builtin; refine Kd.S_append kd58 (w0 := w) w.heap.size rfl (.tmp 74) (.tmp 76) 24 58 (.agg #[(.int .i64 0), (.int .i64 0), (.bool false), (.slice none 0 0), (.bool false), (.slice none 0 0)]) 80 rfl Try.underlying24 info58 rfl (by decide) (by omega) u6 os t [.int .i64 t.f0, .int .i64 t.f1, .bool t.f2, .slice E3' m3' e3', .bool t.f4, .slice E5' m5' e5'] (okout w6.heap.size w7.heap.size w3.heap.size w4.heap.size w5.heap.size Fa Fb i (j + 1)) (fun k => (Fb k = j ∧ k < w5.heap.size) ∧ w4.heap.size ≤ k) rfl rfl ?hp ?hokp ?hfr ?hHO ?hHB ?hbs ?hln ?_; (case hp => exact kd58.M_lower HB4.out.size (kd58.M_mono (fun k hk => ⟨hk.1, hk.2.1⟩) (kd58.M_bound (HBB.out.M HXX.out.1 HXX.out.2)))); (case hokp => intro k hk; have h1 := HL4.out; have h2 := HL5.out; have h3 := HZ6.out; have h4 := HZ7.out; have h5 := hk.1.2; have h6 := hk.1.1; have h7 := hk.2; exact ⟨⟨by omega, by omega, by omega, by omega⟩, fun he => by have h8 := (Kd.S_R HS.out).1 k he.symm; have h9 := h8.2.2.1; have h10 := h8.2.2.2; omega⟩); (case hfr => intro k hk; have h1 := HL4.out; have h2 := HL5.out; have h3 := HZ6.out; have h4 := HZ7.out; have h5 := blk_lt HGX.out; have h6 := blk_lt HGY.out; exact ⟨by omega, by omega, by omega, by omega⟩); (case hHO => exact Kd.S_mono HS.out (fun k hk => by have h9 := hk.2.2.1; have h10 := hk.2.2.2; exact ⟨⟨hk.1, hk.2.1, by omega, by omega⟩, fun h8 => by have h5 := h8.1.2; have h6 := h8.1.1; have h7 := h8.2; omega⟩)); (case hHB => exact HB.out); (case hbs => exact HB.out.size); (case hln => have := HM.out.2; have h2 := HO.out.2.2.1; have h3 := HO.out.2.2.2.1; omega); intro v9 w9 hS hb hg hat; have HS9 := Aside0.mk hS; have HB9 := Aside0.mk hb; have HG9 := Aside0.mk hg; clear hS hb hg hat))
        clear hx0 hx1 hx2 hx3 hx4 hx5
        have HNX := Aside0.mk (fun k (hk : u6.ownBlock = some k) => (Kd.S_R HS.out).1 k hk)
        have HT9 := Aside0.mk (Kd.S_typed HS.out)
        have HGX9 := Aside0.mk (blk_grown HGX.out HG9.out (fun he => (HNX.out _ he.symm).1 rfl))
        have HGY9 := Aside0.mk (blk_grown HGY.out HG9.out (fun he => (HNX.out _ he.symm).2.1 rfl))
        have HQA9 := Aside0.mk (blk_grown HQA.out HG9.out (fun he => by obtain ⟨q, hq⟩ := HT9.out _ he.symm; rw [HQA.out] at hq; cases hq))
        have HQB9 := Aside0.mk (blk_grown HQB.out HG9.out (fun he => by obtain ⟨q, hq⟩ := HT9.out _ he.symm; rw [HQB.out] at hq; cases hq))
        have HBA9 := Aside0.mk (HBA.out.grown HG9.out HT9.out)
        have HBB9 := Aside0.mk (HBB.out.grown HG9.out HT9.out)
        clear HGX HGY HQA HQB HBA HBB HS HB HG9 HNX HT9
        refine RLo.split (id := 12) 1 ?_
        simp only [List.take_succ_cons, List.take_zero, List.drop_succ_cons, List.drop_zero]
        go_wp2_with fail
        obtain ⟨u, G3, q3, g3, G5, q5, g5, hval, hu⟩ := QB.val HBB9.out (j + 1)
        have HU := Aside0.mk hu
        clear hu
        obtain ⟨p3, hp3⟩ : ∃ b, b = decide (j + 1 < bufb.size) := ⟨_, rfl⟩
        refine RLo.recv_next (cap := l1.length) (s := l1.length) (r := r2') (tm := false) (buf := bufb) rfl rfl rfl Try.underlying61 info58z (j + 1) HQB9.out _ p3 hval hp3 ?_
        clear hval
        have HP3 := Aside0.mk hp3
        clear hp3
        intro r3 w10 hw
        have HQB10 := Aside0.mk (by rw [hw]; exact Go.Conc.heap_setChan _ _ _ _ _ _ _ _ (blk_lt HQB9.out) : w10.heap[cb]? = some (.chan l1.length (bufb.extract (j + 1 + 1) bufb.size) true l1.length r3 false))
        have HQA10 := Aside0.mk (by rw [hw]; exact (setChan_ne _ cb _ _ _ _ _ _ HNE.out).trans HQA9.out : w10.heap[ca]? = some (.chan l0.length (bufa.extract (i + 1) bufa.size) true l0.length r1' false))
        have HGX10 := Aside0.mk (by rw [hw]; exact (setChan_ne _ cb _ _ _ _ _ _ (cells_ne_chan HQB9.out HGX9.out)).trans HGX9.out : w10.heap[w6.heap.size]? = some (.cells #[.int .i64 s.f0, .int .i64 s.f1, .bool s.f2, .slice A3' n3' d3', .bool s.f4, .slice A5' n5' d5'] 58 (0, 0)))
        have HGY10 := Aside0.mk (by rw [hw]; exact (setChan_ne _ cb _ _ _ _ _ _ (cells_ne_chan HQB9.out HGY9.out)).trans HGY9.out : w10.heap[w7.heap.size]? = some (.cells #[.int .i64 t.f0, .int .i64 t.f1, .bool t.f2, .slice E3' m3' e3', .bool t.f4, .slice E5' m5' e5'] 58 (0, 0)))
        have HBA10 := Aside0.mk (by rw [hw]; exact QB.chan HBA9.out HQB9.out : QB w10 _ _ Fa bufa l0)
        have HBB10 := Aside0.mk (by rw [hw]; exact QB.chan HBB9.out HQB9.out : QB w10 _ _ Fb bufb l1)
        have HS10 := Aside0.mk (by rw [hw]; exact S_chan HS9.out HQB9.out : Kd.S kd58 58 w10 _ _ _ _)
        have HB10 := Aside0.mk (by rw [hw]; exact Go.Conc.below_setChan HB9.out (Nat.le_trans HB4.out.size HCB.out) _ _ _ _ _ _ : Below w.heap.size w w10)
        clear hw HGX9 HGY9 HQA9 HQB9 HBA9 HBB9 HS9 HB9
        have hx0 : w10.cell? ⟨w7.heap.size, 0, none⟩ = some (.int .i64 t.f0) := blk_cell HGY10.out 0
        have hx1 : w10.cell? ⟨w7.heap.size, 1, none⟩ = some (.int .i64 t.f1) := blk_cell HGY10.out 1
        have hx2 : w10.cell? ⟨w7.heap.size, 2, none⟩ = some (.bool t.f2) := blk_cell HGY10.out 2
        have hx3 : w10.cell? ⟨w7.heap.size, 3, none⟩ = some (.slice E3' m3' e3') := blk_cell HGY10.out 3
        have hx4 : w10.cell? ⟨w7.heap.size, 4, none⟩ = some (.bool t.f4) := blk_cell HGY10.out 4
        have hx5 : w10.cell? ⟨w7.heap.size, 5, none⟩ = some (.slice E5' m5' e5') := blk_cell HGY10.out 5
        have hf : ∀ q, w10.frozen? ⟨w7.heap.size, q, none⟩ = false := blk_frozen HGY10.out
        refine RLo.walk ?_
        go_wp2
        go_roundg k1
        case measure => omega
        case rel =>
          have h1 := HL4.out; have h2 := HL5.out; have h3 := HZ6.out; have h4 := HZ7.out; have h5 := HO.out; have h6 := HM.out; have hsa := HSA.out; have hsb := HSB.out
          simp only [true_eq_decide_iff, false_eq_decide_iff, decide_eq_true_eq] at h5
          refine ⟨i, j + 1, false, p3, os ++ [t], s, u, A3', A5', G3, G5, n3', d3', n5', d5', q3, g3, q5, g5, r1', r3, by first | rfl | (simp; done), by first | rfl | (simp; done), ⟨HO.out.1, by rw [HP3.out, hsb], by omega, by omega, by omega⟩, ⟨by rw [← h6.1, merge_b HXX.out.1 (Or.inl (List.getElem?_eq_none (by omega)))]; simp, by simp; omega⟩, ⟨(set6_heap _ _ _ _ _ _ _ _ (by omega)).trans HGX10.out⟩, ⟨set6_blk HGY10.out _ _ _ _ _ _⟩, HX, HU, ⟨(set6_heap _ _ _ _ _ _ _ _ (Ne.symm (cells_ne_chan HQA10.out HGY10.out))).trans HQA10.out⟩, ⟨(set6_heap _ _ _ _ _ _ _ _ (Ne.symm (cells_ne_chan HQB10.out HGY10.out))).trans HQB10.out⟩, ⟨set6_QB HBA10.out (by omega) _ _ _ _ _ _⟩, ⟨set6_QB HBB10.out (by omega) _ _ _ _ _ _⟩, ⟨set6_S HS10.out (fun k hk => hk.2.1) _ _ _ _ _ _⟩, ⟨set6_below HB10.out (by have := HB5.out.size; omega) _ _ _ _ _ _⟩⟩
    | true =>
      cases p2 with
      | false =>
        have hx := HX.out (by have := HO.out; simp at this; omega)
        have HXX := Aside0.mk hx
        clear hx
        have hx0 : wr.cell? ⟨w6.heap.size, 0, none⟩ = some (.int .i64 s.f0) := blk_cell HGX.out 0
        have hx1 : wr.cell? ⟨w6.heap.size, 1, none⟩ = some (.int .i64 s.f1) := blk_cell HGX.out 1
        have hx2 : wr.cell? ⟨w6.heap.size, 2, none⟩ = some (.bool s.f2) := blk_cell HGX.out 2
        have hx3 : wr.cell? ⟨w6.heap.size, 3, none⟩ = some (.slice A3' n3' d3') := blk_cell HGX.out 3
        have hx4 : wr.cell? ⟨w6.heap.size, 4, none⟩ = some (.bool s.f4) := blk_cell HGX.out 4
        have hx5 : wr.cell? ⟨w6.heap.size, 5, none⟩ = some (.slice A5' n5' d5') := blk_cell HGX.out 5
        go_upto_region 10 with (first | (at_builtin; refine Kd.S_append kd58 (w0 := w) w.heap.size rfl (.tmp 65) (.tmp 67) 24 58 (.agg #[(.int .i64 0), (.int .i64 0), (.bool false), (.slice none 0 0), (.bool false), (.slice none 0 0)]) 80 rfl Try.underlying24 info58 rfl (by decide) (by omega) u6 os s [.int .i64 s.f0, .int .i64 s.f1, .bool s.f2, .slice A3' n3' d3', .bool s.f4, .slice A5' n5' d5'] (okout w6.heap.size w7.heap.size w3.heap.size w4.heap.size w5.heap.size Fa Fb (i + 1) j) (fun k => (Fa k = i ∧ k < w4.heap.size) ∧ w3.heap.size ≤ k) rfl rfl ?hp ?hokp ?hfr ?hHO ?hHB ?hbs ?hln ?_; (case hp => exact kd58.M_lower HB3.out.size (kd58.M_mono (fun k hk => ⟨hk.1, hk.2.1⟩) (kd58.M_bound (HBA.out.M HXX.out.1 HXX.out.2)))); (case hokp => intro k hk; have h1 := HL4.out; have h2 := HL5.out; have h3 := HZ6.out; have h4 := HZ7.out; have h5 := hk.1.2; have h6 := hk.1.1; have h7 := hk.2; exact ⟨⟨by omega, by omega, by omega, by omega⟩, fun he => by have h8 := (Kd.S_R HS.out).1 k he.symm; have h9 := h8.2.2.1; have h10 := h8.2.2.2; omega⟩); (case hfr => intro k hk; have h1 := HL4.out; have h2 := HL5.out; have h3 := HZ6.out; have h4 := HZ7.out; have h5 := blk_lt HGX.out; have h6 := blk_lt HGY.out; exact ⟨by omega, by omega, by omega, by omega⟩); (case hHO => exact Kd.S_mono HS.out (fun k hk => by have h9 := hk.2.2.1; have h10 := hk.2.2.2; exact ⟨⟨hk.1, hk.2.1, by omega, by omega⟩, fun h8 => by have h5 := h8.1.2; have h6 := h8.1.1; have h7 := h8.2; omega⟩)); (case hHB => exact HB.out); (case hbs => exact HB.out.size); (case hln => have := HM.out.2; have h2 := HO.out.2.2.1; have h3 := HO.out.2.2.2.1; omega); intro v9 w9 hS hb hg hat; have HS9 := Aside0.mk hS; have HB9 := Aside0.mk hb; have HG9 := Aside0.mk hg; clear hS hb hg hat))
        clear hx0 hx1 hx2 hx3 hx4 hx5
        have HNX := Aside0.mk (fun k (hk : u6.ownBlock = some k) => (Kd.S_R HS.out).1 k hk)
        have HT9 := Aside0.mk (Kd.S_typed HS.out)
        have HGX9 := Aside0.mk (blk_grown HGX.out HG9.out (fun he => (HNX.out _ he.symm).1 rfl))
        have HGY9 := Aside0.mk (blk_grown HGY.out HG9.out (fun he => (HNX.out _ he.symm).2.1 rfl))
        have HQA9 := Aside0.mk (blk_grown HQA.out HG9.out (fun he => by obtain ⟨q, hq⟩ := HT9.out _ he.symm; rw [HQA.out] at hq; cases hq))
        have HQB9 := Aside0.mk (blk_grown HQB.out HG9.out (fun he => by obtain ⟨q, hq⟩ := HT9.out _ he.symm; rw [HQB.out] at hq; cases hq))
        have HBA9 := Aside0.mk (HBA.out.grown HG9.out HT9.out)
        have HBB9 := Aside0.mk (HBB.out.grown HG9.out HT9.out)
        clear HGX HGY HQA HQB HBA HBB HS HB HG9 HNX HT9
        refine RLo.split (id := 10) 1 ?_
        simp only [List.take_succ_cons, List.take_zero, List.drop_succ_cons, List.drop_zero]
        go_wp2_with fail
        obtain ⟨u, G3, q3, g3, G5, q5, g5, hval, hu⟩ := QB.val HBA9.out (i + 1)
        have HU := Aside0.mk hu
        clear hu
        obtain ⟨p3, hp3⟩ : ∃ b, b = decide (i + 1 < bufa.size) := ⟨_, rfl⟩
        refine RLo.recv_next (cap := l0.length) (s := l0.length) (r := r1') (tm := false) (buf := bufa) rfl rfl rfl Try.underlying61 info58z (i + 1) HQA9.out _ p3 hval hp3 ?_
        clear hval
        have HP3 := Aside0.mk hp3
        clear hp3
        intro r3 w10 hw
        have HQA10 := Aside0.mk (by rw [hw]; exact Go.Conc.heap_setChan _ _ _ _ _ _ _ _ (blk_lt HQA9.out) : w10.heap[ca]? = some (.chan l0.length (bufa.extract (i + 1 + 1) bufa.size) true l0.length r3 false))
        have HQB10 := Aside0.mk (by rw [hw]; exact (setChan_ne _ ca _ _ _ _ _ _ (Ne.symm HNE.out)).trans HQB9.out : w10.heap[cb]? = some (.chan l1.length (bufb.extract (j + 1) bufb.size) true l1.length r2' false))
        have HGX10 := Aside0.mk (by rw [hw]; exact (setChan_ne _ ca _ _ _ _ _ _ (cells_ne_chan HQA9.out HGX9.out)).trans HGX9.out : w10.heap[w6.heap.size]? = some (.cells #[.int .i64 s.f0, .int .i64 s.f1, .bool s.f2, .slice A3' n3' d3', .bool s.f4, .slice A5' n5' d5'] 58 (0, 0)))
        have HGY10 := Aside0.mk (by rw [hw]; exact (setChan_ne _ ca _ _ _ _ _ _ (cells_ne_chan HQA9.out HGY9.out)).trans HGY9.out : w10.heap[w7.heap.size]? = some (.cells #[.int .i64 t.f0, .int .i64 t.f1, .bool t.f2, .slice E3' m3' e3', .bool t.f4, .slice E5' m5' e5'] 58 (0, 0)))
        have HBA10 := Aside0.mk (by rw [hw]; exact QB.chan HBA9.out HQA9.out : QB w10 _ _ Fa bufa l0)
        have HBB10 := Aside0.mk (by rw [hw]; exact QB.chan HBB9.out HQA9.out : QB w10 _ _ Fb bufb l1)
        have HS10 := Aside0.mk (by rw [hw]; exact S_chan HS9.out HQA9.out : Kd.S kd58 58 w10 _ _ _ _)
        have HB10 := Aside0.mk (by rw [hw]; exact Go.Conc.below_setChan HB9.out (Nat.le_trans HB3.out.size HCA.out) _ _ _ _ _ _ : Below w.heap.size w w10)
        clear hw HGX9 HGY9 HQA9 HQB9 HBA9 HBB9 HS9 HB9
        have hx0 : w10.cell? ⟨w6.heap.size, 0, none⟩ = some (.int .i64 s.f0) := blk_cell HGX10.out 0
        have hx1 : w10.cell? ⟨w6.heap.size, 1, none⟩ = some (.int .i64 s.f1) := blk_cell HGX10.out 1
        have hx2 : w10.cell? ⟨w6.heap.size, 2, none⟩ = some (.bool s.f2) := blk_cell HGX10.out 2
        have hx3 : w10.cell? ⟨w6.heap.size, 3, none⟩ = some (.slice A3' n3' d3') := blk_cell HGX10.out 3
        have hx4 : w10.cell? ⟨w6.heap.size, 4, none⟩ = some (.bool s.f4) := blk_cell HGX10.out 4
        have hx5 : w10.cell? ⟨w6.heap.size, 5, none⟩ = some (.slice A5' n5' d5') := blk_cell HGX10.out 5
        have hf : ∀ q, w10.frozen? ⟨w6.heap.size, q, none⟩ = false := blk_frozen HGX10.out
        refine RLo.walk ?_
        go_wp2
        go_roundg k1
        case measure => omega
        case rel =>
          have h1 := HL4.out; have h2 := HL5.out; have h3 := HZ6.out; have h4 := HZ7.out; have h5 := HO.out; have h6 := HM.out; have hsa := HSA.out; have hsb := HSB.out
          simp only [true_eq_decide_iff, false_eq_decide_iff, decide_eq_true_eq] at h5
          refine ⟨i + 1, j, p3, false, os ++ [s], u, t, G3, G5, E3', E5', q3, g3, q5, g5, m3', e3', m5', e5', r3, r2', by first | rfl | (simp; done), by first | rfl | (simp; done), ⟨by rw [HP3.out, hsa], HO.out.2.1, by omega, by omega, by omega⟩, ⟨by rw [← h6.1, merge_a HXX.out.1 (Or.inl (List.getElem?_eq_none (by omega)))]; simp, by simp; omega⟩, ⟨set6_blk HGX10.out _ _ _ _ _ _⟩, ⟨(set6_heap _ _ _ _ _ _ _ _ (by omega)).trans HGY10.out⟩, HU, HY, ⟨(set6_heap _ _ _ _ _ _ _ _ (Ne.symm (cells_ne_chan HQA10.out HGX10.out))).trans HQA10.out⟩, ⟨(set6_heap _ _ _ _ _ _ _ _ (Ne.symm (cells_ne_chan HQB10.out HGX10.out))).trans HQB10.out⟩, ⟨set6_QB HBA10.out (by omega) _ _ _ _ _ _⟩, ⟨set6_QB HBB10.out (by omega) _ _ _ _ _ _⟩, ⟨set6_S HS10.out (fun k hk => hk.1) _ _ _ _ _ _⟩, ⟨set6_below HB10.out (by have := HB5.out.size; omega) _ _ _ _ _ _⟩⟩
      | true =>
        by_cases hle : s.f1 ≤ t.f1
        · have hle' : decide (s.f1 ≤ t.f1) = true := decide_eq_true hle
          have hx := HX.out (by have := HO.out; simp at this; omega)
          have HXX := Aside0.mk hx
          clear hx
          have hx0 : wr.cell? ⟨w6.heap.size, 0, none⟩ = some (.int .i64 s.f0) := blk_cell HGX.out 0
          have hx1 : wr.cell? ⟨w6.heap.size, 1, none⟩ = some (.int .i64 s.f1) := blk_cell HGX.out 1
          have hx2 : wr.cell? ⟨w6.heap.size, 2, none⟩ = some (.bool s.f2) := blk_cell HGX.out 2
          have hx3 : wr.cell? ⟨w6.heap.size, 3, none⟩ = some (.slice A3' n3' d3') := blk_cell HGX.out 3
          have hx4 : wr.cell? ⟨w6.heap.size, 4, none⟩ = some (.bool s.f4) := blk_cell HGX.out 4
          have hx5 : wr.cell? ⟨w6.heap.size, 5, none⟩ = some (.slice A5' n5' d5') := blk_cell HGX.out 5
          have hy1 : wr.cell? ⟨w7.heap.size, 1, none⟩ = some (.int .i64 t.f1) := blk_cell HGY.out 1
          go_upto_region 10 with (first | (at_builtin; refine Kd.S_append kd58 (w0 := w) w.heap.size rfl (.tmp 65) (.tmp 67) 24 58 (.agg #[(.int .i64 0), (.int .i64 0), (.bool false), (.slice none 0 0), (.bool false), (.slice none 0 0)]) 80 rfl Try.underlying24 info58 rfl (by decide) (by omega) u6 os s [.int .i64 s.f0, .int .i64 s.f1, .bool s.f2, .slice A3' n3' d3', .bool s.f4, .slice A5' n5' d5'] (okout w6.heap.size w7.heap.size w3.heap.size w4.heap.size w5.heap.size Fa Fb (i + 1) j) (fun k => (Fa k = i ∧ k < w4.heap.size) ∧ w3.heap.size ≤ k) rfl rfl ?hp ?hokp ?hfr ?hHO ?hHB ?hbs ?hln ?_; (case hp => exact kd58.M_lower HB3.out.size (kd58.M_mono (fun k hk => ⟨hk.1, hk.2.1⟩) (kd58.M_bound (HBA.out.M HXX.out.1 HXX.out.2)))); (case hokp => intro k hk; have h1 := HL4.out; have h2 := HL5.out; have h3 := HZ6.out; have h4 := HZ7.out; have h5 := hk.1.2; have h6 := hk.1.1; have h7 := hk.2; exact ⟨⟨by omega, by omega, by omega, by omega⟩, fun he => by have h8 := (Kd.S_R HS.out).1 k he.symm; have h9 := h8.2.2.1; have h10 := h8.2.2.2; omega⟩); (case hfr => intro k hk; have h1 := HL4.out; have h2 := HL5.out; have h3 := HZ6.out; have h4 := HZ7.out; have h5 := blk_lt HGX.out; have h6 := blk_lt HGY.out; exact ⟨by omega, by omega, by omega, by omega⟩); (case hHO => exact Kd.S_mono HS.out (fun k hk => by have h9 := hk.2.2.1; have h10 := hk.2.2.2; exact ⟨⟨hk.1, hk.2.1, by omega, by omega⟩, fun h8 => by have h5 := h8.1.2; have h6 := h8.1.1; have h7 := h8.2; omega⟩)); (case hHB => exact HB.out); (case hbs => exact HB.out.size); (case hln => have := HM.out.2; have h2 := HO.out.2.2.1; have h3 := HO.out.2.2.2.1; omega); intro v9 w9 hS hb hg hat; have HS9 := Aside0.mk hS; have HB9 := Aside0.mk hb; have HG9 := Aside0.mk hg; clear hS hb hg hat))
          clear hx0 hx1 hx2 hx3 hx4 hx5 hy1
          have HNX := Aside0.mk (fun k (hk : u6.ownBlock = some k) => (Kd.S_R HS.out).1 k hk)
          have HT9 := Aside0.mk (Kd.S_typed HS.out)
          have HGX9 := Aside0.mk (blk_grown HGX.out HG9.out (fun he => (HNX.out _ he.symm).1 rfl))
          have HGY9 := Aside0.mk (blk_grown HGY.out HG9.out (fun he => (HNX.out _ he.symm).2.1 rfl))
          have HQA9 := Aside0.mk (blk_grown HQA.out HG9.out (fun he => by obtain ⟨q, hq⟩ := HT9.out _ he.symm; rw [HQA.out] at hq; cases hq))
          have HQB9 := Aside0.mk (blk_grown HQB.out HG9.out (fun he => by obtain ⟨q, hq⟩ := HT9.out _ he.symm; rw [HQB.out] at hq; cases hq))
          have HBA9 := Aside0.mk (HBA.out.grown HG9.out HT9.out)
          have HBB9 := Aside0.mk (HBB.out.grown HG9.out HT9.out)
          clear HGX HGY HQA HQB HBA HBB HS HB HG9 HNX HT9
          refine RLo.split (id := 10) 1 ?_
          simp only [List.take_succ_cons, List.take_zero, List.drop_succ_cons, List.drop_zero]
          go_wp2_with fail
          obtain ⟨u, G3, q3, g3, G5, q5, g5, hval, hu⟩ := QB.val HBA9.out (i + 1)
          have HU := Aside0.mk hu
          clear hu
          obtain ⟨p3, hp3⟩ : ∃ b, b = decide (i + 1 < bufa.size) := ⟨_, rfl⟩
          refine RLo.recv_next (cap := l0.length) (s := l0.length) (r := r1') (tm := false) (buf := bufa) rfl rfl rfl Try.underlying61 info58z (i + 1) HQA9.out _ p3 hval hp3 ?_
          clear hval
          have HP3 := Aside0.mk hp3
          clear hp3
          intro r3 w10 hw
          have HQA10 := Aside0.mk (by rw [hw]; exact Go.Conc.heap_setChan _ _ _ _ _ _ _ _ (blk_lt HQA9.out) : w10.heap[ca]? = some (.chan l0.length (bufa.extract (i + 1 + 1) bufa.size) true l0.length r3 false))
          have HQB10 := Aside0.mk (by rw [hw]; exact (setChan_ne _ ca _ _ _ _ _ _ (Ne.symm HNE.out)).trans HQB9.out : w10.heap[cb]? = some (.chan l1.length (bufb.extract (j + 1) bufb.size) true l1.length r2' false))
          have HGX10 := Aside0.mk (by rw [hw]; exact (setChan_ne _ ca _ _ _ _ _ _ (cells_ne_chan HQA9.out HGX9.out)).trans HGX9.out : w10.heap[w6.heap.size]? = some (.cells #[.int .i64 s.f0, .int .i64 s.f1, .bool s.f2, .slice A3' n3' d3', .bool s.f4, .slice A5' n5' d5'] 58 (0, 0)))
          have HGY10 := Aside0.mk (by rw [hw]; exact (setChan_ne _ ca _ _ _ _ _ _ (cells_ne_chan HQA9.out HGY9.out)).trans HGY9.out : w10.heap[w7.heap.size]? = some (.cells #[.int .i64 t.f0, .int .i64 t.f1, .bool t.f2, .slice E3' m3' e3', .bool t.f4, .slice E5' m5' e5'] 58 (0, 0)))
          have HBA10 := Aside0.mk (by rw [hw]; exact QB.chan HBA9.out HQA9.out : QB w10 _ _ Fa bufa l0)
          have HBB10 := Aside0.mk (by rw [hw]; exact QB.chan HBB9.out HQA9.out : QB w10 _ _ Fb bufb l1)
          have HS10 := Aside0.mk (by rw [hw]; exact S_chan HS9.out HQA9.out : Kd.S kd58 58 w10 _ _ _ _)
          have HB10 := Aside0.mk (by rw [hw]; exact Go.Conc.below_setChan HB9.out (Nat.le_trans HB3.out.size HCA.out) _ _ _ _ _ _ : Below w.heap.size w w10)
          clear hw HGX9 HGY9 HQA9 HQB9 HBA9 HBB9 HS9 HB9
          have hx0 : w10.cell? ⟨w6.heap.size, 0, none⟩ = some (.int .i64 s.f0) := blk_cell HGX10.out 0
          have hx1 : w10.cell? ⟨w6.heap.size, 1, none⟩ = some (.int .i64 s.f1) := blk_cell HGX10.out 1
          have hx2 : w10.cell? ⟨w6.heap.size, 2, none⟩ = some (.bool s.f2) := blk_cell HGX10.out 2
          have hx3 : w10.cell? ⟨w6.heap.size, 3, none⟩ = some (.slice A3' n3' d3') := blk_cell HGX10.out 3
          have hx4 : w10.cell? ⟨w6.heap.size, 4, none⟩ = some (.bool s.f4) := blk_cell HGX10.out 4
          have hx5 : w10.cell? ⟨w6.heap.size, 5, none⟩ = some (.slice A5' n5' d5') := blk_cell HGX10.out 5
          have hf : ∀ q, w10.frozen? ⟨w6.heap.size, q, none⟩ = false := blk_frozen HGX10.out
          refine RLo.walk ?_
          go_wp2
          go_roundg k1
          case measure => omega
          case rel =>
            have h1 := HL4.out; have h2 := HL5.out; have h3 := HZ6.out; have h4 := HZ7.out; have h5 := HO.out; have h6 := HM.out; have hsa := HSA.out; have hsb := HSB.out
            simp only [true_eq_decide_iff, false_eq_decide_iff, decide_eq_true_eq] at h5
            refine ⟨i + 1, j, p3, true, os ++ [s], u, t, G3, G5, E3', E5', q3, g3, q5, g5, m3', e3', m5', e5', r3, r2', by first | rfl | (simp; done), by first | rfl | (simp; done), ⟨by rw [HP3.out, hsa], HO.out.2.1, by omega, by omega, by omega⟩, ⟨by rw [← h6.1, merge_a HXX.out.1 (Or.inr ⟨_, (HY.out (by omega)).1, hle⟩)]; simp, by simp; omega⟩, ⟨set6_blk HGX10.out _ _ _ _ _ _⟩, ⟨(set6_heap _ _ _ _ _ _ _ _ (by omega)).trans HGY10.out⟩, HU, HY, ⟨(set6_heap _ _ _ _ _ _ _ _ (Ne.symm (cells_ne_chan HQA10.out HGX10.out))).trans HQA10.out⟩, ⟨(set6_heap _ _ _ _ _ _ _ _ (Ne.symm (cells_ne_chan HQB10.out HGX10.out))).trans HQB10.out⟩, ⟨set6_QB HBA10.out (by omega) _ _ _ _ _ _⟩, ⟨set6_QB HBB10.out (by omega) _ _ _ _ _ _⟩, ⟨set6_S HS10.out (fun k hk => hk.1) _ _ _ _ _ _⟩, ⟨set6_below HB10.out (by have := HB5.out.size; omega) _ _ _ _ _ _⟩⟩
        · have hle' : decide (s.f1 ≤ t.f1) = false := decide_eq_false hle
          have hx := HY.out (by have := HO.out; simp at this; omega)
          have HXX := Aside0.mk hx
          clear hx
          have hx0 : wr.cell? ⟨w7.heap.size, 0, none⟩ = some (.int .i64 t.f0) := blk_cell HGY.out 0
          have hx1 : wr.cell? ⟨w7.heap.size, 1, none⟩ = some (.int .i64 t.f1) := blk_cell HGY.out 1
          have hx2 : wr.cell? ⟨w7.heap.size, 2, none⟩ = some (.bool t.f2) := blk_cell HGY.out 2
          have hx3 : wr.cell? ⟨w7.heap.size, 3, none⟩ = some (.slice E3' m3' e3') := blk_cell HGY.out 3
          have hx4 : wr.cell? ⟨w7.heap.size, 4, none⟩ = some (.bool t.f4) := blk_cell HGY.out 4
          have hx5 : wr.cell? ⟨w7.heap.size, 5, none⟩ = some (.slice E5' m5' e5') := blk_cell HGY.out 5
          have hy1 : wr.cell? ⟨w6.heap.size, 1, none⟩ = some (.int .i64 s.f1) := blk_cell HGX.out 1
          go_upto_region 12 with (first | (at_builtin; refine Kd.S_append kd58 (w0 := w) w.heap.size rfl (.tmp 74) (.tmp 76) 24 58 (.agg #[(.int .i64 0), (.int .i64 0), (.bool false), (.slice none 0 0), (.bool false), (.slice none 0 0)]) 80 rfl Try.underlying24 info58 rfl (by decide) (by omega) u6 os t [.int .i64 t.f0, .int .i64 t.f1, .bool t.f2, .slice E3' m3' e3', .bool t.f4, .slice E5' m5' e5'] (okout w6.heap.size w7.heap.size w3.heap.size w4.heap.size w5.heap.size Fa Fb i (j + 1)) (fun k => (Fb k = j ∧ k < w5.heap.size) ∧ w4.heap.size ≤ k) rfl rfl ?hp ?hokp ?hfr ?hHO ?hHB ?hbs ?hln ?_; (case hp => exact kd58.M_lower HB4.out.size (kd58.M_mono (fun k hk => ⟨hk.1, hk.2.1⟩) (kd58.M_bound (HBB.out.M HXX.out.1 HXX.out.2)))); (case hokp => intro k hk; have h1 := HL4.out; have h2 := HL5.out; have h3 := HZ6.out; have h4 := HZ7.out; have h5 := hk.1.2; have h6 := hk.1.1; have h7 := hk.2; exact ⟨⟨by omega, by omega, by omega, by omega⟩, fun he => by have h8 := (Kd.S_R HS.out).1 k he.symm; have h9 := h8.2.2.1; have h10 := h8.2.2.2; omega⟩); (case hfr => intro k hk; have h1 := HL4.out; have h2 := HL5.out; have h3 := HZ6.out; have h4 := HZ7.out; have h5 := blk_lt HGX.out; have h6 := blk_lt HGY.out; exact ⟨by omega, by omega, by omega, by omega⟩); (case hHO => exact Kd.S_mono HS.out (fun k hk => by have h9 := hk.2.2.1; have h10 := hk.2.2.2; exact ⟨⟨hk.1, hk.2.1, by omega, by omega⟩, fun h8 => by have h5 := h8.1.2; have h6 := h8.1.1; have h7 := h8.2; omega⟩)); (case hHB => exact HB.out); (case hbs => exact HB.out.size); (case hln => have := HM.out.2; have h2 := HO.out.2.2.1; have h3 := HO.out.2.2.2.1; omega); intro v9 w9 hS hb hg hat; have HS9 := Aside0.mk hS; have HB9 := Aside0.mk hb; have HG9 := Aside0.mk hg; clear hS hb hg hat))
          clear hx0 hx1 hx2 hx3 hx4 hx5 hy1
          have HNX := Aside0.mk (fun k (hk : u6.ownBlock = some k) => (Kd.S_R HS.out).1 k hk)
          have HT9 := Aside0.mk (Kd.S_typed HS.out)
          have HGX9 := Aside0.mk (blk_grown HGX.out HG9.out (fun he => (HNX.out _ he.symm).1 rfl))
          have HGY9 := Aside0.mk (blk_grown HGY.out HG9.out (fun he => (HNX.out _ he.symm).2.1 rfl))
          have HQA9 := Aside0.mk (blk_grown HQA.out HG9.out (fun he => by obtain ⟨q, hq⟩ := HT9.out _ he.symm; rw [HQA.out] at hq; cases hq))
          have HQB9 := Aside0.mk (blk_grown HQB.out HG9.out (fun he => by obtain ⟨q, hq⟩ := HT9.out _ he.symm; rw [HQB.out] at hq; cases hq))
          have HBA9 := Aside0.mk (HBA.out.grown HG9.out HT9.out)
          have HBB9 := Aside0.mk (HBB.out.grown HG9.out HT9.out)
          clear HGX HGY HQA HQB HBA HBB HS HB HG9 HNX HT9
          refine RLo.split (id := 12) 1 ?_
          simp only [List.take_succ_cons, List.take_zero, List.drop_succ_cons, List.drop_zero]
          go_wp2_with fail
          obtain ⟨u, G3, q3, g3, G5, q5, g5, hval, hu⟩ := QB.val HBB9.out (j + 1)
          have HU := Aside0.mk hu
          clear hu
          obtain ⟨p3, hp3⟩ : ∃ b, b = decide (j + 1 < bufb.size) := ⟨_, rfl⟩
          refine RLo.recv_next (cap := l1.length) (s := l1.length) (r := r2') (tm := false) (buf := bufb) rfl rfl rfl Try.underlying61 info58z (j + 1) HQB9.out _ p3 hval hp3 ?_
          clear hval
          have HP3 := Aside0.mk hp3
          clear hp3
          intro r3 w10 hw
          have HQB10 := Aside0.mk (by rw [hw]; exact Go.Conc.heap_setChan _ _ _ _ _ _ _ _ (blk_lt HQB9.out) : w10.heap[cb]? = some (.chan l1.length (bufb.extract (j + 1 + 1) bufb.size) true l1.length r3 false))
          have HQA10 := Aside0.mk (by rw [hw]; exact (setChan_ne _ cb _ _ _ _ _ _ HNE.out).trans HQA9.out : w10.heap[ca]? = some (.chan l0.length (bufa.extract (i + 1) bufa.size) true l0.length r1' false))
          have HGX10 := Aside0.mk (by rw [hw]; exact (setChan_ne _ cb _ _ _ _ _ _ (cells_ne_chan HQB9.out HGX9.out)).trans HGX9.out : w10.heap[w6.heap.size]? = some (.cells #[.int .i64 s.f0, .int .i64 s.f1, .bool s.f2, .slice A3' n3' d3', .bool s.f4, .slice A5' n5' d5'] 58 (0, 0)))
          have HGY10 := Aside0.mk (by rw [hw]; exact (setChan_ne _ cb _ _ _ _ _ _ (cells_ne_chan HQB9.out HGY9.out)).trans HGY9.out : w10.heap[w7.heap.size]? = some (.cells #[.int .i64 t.f0, .int .i64 t.f1, .bool t.f2, .slice E3' m3' e3', .bool t.f4, .slice E5' m5' e5'] 58 (0, 0)))
          have HBA10 := Aside0.mk (by rw [hw]; exact QB.chan HBA9.out HQB9.out : QB w10 _ _ Fa bufa l0)
          have HBB10 := Aside0.mk (by rw [hw]; exact QB.chan HBB9.out HQB9.out : QB w10 _ _ Fb bufb l1)
          have HS10 := Aside0.mk (by rw [hw]; exact S_chan HS9.out HQB9.out : Kd.S kd58 58 w10 _ _ _ _)
          have HB10 := Aside0.mk (by rw [hw]; exact Go.Conc.below_setChan HB9.out (Nat.le_trans HB4.out.size HCB.out) _ _ _ _ _ _ : Below w.heap.size w w10)
          clear hw HGX9 HGY9 HQA9 HQB9 HBA9 HBB9 HS9 HB9
          have hx0 : w10.cell? ⟨w7.heap.size, 0, none⟩ = some (.int .i64 t.f0) := blk_cell HGY10.out 0
          have hx1 : w10.cell? ⟨w7.heap.size, 1, none⟩ = some (.int .i64 t.f1) := blk_cell HGY10.out 1
          have hx2 : w10.cell? ⟨w7.heap.size, 2, none⟩ = some (.bool t.f2) := blk_cell HGY10.out 2
          have hx3 : w10.cell? ⟨w7.heap.size, 3, none⟩ = some (.slice E3' m3' e3') := blk_cell HGY10.out 3
          have hx4 : w10.cell? ⟨w7.heap.size, 4, none⟩ = some (.bool t.f4) := blk_cell HGY10.out 4
          have hx5 : w10.cell? ⟨w7.heap.size, 5, none⟩ = some (.slice E5' m5' e5') := blk_cell HGY10.out 5
          have hf : ∀ q, w10.frozen? ⟨w7.heap.size, q, none⟩ = false := blk_frozen HGY10.out
          refine RLo.walk ?_
          go_wp2
          go_roundg k1
          case measure => omega
          case rel =>
            have h1 := HL4.out; have h2 := HL5.out; have h3 := HZ6.out; have h4 := HZ7.out; have h5 := HO.out; have h6 := HM.out; have hsa := HSA.out; have hsb := HSB.out
            simp only [true_eq_decide_iff, false_eq_decide_iff, decide_eq_true_eq] at h5
            refine ⟨i, j + 1, true, p3, os ++ [t], s, u, A3', A5', G3, G5, n3', d3', n5', d5', q3, g3, q5, g5, r1', r3, by first | rfl | (simp; done), by first | rfl | (simp; done), ⟨HO.out.1, by rw [HP3.out, hsb], by omega, by omega, by omega⟩, ⟨by rw [← h6.1, merge_b HXX.out.1 (Or.inr ⟨_, (HX.out (by omega)).1, by omega⟩)]; simp, by simp; omega⟩, ⟨(set6_heap _ _ _ _ _ _ _ _ (by omega)).trans HGX10.out⟩, ⟨set6_blk HGY10.out _ _ _ _ _ _⟩, HX, HU, ⟨(set6_heap _ _ _ _ _ _ _ _ (Ne.symm (cells_ne_chan HQA10.out HGY10.out))).trans HQA10.out⟩, ⟨(set6_heap _ _ _ _ _ _ _ _ (Ne.symm (cells_ne_chan HQB10.out HGY10.out))).trans HQB10.out⟩, ⟨set6_QB HBA10.out (by omega) _ _ _ _ _ _⟩, ⟨set6_QB HBB10.out (by omega) _ _ _ _ _ _⟩, ⟨set6_S HS10.out (fun k hk => hk.2.1) _ _ _ _ _ _⟩, ⟨set6_below HB10.out (by have := HB5.out.size; omega) _ _ _ _ _ _⟩⟩
end Go.Proofs.Ytlhbclblehmdbaa.PFnExactRecordsMerge
