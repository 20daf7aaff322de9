/- The contract of the program's flow: for at most 30 records that can be read, a closed channel whose buffer holds copies of them, in order, in new memory of which no two share any. -/
import Derived.Test.YtlhbclblehmdbaaB0
import Derived.Test.YtlhbclblehmdbaaB2
set_option linter.unusedVariables false
set_option linter.unusedSimpArgs false
namespace Go.Proofs.Ytlhbclblehmdbaa.PFnExactRecordsMerge
open Go.RowKit Go.Proofs.YtlhbclblehmdbaaW.PrintWords Go.Proofs.YtlhbclblehmdbaaW.PrintLast Go.Proofs.YtlhbclblehmdbaaW.PrintMore
open Go.Proofs.Ytlhbclblehmdbaa.Comm

/-- The buffer holds these records; block k is that of record F k. -/
def QF (w : World) (base : Nat) (F : Nat → Nat) (buf : Array Value) (xs : List S58) : Prop :=
  buf.size = xs.length ∧ ∀ j x, xs[j]? = some x → ∃ cs, buf[j]? = some (.agg cs.toArray) ∧ kd58.M w base (fun k => F k = j) x cs

theorem QF.below {w w1 : World} {base : Nat} {F : Nat → Nat} {buf : Array Value} {xs : List S58} (h : QF w base F buf xs) (hb : Below w.heap.size w w1) : QF w1 base F buf xs :=
  ⟨h.1, fun j x hj => let ⟨cs, hc, hM⟩ := h.2 j x hj; ⟨cs, hc, Kd.M_below hM hb⟩⟩
/-- One record more behind the others: its blocks are new. -/
theorem QF.snoc {w w1 : World} {base : Nat} {F : Nat → Nat} {buf : Array Value} {xs : List S58} (h : QF w base F buf xs) (hb : Below w.heap.size w w1) (hbase : base ≤ w.heap.size) {x : S58} {v3 v5 : Value}
    (h3 : (Kd.int .i64).R 3 w1 w.heap.size (fun k => some k ≠ (v5 : Value).ownBlock) v3 x.f3) (h5 : (Kd.int .i64).R 3 w1 w.heap.size (fun k => some k ≠ (v3 : Value).ownBlock) v5 x.f5) :
    QF w1 base (fun k => if k < w.heap.size then F k else xs.length) (buf.push (.agg #[.int .i64 x.f0, .int .i64 x.f1, .bool x.f2, v3, .bool x.f4, v5])) (xs ++ [x]) := by
  refine ⟨by simp [h.1], fun j y hj => ?_⟩
  rcases Nat.lt_trichotomy j xs.length with hlt | heq | hgt
  · rw [List.getElem?_append_left hlt] at hj
    obtain ⟨cs, hc, hM⟩ := h.2 j y hj
    refine ⟨cs, by rw [Array.getElem?_push, if_neg (by rw [h.1]; omega)]; exact hc, ?_⟩
    refine kd58.M_mono (fun k hk => ?_) (Kd.M_below (kd58.M_bound hM) hb)
    show (if k < w.heap.size then F k else xs.length) = j
    rw [if_pos hk.2.2.1]; exact hk.1
  · subst heq
    rw [List.getElem?_append_right (Nat.le_refl _)] at hj
    simp at hj
    subst hj
    refine ⟨[.int .i64 x.f0, .int .i64 x.f1, .bool x.f2, v3, .bool x.f4, v5], by rw [Array.getElem?_push, if_pos h.1.symm], ?_⟩
    refine kd58_mkM w1 base _ x (Kd.R_lower (Kd.R_mono (Kd.R_bound h3) (fun k hk => ⟨?_, hk.1⟩)) hbase) (Kd.R_lower (Kd.R_mono (Kd.R_bound h5) (fun k hk => ⟨?_, hk.1⟩)) hbase)
    · exact if_neg (by have := hk.2.1; omega)
    · exact if_neg (by have := hk.2.1; omega)
  · rw [List.getElem?_eq_none (by simp; omega)] at hj
    cases hj
theorem QF.nil (w : World) (base : Nat) (F : Nat → Nat) : QF w base F #[] [] := ⟨rfl, fun j x hj => by simp at hj⟩

/-! ### A channel's block turned: rows lie elsewhere -/
theorem setChan_ne (w : World) (c cap : Nat) (buf : Array Value) (cl : Bool) (s r : Nat) (tm : Bool) {k : Nat} (h : k ≠ c) : (w.setChan c cap buf cl s r tm).heap[k]? = w.heap[k]? := by
  simp only [World.setChan]
  rw [Array.getElem?_setIfInBounds_ne (Ne.symm h)]
section
variable {α : Type} {d : Kd α} {w : World} {base e c cap cap' s r s' r' : Nat} {buf buf' : Array Value} {cl cl' tm tm' : Bool} {ok : Nat → Prop} {x : α} {cs : List Value} {v : Value} {xs : List α}
theorem cells_ne_chan (hc : w.heap[c]? = some (.chan cap buf cl s r tm)) {k t : Nat} {a : Array Value} {fr : Nat × Nat} (hk : w.heap[k]? = some (.cells a t fr)) : k ≠ c := by
  rintro rfl
  rw [hc] at hk
  cases hk
theorem M_chan (h : d.M w base ok x cs) (hc : w.heap[c]? = some (.chan cap buf cl s r tm)) : d.M (w.setChan c cap' buf' cl' s' r' tm') base ok x cs :=
  d.M_mono (fun _ hk => hk.1) (d.M_move (fun k hk => by
    obtain ⟨_, _, _, q, _, a, ha⟩ := hk
    exact setChan_ne w c _ _ _ _ _ _ (cells_ne_chan hc ha)) (d.M_bound h))
theorem R_chan (h : d.R e w base ok v xs) (hc : w.heap[c]? = some (.chan cap buf cl s r tm)) : d.R e (w.setChan c cap' buf' cl' s' r' tm') base ok v xs :=
  Kd.R_mono (Kd.R_move (Kd.R_bound h) (fun k hk => by
    obtain ⟨_, _, _, q, _, a, ha⟩ := hk
    exact setChan_ne w c _ _ _ _ _ _ (cells_ne_chan hc ha))) (fun _ hk => hk.1)
theorem S_chan (h : Kd.S d e w base ok v xs) (hc : w.heap[c]? = some (.chan cap buf cl s r tm)) : Kd.S d e (w.setChan c cap' buf' cl' s' r' tm') base ok v xs := by
  obtain ⟨f, h⟩ := h
  exact ⟨f, R_chan h hc⟩
end
theorem QF.chan {w : World} {base : Nat} {F : Nat → Nat} {buf : Array Value} {xs : List S58} (h : QF w base F buf xs) {c cap cap' s r s' r' : Nat} {b b' : Array Value} {cl cl' tm tm' : Bool} (hc : w.heap[c]? = some (.chan cap b cl s r tm)) : QF (w.setChan c cap' b' cl' s' r' tm') base F buf xs :=
  ⟨h.1, fun j x hj => let ⟨cs, hcs, hM⟩ := h.2 j x hj; ⟨cs, hcs, M_chan hM hc⟩⟩

theorem take_snoc58 (xs : List S58) (i : Int) (h0 : 0 ≤ i) (h1 : i < xs.length) : xs.take (i + 1).toNat = xs.take i.toNat ++ [rd_T58 xs i] := by
  have : (i + 1).toNat = i.toNat + 1 := by omega
  rw [this, List.take_add_one, List.getElem?_eq_getElem (by omega)]
  simp [rd_T58, List.getD_eq_getElem?_getD, List.getElem?_eq_getElem (show i.toNat < xs.length by omega)]

theorem mkChan (n : Nat) (h : n ≤ 30) (w : World) : (Instr.makeChan 90 (.int .i64 (n : Int))).run Try.prog w = .ok (.chan (some w.heap.size)) (w.alloc (.chan n #[] false 0 0 false)) := by
  have h1 : (Try.prog.info? 58).map (·.bytes) = some 80 := by kernel_rfl
  obtain ⟨i, hi, hb⟩ := Option.map_eq_some_iff.1 h1
  exact Go.Conc.run_makeChan (P := Try.prog) (w := w) Try.underlying90 hi .i64 n (by omega) (by rw [hb]; omega)

set_option maxHeartbeats 4000000 in
set_option maxRecDepth 100000 in
theorem impl_flow.calls (A0 : Option Addr) (c0 : Nat) (l0 : List S58) (w : World) (hr0 : Kd.C k58 w A0 l0.length l0) (hc0 : l0.length ≤ c0) (hl : l0.length ≤ 30) (hp : ∀ x ∈ l0, x.f3.length < 17592186044416 ∧ x.f5.length < 17592186044416) :
    Calls Try.prog 38 #[.slice A0 l0.length c0] w fun e w' => ∃ (c : Nat) (F : Nat → Nat) (buf : Array Value), e = .returned (.chan (some c)) ∧ w.heap.size ≤ c ∧ w'.heap[c]? = some (.chan l0.length buf true l0.length 0 false) ∧ QF w' w.heap.size F buf l0 ∧ Below w.heap.size w w' := by
  have HR := Aside0.mk hr0
  have HC := Aside0.mk hc0
  have HP := Aside0.mk hp
  clear hr0 hc0 hp
  have hmc := fun W => mkChan l0.length hl W
  have hu58 := Try.underlying58
  go_enter Try.func38, Try.ntmps38
  go_wp2
  clear hmc
  go_loopw [11] (fun i wr => ∃ i0 : Int, i = .int .i64 i0 ∧ 0 ≤ i0 ∧ i0 ≤ (l0.length : Int) ∧ Aside0 (Below w.heap.size w wr) ∧ Aside0 (∃ F buf, wr.heap[w.heap.size]? = some (.chan l0.length buf false i0.toNat 0 false) ∧ QF wr w.heap.size F buf (l0.take i0.toNat))) (fun i _ => l0.length - (intOf i).toNat)
  case atStart => exact ⟨0, rfl, by omega, by omega, ⟨below_alloc (Below.refl _ _) _⟩, ⟨fun _ => 0, #[], blk_new w _, QF.nil _ _ _⟩⟩
  case round =>
    obtain ⟨i0, rfl, hi0, hi1, HB, HQ⟩ := hrel
    by_cases hlt : i0 < (l0.length : Int)
    · have p183 := hi0
      have q183 := hlt
      obtain ⟨ad, A3, c3, A5, c5, e183, hx0, hx1, hx2, hx3, hx4, hx5, hl3, hi3, hl5, hi5⟩ := at_T58 HR.out i0 p183 q183
      cases e183
      replace hx0 := (HB.out.cell (World.block_lt_of_cell? w _ hx0)).trans hx0
      replace hx1 := (HB.out.cell (World.block_lt_of_cell? w _ hx1)).trans hx1
      replace hx2 := (HB.out.cell (World.block_lt_of_cell? w _ hx2)).trans hx2
      replace hx3 := (HB.out.cell (World.block_lt_of_cell? w _ hx3)).trans hx3
      replace hx4 := (HB.out.cell (World.block_lt_of_cell? w _ hx4)).trans hx4
      replace hx5 := (HB.out.cell (World.block_lt_of_cell? w _ hx5)).trans hx5
      have HR3 := Aside0.mk hi3
      have HR5 := Aside0.mk hi5
      have HC3 := Aside0.mk hl3
      have HC5 := Aside0.mk hl5
      clear hi3 hi5 hl3 hl5
      obtain ⟨x, hx⟩ : ∃ x, x = rd_T58 l0 i0 := ⟨_, rfl⟩
      rw [← hx] at hx0 hx1 hx2 hx3 hx4 hx5 HR3 HR5 HC3 HC5
      have HX := Aside0.mk hx
      clear hx
      have HXM := Aside0.mk (show x ∈ l0 by rw [HX.out]; simp only [rd_T58, List.getD_eq_getElem?_getD, List.getElem?_eq_getElem (show i0.toNat < l0.length by omega), Option.getD_some]; exact List.getElem_mem _)
      have HT := Aside0.mk (take_snoc58 l0 i0 p183 q183)
      go_upto_region 5 with (fail)
      refine RLo.split (id := 5) 3 ?_
      simp only [List.take_succ_cons, List.take_zero, List.drop_succ_cons, List.drop_zero]
      go_wp2_with (first | (go_at_call 58; refine (impl_copyOf.calls x A3 c3 A5 c5 _ (Kd.C_alloc (Kd.C_below HR3.out HB.out) _) HC3.out (Kd.C_alloc (Kd.C_below HR5.out HB.out) _) HC5.out ?hl3 ?hl5).mono ?_; (case hl3 => exact (HP.out x HXM.out).1); (case hl5 => exact (HP.out x HXM.out).2); rintro e w1 ⟨v3, v5, rfl, h3, h5, hb⟩; have H3 := Aside0.mk h3; have H5 := Aside0.mk h5; have HB1 := Aside0.mk hb; clear h3 h5 hb))
      obtain ⟨F, buf, hq, hQ⟩ := HQ.out
      have hq1 := blk_below (blk_alloc hq (.cells #[.int .i64 x.f0, .int .i64 x.f1, .bool x.f2, .slice A3 x.f3.length c3, .bool x.f4, .slice A5 x.f5.length c5] 58)) HB1.out
      have hsz : (l0.take i0.toNat).length = i0.toNat := by rw [List.length_take]; omega
      refine RLo.send rfl rfl rfl rfl hq1 (by rw [hQ.1, hsz]; omega) (RLo.walk ?_)
      have HQ1 := Aside0.mk (QF.chan (cap' := l0.length) (b' := buf.push (.agg #[.int .i64 x.f0, .int .i64 x.f1, .bool x.f2, v3, .bool x.f4, v5])) (cl' := false) (s' := i0.toNat + 1) (r' := 0) (tm' := false) (QF.snoc (QF.below hQ (below_alloc (Below.refl _ _) _)) HB1.out (by simp; exact Nat.le_trans HB.out.size (by omega)) H3.out H5.out) hq1)
      have HB2 := Aside0.mk (Go.Conc.below_setChan (below_step (below_alloc HB.out _) HB1.out) (Nat.le_refl _) l0.length (buf.push (.agg #[.int .i64 x.f0, .int .i64 x.f1, .bool x.f2, v3, .bool x.f4, v5])) false (i0.toNat + 1) 0 false)
      have HH := Aside0.mk (Go.Conc.heap_setChan w1 w.heap.size l0.length (buf.push (.agg #[.int .i64 x.f0, .int .i64 x.f1, .bool x.f2, v3, .bool x.f4, v5])) false (i0.toNat + 1) 0 false (blk_lt hq1))
      clear hq hQ hq1 HQ
      clear hx0 hx1 hx2 hx3 hx4 hx5 hsz
      go_wp2
      go_roundw
      case measure => simp [intOf]; omega
      case rel =>
        have e1 : (i0 + 1).toNat = i0.toNat + 1 := by omega
        refine ⟨i0 + 1, by first | rfl | (simp; done), by omega, by omega, HB2, ⟨_, _, by rw [e1]; exact HH.out, by rw [HT.out, ← HX.out]; exact HQ1.out⟩⟩
    · have e0 : i0 = (l0.length : Int) := by omega
      subst e0
      obtain ⟨F, buf, hq, hQ⟩ := HQ.out
      have HQ' := Aside0.mk hQ
      rw [Int.toNat_natCast] at hq
      have hcl := fun ats ty => Go.run_close_open (P := Try.prog) ats ty hq
      have HQC := Aside0.mk hq
      clear hq hQ HQ
      go_wp2
      go_ret
      have hQ := HQ'.out
      rw [Int.toNat_natCast, List.take_of_length_le (Nat.le_refl _)] at hQ
      exact ⟨w.heap.size, rfl, Nat.le_refl _, F, buf, Go.Conc.heap_setChan wr w.heap.size l0.length buf true l0.length 0 false (blk_lt HQC.out), QF.chan (b' := buf) (cap' := l0.length) (cl' := true) (s' := l0.length) (r' := 0) (tm' := false) hQ HQC.out, Go.Conc.below_setChan HB.out (Nat.le_refl _) l0.length buf true l0.length 0 false⟩
end Go.Proofs.Ytlhbclblehmdbaa.PFnExactRecordsMerge
