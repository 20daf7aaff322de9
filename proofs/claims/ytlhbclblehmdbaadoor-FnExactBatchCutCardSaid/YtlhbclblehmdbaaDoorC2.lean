/- Records whose key and value share no memory; the contracts of slices.Clone at numbers and of the program's copyOf: for every record that can be read, a copy in new memory. -/
import Derived.Test.YtlhbclblehmdbaaDoorC0
import Derived.Lib.SliceRun
import Derived.WalkSpells
set_option linter.unusedVariables false
set_option linter.unusedSimpArgs false
namespace Go.Proofs.YtlhbclblehmdbaaDoor.PFnExactBatchCut
open Go.RowKit Go.Proofs.YtlhbclblehmdbaaDoorW.PrintWords Go.Proofs.YtlhbclblehmdbaaDoorW.PrintLast Go.Proofs.YtlhbclblehmdbaaDoorW.PrintMore

/-- A record whose key's row and value's row are two blocks. -/
def kd41 : Kd S41 where
  sz := k41.sz
  E := k41.E
  K := k41.K
  M := fun w base ok x cs => ∃ v3 v5, cs = [.int .i64 x.f0, .int .i64 x.f1, .bool x.f2, v3, .bool x.f4, v5] ∧ (Kd.int .i64).R 3 w base (fun k => ok k ∧ some k ≠ (v5 : Value).ownBlock) v3 x.f3 ∧ (Kd.int .i64).R 3 w base (fun k => ok k ∧ some k ≠ (v3 : Value).ownBlock) v5 x.f5
  K_len := k41.K_len
  K_one := k41.K_one
  K_below := k41.K_below
  K_of_M := by
    rintro w base ok x cs ⟨v3, v5, rfl, h3, h5⟩
    exact k41.K_of_M (k41_mkM w base ok x (Kd.R_mono h3 (fun _ hk => hk.1)) (Kd.R_mono h5 (fun _ hk => hk.1)))
  M_mono := by
    rintro w base ok ok' x cs hok ⟨v3, v5, rfl, h3, h5⟩
    exact ⟨v3, v5, rfl, Kd.R_mono h3 (fun k hk => ⟨hok k hk.1, hk.2⟩), Kd.R_mono h5 (fun k hk => ⟨hok k hk.1, hk.2⟩)⟩
  M_bound := by
    rintro w base ok x cs ⟨v3, v5, rfl, h3, h5⟩
    refine ⟨v3, v5, rfl, Kd.R_mono (Kd.R_bound h3) (fun k hk => ?_), Kd.R_mono (Kd.R_bound h5) (fun k hk => ?_)⟩
    all_goals
      obtain ⟨⟨h1, h2⟩, h4, h5, q, hq, hc⟩ := hk
      exact ⟨⟨h1, h4, h5, 3, by decide, (by
        have : q = 3 := by simpa [Kd.int, Kd.scalar] using hq
        subst this; exact hc)⟩, h2⟩
  M_move := by
    rintro w w1 base ok x cs hm ⟨v3, v5, rfl, h3, h5⟩
    exact ⟨v3, v5, rfl, Kd.R_move h3 (fun k hk => hm k hk.1), Kd.R_move h5 (fun k hk => hm k hk.1)⟩
  M_lower := by
    rintro w base base' ok x cs hb ⟨v3, v5, rfl, h3, h5⟩
    exact ⟨v3, v5, rfl, Kd.R_lower h3 hb, Kd.R_lower h5 hb⟩

theorem kd41_openM {w : World} {base : Nat} {ok : Nat → Prop} {x : S41} {cs : List Value} (h : kd41.M w base ok x cs) : ∃ v3 v5, cs = [.int .i64 x.f0, .int .i64 x.f1, .bool x.f2, v3, .bool x.f4, v5] ∧ (Kd.int .i64).R 3 w base (fun k => ok k ∧ some k ≠ (v5 : Value).ownBlock) v3 x.f3 ∧ (Kd.int .i64).R 3 w base (fun k => ok k ∧ some k ≠ (v3 : Value).ownBlock) v5 x.f5 := h
theorem kd41_mkM (w : World) (base : Nat) (ok : Nat → Prop) (x : S41) {v3 v5 : Value} (g3 : (Kd.int .i64).R 3 w base (fun k => ok k ∧ some k ≠ (v5 : Value).ownBlock) v3 x.f3) (g5 : (Kd.int .i64).R 3 w base (fun k => ok k ∧ some k ≠ (v3 : Value).ownBlock) v5 x.f5) :
    kd41.M w base ok x [.int .i64 x.f0, .int .i64 x.f1, .bool x.f2, v3, .bool x.f4, v5] := ⟨v3, v5, rfl, g3, g5⟩
theorem kd41_k58 {w : World} {base : Nat} {ok : Nat → Prop} {x : S41} {cs : List Value} (h : kd41.M w base ok x cs) : k41.M w base ok x cs := by
  obtain ⟨v3, v5, rfl, h3, h5⟩ := h
  exact k41_mkM w base ok x (Kd.R_mono h3 (fun _ hk => hk.1)) (Kd.R_mono h5 (fun _ hk => hk.1))
theorem S_k41 {e : Nat} {w : World} {base : Nat} {ok : Nat → Prop} {v : Value} {xs : List S41} (h : Kd.S kd41 e w base ok v xs) : Kd.S k41 e w base ok v xs := by
  obtain ⟨f, h0, h1⟩ := h
  exact ⟨f, h0, h1.imp_ (fun _ _ hp => kd41_k58 hp)⟩
theorem C_kd41 {w : World} {A : Option Addr} {n : Nat} {xs : List S41} (h : Kd.C kd41 w A n xs) : Kd.C k41 w A n xs := h

/-- A copy in new memory; nil stays nil. -/
theorem slices_Clone.calls (A0 : Option Addr) (c0 : Nat) (l0 : List Int) (w : World) (hr0 : Kd.C (Kd.int .i64) w A0 l0.length l0) (hc0 : l0.length ≤ c0) (hl : l0.length < 17592186044416) :
    Calls Tryd.prog 63 #[.slice A0 l0.length c0] w fun e w' => ∃ v0_ : Value, e = .returned v0_ ∧ Kd.R (Kd.int .i64) 3 w' w.heap.size (fun _ => True) v0_ l0 ∧ Below w.heap.size w w' := by
  have HR := Aside0.mk hr0
  have HL := Aside0.mk hl
  clear hr0 hl
  have qT : ∀ (w : World) (a : Option Addr) (n c n' c' : Nat), (binOp .eql 39 (.slice a n c) (.slice none n' c')).run Tryd.prog w = .ok (.bool a.isNone) w := fun w a n c n' c' => Lib.run_eql_slice_nil w _ _ a n c n' c' Tryd.underlying39
  rcases A0 with _ | ad
  · have h0 : l0 = [] := by
      rcases Nat.eq_zero_or_pos l0.length with h0 | h0
      · exact List.eq_nil_of_length_eq_zero h0
      · obtain ⟨ad, h, _⟩ := HR.out.2.2 h0
        cases h
    have H0 := Aside0.mk h0
    clear h0
    go_enter Tryd.func63, Tryd.ntmps63
    go_wp2
    go_ret
    exact ⟨_, rfl, by rw [H0.out]; exact Kd.R_nil _ _ _ _ _, Below.refl _ _⟩
  · go_enter Tryd.func63, Tryd.ntmps63
    go_wp2_with (first | ((with_reducible refine gate_dst (N := 5) rfl ?_); refine Kd.R_lit (Kd.int .i64) _ 3 ?hg (N := 5) ?hd (xs := ([] : List Int)) (inner := []) (ok := fun _ => True) (okp := fun _ => True) ?hr ?hp (fun _ hk => hk) trivial (Below.refl _ _) (Nat.le_refl _) (by simp) ?_; (case hd => rfl); (case hg => rfl); (case hr => first | (go_simp; done) | (go_simp; rfl)); (case hp => exact (Reps.none _ _)); intro v1 w1 ho hb hg_ hnew_; clear hg_ hnew_; have HO := Aside0.mk ho; have HB := Aside0.mk hb; clear ho hb) | ((with_reducible refine gate_dst (N := 7) rfl ?_); refine Kd.R_append_rows (Kd.int .i64) (w0 := w) w.heap.size rfl (.tmp 5) (.tmp 6) 39 3 (.int .i64 0) 8 rfl Tryd.underlying39 info3 rfl (by decide) (by omega) v1 [] l0 _ _ _ (fun _ => True) (fun _ => False) rfl rfl HO.out (Kd.C_below HR.out HB.out) (fun _ _ h => h) (fun _ h => h.elim) (fun _ _ => trivial) HB.out (below_size HB.out) ?aL ?_; (case aL => have := HL.out; simp; omega); intro v2 w2 ho hb hg hat; clear hg hat; have HO2 := Aside0.mk ho; have HB2 := Aside0.mk hb; clear ho hb))
    go_ret
    exact ⟨_, rfl, by simpa using HO2.out, HB2.out⟩
end Go.Proofs.YtlhbclblehmdbaaDoor.PFnExactBatchCut
