/- The contract of the program's Batch.cut: nothing and the sentinel, or the records below the offset and the others, each in new memory, the two rows apart. -/
import Derived.Test.YtlhbclblehmdbaaDoorC7
import Derived.Test.YtlhbclblehmdbaaDoorC2b
import Derived.Test.YtlhbclblehmdbaaDoorC17
set_option linter.unusedVariables false
set_option linter.unusedSimpArgs false
namespace Go.Proofs.YtlhbclblehmdbaaDoor.PFnExactBatchCut
open Go.RowKit Go.Proofs.YtlhbclblehmdbaaDoorW.PrintWords Go.Proofs.YtlhbclblehmdbaaDoorW.PrintLast Go.Proofs.YtlhbclblehmdbaaDoorW.PrintMore

/-! ### Six cells of one block written -/
@[reducible] def set6 (w : World) (g : Nat) (b0 b1 b2 b3 b4 b5 : Value) : World := (((((w.setCell ⟨g, 0, none⟩ b0).setCell ⟨g, 1, none⟩ b1).setCell ⟨g, 2, none⟩ b2).setCell ⟨g, 3, none⟩ b3).setCell ⟨g, 4, none⟩ b4).setCell ⟨g, 5, none⟩ b5
theorem set6_heap (w : World) (g : Nat) (b0 b1 b2 b3 b4 b5 : Value) {k : Nat} (h : k ≠ g) : (set6 w g b0 b1 b2 b3 b4 b5).heap[k]? = w.heap[k]? := by
  unfold set6
  rw [Below.heap_setCell _ _ _ _ h, Below.heap_setCell _ _ _ _ h, Below.heap_setCell _ _ _ _ h, Below.heap_setCell _ _ _ _ h, Below.heap_setCell _ _ _ _ h, Below.heap_setCell _ _ _ _ h]
theorem set6_cell (w : World) (g : Nat) (b0 b1 b2 b3 b4 b5 : Value) {p : Addr} (h : p.block ≠ g) : (set6 w g b0 b1 b2 b3 b4 b5).cell? p = w.cell? p := by
  unfold World.cell?
  rw [set6_heap w g b0 b1 b2 b3 b4 b5 h]
theorem set6_size (w : World) (g : Nat) (b0 b1 b2 b3 b4 b5 : Value) : (set6 w g b0 b1 b2 b3 b4 b5).heap.size = w.heap.size := by
  unfold set6
  simp
theorem set6_S {α : Type} {d : Kd α} {e base : Nat} {ok : Nat → Prop} {v : Value} {xs : List α} {w : World} {g : Nat} (h : Kd.S d e w base ok v xs) (hok : ∀ k, ok k → k ≠ g) (b0 b1 b2 b3 b4 b5 : Value) : Kd.S d e (set6 w g b0 b1 b2 b3 b4 b5) base ok v xs :=
  Kd.S_far (p := ⟨g, 5, none⟩) (Kd.S_far (p := ⟨g, 4, none⟩) (Kd.S_far (p := ⟨g, 3, none⟩) (Kd.S_far (p := ⟨g, 2, none⟩) (Kd.S_far (p := ⟨g, 1, none⟩) (Kd.S_far (p := ⟨g, 0, none⟩) h hok b0) hok b1) hok b2) hok b3) hok b4) hok b5
theorem set6_below {w0 w : World} {g : Nat} (h : Below w0.heap.size w0 w) (hg : w0.heap.size ≤ g) (b0 b1 b2 b3 b4 b5 : Value) : Below w0.heap.size w0 (set6 w g b0 b1 b2 b3 b4 b5) :=
  below_set (below_set (below_set (below_set (below_set (below_set h hg) hg) hg) hg) hg) hg

/-- The boxes of a run of Batch.cut: the two results (still empty), and the two batches made. -/
structure Bx (W0 W : World) (g4 g5 g7 g8 : Nat) (pk : Bool) (uA uB : Value) : Prop where
  h4 : W.heap[g4]? = some (.cells #[.bool false, .bool false, .int .i64 0, .int .i64 0, .int .i64 0, .slice none 0 0] 28 (0, 0))
  h5 : W.heap[g5]? = some (.cells #[.bool false, .bool false, .int .i64 0, .int .i64 0, .int .i64 0, .slice none 0 0] 28 (0, 0))
  h7 : W.heap[g7]? = some (.cells #[.bool pk, .bool false, .int .i64 255, .int .i64 0, .int .i64 0, uA] 28 (0, 0))
  h8 : W.heap[g8]? = some (.cells #[.bool pk, .bool false, .int .i64 255, .int .i64 0, .int .i64 0, uB] 28 (0, 0))
  b : Below W0.heap.size W0 W
  l : W0.heap.size ≤ g4 ∧ W0.heap.size ≤ g5 ∧ W0.heap.size ≤ g7 ∧ W0.heap.size ≤ g8
  n : g4 ≠ g5 ∧ g4 ≠ g7 ∧ g4 ≠ g8 ∧ g5 ≠ g7 ∧ g5 ≠ g8 ∧ g7 ≠ g8
section
variable {W0 W W1 : World} {g4 g5 g7 g8 : Nat} {pk : Bool} {uA uB : Value}
theorem Bx.step (h : Bx W0 W g4 g5 g7 g8 pk uA uB) (hm : ∀ k, k = g4 ∨ k = g5 ∨ k = g7 ∨ k = g8 → W1.heap[k]? = W.heap[k]?) (hb : Below W0.heap.size W0 W1) : Bx W0 W1 g4 g5 g7 g8 pk uA uB :=
  ⟨(hm _ (by simp)).trans h.h4, (hm _ (by simp)).trans h.h5, (hm _ (by simp)).trans h.h7, (hm _ (by simp)).trans h.h8, hb, h.l, h.n⟩
theorem Bx.lt (h : Bx W0 W g4 g5 g7 g8 pk uA uB) : ∀ k, k = g4 ∨ k = g5 ∨ k = g7 ∨ k = g8 → k < W.heap.size := by
  rintro k (rfl | rfl | rfl | rfl)
  · exact blk_lt h.h4
  · exact blk_lt h.h5
  · exact blk_lt h.h7
  · exact blk_lt h.h8
theorem Bx.below (h : Bx W0 W g4 g5 g7 g8 pk uA uB) (hb : Below W.heap.size W W1) : Bx W0 W1 g4 g5 g7 g8 pk uA uB :=
  h.step (fun k hk => hb.block k (h.lt k hk)) (below_step h.b hb)
theorem Bx.drew (h : Bx W0 W g4 g5 g7 g8 pk uA uB) : Bx W0 W.drew g4 g5 g7 g8 pk uA uB := h.below (below_drew (Below.refl _ _))
theorem Bx.alloc (h : Bx W0 W g4 g5 g7 g8 pk uA uB) (o : Obj) : Bx W0 (W.alloc o) g4 g5 g7 g8 pk uA uB := h.below (below_alloc (Below.refl _ _) o)
theorem Bx.six (h : Bx W0 W g4 g5 g7 g8 pk uA uB) {g : Nat} (hg : ∀ k, k = g4 ∨ k = g5 ∨ k = g7 ∨ k = g8 → k ≠ g) (hl : W0.heap.size ≤ g) (b0 b1 b2 b3 b4 b5 : Value) : Bx W0 (set6 W g b0 b1 b2 b3 b4 b5) g4 g5 g7 g8 pk uA uB :=
  h.step (fun k hk => set6_heap W g b0 b1 b2 b3 b4 b5 (hg k hk)) (set6_below h.b hl b0 b1 b2 b3 b4 b5)
/-- A block of 28 is none of a row of records. -/
theorem Bx.not_row (h : Bx W0 W g4 g5 g7 g8 pk uA uB) {v : Value} (ht : ∀ k, v.ownBlock = some k → ∃ cells, W.heap[k]? = some (.cells cells 41 (0, 0))) : ∀ k, k = g4 ∨ k = g5 ∨ k = g7 ∨ k = g8 → some k ≠ v.ownBlock := by
  intro k hk he
  obtain ⟨cs, hc⟩ := ht k he.symm
  rcases hk with rfl | rfl | rfl | rfl
  · rw [h.h4] at hc; simp at hc
  · rw [h.h5] at hc; simp at hc
  · rw [h.h7] at hc; simp at hc
  · rw [h.h8] at hc; simp at hc
theorem Bx.put7 (h : Bx W0 W g4 g5 g7 g8 pk uA uB) (v : Value) : Bx W0 (W.setCell ⟨g7, 5, none⟩ v) g4 g5 g7 g8 pk v uB :=
  ⟨blk_far h.h4 h.n.2.1 v, blk_far h.h5 h.n.2.2.2.1 v, blk_put h.h7 5 v rfl, blk_far h.h8 (Ne.symm h.n.2.2.2.2.2) v, below_set h.b h.l.2.2.1, h.l, h.n⟩
theorem Bx.put8 (h : Bx W0 W g4 g5 g7 g8 pk uA uB) (v : Value) : Bx W0 (W.setCell ⟨g8, 5, none⟩ v) g4 g5 g7 g8 pk uA v :=
  ⟨blk_far h.h4 h.n.2.2.1 v, blk_far h.h5 h.n.2.2.2.2.1 v, blk_far h.h7 h.n.2.2.2.2.2 v, blk_put h.h8 5 v rfl, below_set h.b h.l.2.2.2, h.l, h.n⟩
end

/-- The two rows made so far: which blocks are the first's, P tells. -/
structure Two (W : World) (base : Nat) (P : Nat → Prop) (uA uB : Value) (xs ys : List S41) : Prop where
  a : Kd.S kd41 41 W base P uA xs
  b : Kd.S kd41 41 W base (fun k => ¬ P k) uB ys
section
variable {W W1 : World} {base : Nat} {P : Nat → Prop} {uA uB : Value} {xs ys : List S41}
theorem Two.below (h : Two W base P uA uB xs ys) (hb : Below W.heap.size W W1) : Two W1 base P uA uB xs ys := ⟨Kd.S_below h.a hb, Kd.S_below h.b hb⟩
theorem Two.drew (h : Two W base P uA uB xs ys) : Two W.drew base P uA uB xs ys := h.below (below_drew (Below.refl _ _))
theorem Two.alloc (h : Two W base P uA uB xs ys) (o : Obj) : Two (W.alloc o) base P uA uB xs ys := h.below (below_alloc (Below.refl _ _) o)
/-- What is newer than N may be called the first's, or the second's. -/
theorem Two.new_a (h : Two W base P uA uB xs ys) {N : Nat} (hN : W.heap.size ≤ N) : Two W base (fun k => P k ∨ N ≤ k) uA uB xs ys :=
  ⟨Kd.S_mono h.a (fun k hk => .inl hk), Kd.S_mono (Kd.S_bound h.b) (fun k hk => by have := hk.2.2.1; rintro (h1 | h1); exact hk.1 h1; omega)⟩
theorem Two.new_b (h : Two W base P uA uB xs ys) {N : Nat} (hN : W.heap.size ≤ N) : Two W base (fun k => P k ∧ k < N) uA uB xs ys :=
  ⟨Kd.S_mono (Kd.S_bound h.a) (fun k hk => ⟨hk.1, by have := hk.2.2.1; omega⟩), Kd.S_mono h.b (fun k hk h1 => hk h1.1)⟩
theorem Two.six (h : Two W base P uA uB xs ys) {g : Nat} (hg : W.heap.size ≤ g) {W2 : World} (hb : Below W.heap.size W W2) (b0 b1 b2 b3 b4 b5 : Value) : Two (set6 W2 g b0 b1 b2 b3 b4 b5) base P uA uB xs ys :=
  h.below (set6_below hb hg b0 b1 b2 b3 b4 b5)
theorem Two.box (h : Two W base P uA uB xs ys) {g : Nat} {cs : Array Value} (hg : W.heap[g]? = some (.cells cs 28 (0, 0))) (j : Nat) (v : Value) : Two (W.setCell ⟨g, j, none⟩ v) base P uA uB xs ys :=
  ⟨Kd.S_set h.a hg (by decide) j v, Kd.S_set h.b hg (by decide) j v⟩
theorem Two.six28 (h : Two W base P uA uB xs ys) {g : Nat} {cs : Array Value} (hg : W.heap[g]? = some (.cells cs 28 (0, 0))) (b0 b1 b2 b3 b4 b5 : Value) : Two (set6 W g b0 b1 b2 b3 b4 b5) base P uA uB xs ys :=
  ⟨Kd.S_mono (set6_S (Kd.S_types h.a hg (by decide)) (fun _ hk => hk.2) b0 b1 b2 b3 b4 b5) (fun _ hk => hk.1), Kd.S_mono (set6_S (Kd.S_types h.b hg (by decide)) (fun _ hk => hk.2) b0 b1 b2 b3 b4 b5) (fun _ hk => hk.1)⟩
end

set_option maxHeartbeats 8000000 in
set_option maxRecDepth 100000 in
theorem impl_cut.no (k : Nat) (b0 b1 : Bool) (n2 n3 n4 : Int) (A : Option Addr) (c : Nat) (l : List S41) (off : Int) (v : Bool) (pe : Addr) (w : World) (hr : Kd.C k41 w A l.length l) (hc : l.length ≤ c) (hv : impl_BatchValid.f k b0 b1 n2 n3 n4 l = some v) (hge : w.cell? ⟨0, 0, none⟩ = some (.iface 136 (.pointer (some pe)))) (hno : v = false ∨ n2 ≠ 255) :
    Calls Tryd.prog 22 #[.agg #[.bool b0, .bool b1, .int .i64 n2, .int .i64 n3, .int .i64 n4, .slice A l.length c], .int .i64 off] w fun e w' => e = .returned (.tuple #[.agg #[.bool false, .bool false, .int .i64 0, .int .i64 0, .int .i64 0, .slice none 0 0], .agg #[.bool false, .bool false, .int .i64 0, .int .i64 0, .int .i64 0, .slice none 0 0], .iface 136 (.pointer (some pe))]) ∧ Below w.heap.size w w' := by
  have HR := Aside0.mk hr
  have HC := Aside0.mk hc
  have HV := Aside0.mk hv
  clear hr hc hv
  have hu28 := Tryd.underlying28
  have hu41 := Tryd.underlying41
  have HB := Aside0.mk (Below.refl w.heap.size w)
  go_enter Tryd.func22, Tryd.ntmps22
  have HG := Aside0.mk hge
  have HN := Aside0.mk hno
  clear hge hno
  go_upto_region 1 with (first | ((with_reducible refine gate_dst (N := 2) rfl ?_); (try (refine gate_guard (by rfl) ?_; dsimp only)); refine box_event ?hg (N := 2) ?hd (cs := #[.bool b0, .bool b1, .int .i64 n2, .int .i64 n3, .int .i64 n4, .slice A l.length c]) (t := 28) ?hr ?_; (case hd => rfl); (case hg => rfl); (case hr => first | (go_simp; done) | (go_simp; rfl)); intro g2 hg w2 hbox hb; have HB2 := Aside0.mk hb; have H2 := Aside0.mk hbox; have G2 := Aside0.mk (Nat.le_of_eq hg.symm : w.heap.size ≤ g2); clear hb hbox hg) | ((with_reducible refine gate_dst (N := 4) rfl ?_); (try (refine gate_guard (by rfl) ?_; dsimp only)); refine box_event ?hg (N := 4) ?hd (cs := #[.bool false, .bool false, .int .i64 0, .int .i64 0, .int .i64 0, .slice none 0 0]) (t := 28) ?hr ?_; (case hd => rfl); (case hg => rfl); (case hr => first | (go_simp; done) | (go_simp; rfl)); intro g4 hg w4 hbox hb; have HB4 := Aside0.mk (below_step HB2.out hb); have H42 := Aside0.mk (blk_below H2.out hb); have H44 := Aside0.mk hbox; have G4 := Aside0.mk (by rw [hg]; exact HB2.out.size : w.heap.size ≤ g4); have N24 := Aside0.mk (by rw [hg]; exact Nat.ne_of_lt (blk_lt H2.out) : g2 ≠ g4); clear hb hbox hg HB2 H2) | ((with_reducible refine gate_dst (N := 5) rfl ?_); (try (refine gate_guard (by rfl) ?_; dsimp only)); refine box_event ?hg (N := 5) ?hd (cs := #[.bool false, .bool false, .int .i64 0, .int .i64 0, .int .i64 0, .slice none 0 0]) (t := 28) ?hr ?_; (case hd => rfl); (case hg => rfl); (case hr => first | (go_simp; done) | (go_simp; rfl)); intro g5 hg w5 hbox hb; have HB5 := Aside0.mk (below_step HB4.out hb); have H52 := Aside0.mk (blk_below H42.out hb); have H54 := Aside0.mk (blk_below H44.out hb); have H55 := Aside0.mk hbox; have G5 := Aside0.mk (by rw [hg]; exact HB4.out.size : w.heap.size ≤ g5); have N25 := Aside0.mk (by rw [hg]; exact Nat.ne_of_lt (blk_lt H42.out) : g2 ≠ g5); have N45 := Aside0.mk (by rw [hg]; exact Nat.ne_of_lt (blk_lt H44.out) : g4 ≠ g5); clear hb hbox hg HB4 H42 H44))
  have zg2_0 : w5.cell? ⟨g2, 0, none⟩ = some (.bool b0) := blk_cell H52.out 0
  have zg2_1 : w5.cell? ⟨g2, 1, none⟩ = some (.bool b1) := blk_cell H52.out 1
  have zg2_2 : w5.cell? ⟨g2, 2, none⟩ = some (.int .i64 n2) := blk_cell H52.out 2
  have zg2_3 : w5.cell? ⟨g2, 3, none⟩ = some (.int .i64 n3) := blk_cell H52.out 3
  have zg2_4 : w5.cell? ⟨g2, 4, none⟩ = some (.int .i64 n4) := blk_cell H52.out 4
  have zg2_5 : w5.cell? ⟨g2, 5, none⟩ = some (.slice A l.length c) := blk_cell H52.out 5
  have fzg2_0 : w5.frozen? ⟨g2, 0, none⟩ = false := blk_frozen H52.out 0
  have fzg2_1 : w5.frozen? ⟨g2, 1, none⟩ = false := blk_frozen H52.out 1
  have fzg2_2 : w5.frozen? ⟨g2, 2, none⟩ = false := blk_frozen H52.out 2
  have fzg2_3 : w5.frozen? ⟨g2, 3, none⟩ = false := blk_frozen H52.out 3
  have fzg2_4 : w5.frozen? ⟨g2, 4, none⟩ = false := blk_frozen H52.out 4
  have fzg2_5 : w5.frozen? ⟨g2, 5, none⟩ = false := blk_frozen H52.out 5
  have hd : (n2 != 255) = decide (n2 ≠ 255) := by by_cases e : n2 = 255 <;> simp [e]
  cases v with
  | false =>
    go_wp2_with (first | ((with_reducible refine gate_callee (f := 40) rfl ?_); refine goesL_ (some 12) rfl rfl Tryd.func40 (by kernel_rfl) rfl #[.agg #[.bool b0, .bool b1, .int .i64 n2, .int .i64 n3, .int .i64 n4, .slice A l.length c]] rfl (by (try simp only [List.map_toArray, List.map_cons, List.map_nil]); first | done | rfl) ?_; (refine (impl_BatchValid.calls k b0 b1 n2 n3 n4 A c l false _ (Kd.C_below HR.out HB5.out) HC.out HV.out).mono ?_); rintro e w6 ⟨rfl, hb⟩; refine ⟨_, rfl, ?_⟩; have HB6 := Aside0.mk (below_step HB5.out hb); have H62 := Aside0.mk (blk_below H52.out hb); have H64 := Aside0.mk (blk_below H54.out hb); have H65 := Aside0.mk (blk_below H55.out hb); clear zg2_0 zg2_1 zg2_2 zg2_3 zg2_4 zg2_5 fzg2_0 fzg2_1 fzg2_2 fzg2_3 fzg2_4 fzg2_5; clear hb HB5 H52 H54 H55; have zg2_0 : w6.cell? ⟨g2, 0, none⟩ = some (.bool b0) := blk_cell H62.out 0; have zg2_1 : w6.cell? ⟨g2, 1, none⟩ = some (.bool b1) := blk_cell H62.out 1; have zg2_2 : w6.cell? ⟨g2, 2, none⟩ = some (.int .i64 n2) := blk_cell H62.out 2; have zg2_3 : w6.cell? ⟨g2, 3, none⟩ = some (.int .i64 n3) := blk_cell H62.out 3; have zg2_4 : w6.cell? ⟨g2, 4, none⟩ = some (.int .i64 n4) := blk_cell H62.out 4; have zg2_5 : w6.cell? ⟨g2, 5, none⟩ = some (.slice A l.length c) := blk_cell H62.out 5; have fzg2_0 : w6.frozen? ⟨g2, 0, none⟩ = false := blk_frozen H62.out 0; have fzg2_1 : w6.frozen? ⟨g2, 1, none⟩ = false := blk_frozen H62.out 1; have fzg2_2 : w6.frozen? ⟨g2, 2, none⟩ = false := blk_frozen H62.out 2; have fzg2_3 : w6.frozen? ⟨g2, 3, none⟩ = false := blk_frozen H62.out 3; have fzg2_4 : w6.frozen? ⟨g2, 4, none⟩ = false := blk_frozen H62.out 4; have fzg2_5 : w6.frozen? ⟨g2, 5, none⟩ = false := blk_frozen H62.out 5))
    clear zg2_0 zg2_1 zg2_2 zg2_3 zg2_4 zg2_5 fzg2_0 fzg2_1 fzg2_2 fzg2_3 fzg2_4 fzg2_5
    have F4 := Aside0.mk (show (w6).drew.heap[g4]? = some (.cells #[.bool false, .bool false, .int .i64 0, .int .i64 0, .int .i64 0, .slice none 0 0] 28 (0, 0)) from H64.out)
    have F5 := Aside0.mk (show (w6).drew.heap[g5]? = some (.cells #[.bool false, .bool false, .int .i64 0, .int .i64 0, .int .i64 0, .slice none 0 0] 28 (0, 0)) from H65.out)
    have HBF := Aside0.mk (below_drew HB6.out)
    refine start_ (n := 6) (S := fun w' => w'.cell? ⟨0, 0, none⟩ = some (.iface 136 (.pointer (some pe)))) (ds := []) #[false, false, false, false, false, false] (by kernel_rfl) rfl rfl (pw_cell_below HB6.out HG.out) (fun hHeld => ?_)
    generalize (w6).drew = wf at F4 F5 HBF hHeld ⊢
    refine pure_ (i := 0) (N := some 19) (v := ?_) (a' := ?_) #[true, false, false, false, false, false] rfl rfl (by kernel_rfl) (fun _ _ _ h => h) (Or.inl ⟨by rfl, ?_⟩) ?_ ?_
    rotate_left
    · intro w'
      go_simp
      with_reducible rfl
    rotate_left
    · simp only [Act.put, List.setIfInBounds_toArray, List.set_cons_zero, List.set_cons_succ, i64_w, i32_w]
      rfl
    refine pure_ (i := 1) (N := some 20) (v := ?_) (a' := ?_) #[true, true, false, false, false, false] rfl rfl (by kernel_rfl) (fun _ _ _ h => h) (Or.inl ⟨by rfl, ?_⟩) ?_ ?_
    rotate_left
    · intro w'
      go_simp
      with_reducible rfl
    rotate_left
    · simp only [Act.put, List.setIfInBounds_toArray, List.set_cons_zero, List.set_cons_succ, i64_w, i32_w]
      rfl
    refine take_ (i := 2) (N := some 21) (v := ?_) (a' := ?_) #[true, true, true, false, false, false] rfl rfl (by kernel_rfl) (fun _ _ _ h => h) (Or.inl ⟨by rfl, ?_⟩) hHeld ?_ ?_
    rotate_left
    · rintro w' s0
      go_simp
      with_reducible rfl
    rotate_left
    · simp only [Act.put, List.setIfInBounds_toArray, List.set_cons_zero, List.set_cons_succ, i64_w, i32_w]
      rfl
    have HH := Aside0.mk hHeld
    clear hHeld
    refine one_ (i := 3) (N := none) #[true, true, true, true, false, false] rfl rfl (by kernel_rfl) (by decide) (fun K hK => ?_)
    have yg4_0 : wf.cell? ⟨g4, 0, none⟩ = some (.bool false) := blk_cell F4.out 0
    have yg4_1 : wf.cell? ⟨g4, 1, none⟩ = some (.bool false) := blk_cell F4.out 1
    have yg4_2 : wf.cell? ⟨g4, 2, none⟩ = some (.int .i64 0) := blk_cell F4.out 2
    have yg4_3 : wf.cell? ⟨g4, 3, none⟩ = some (.int .i64 0) := blk_cell F4.out 3
    have yg4_4 : wf.cell? ⟨g4, 4, none⟩ = some (.int .i64 0) := blk_cell F4.out 4
    have yg4_5 : wf.cell? ⟨g4, 5, none⟩ = some (.slice none 0 0) := blk_cell F4.out 5
    have fyg4_0 : wf.frozen? ⟨g4, 0, none⟩ = false := blk_frozen F4.out 0
    have fyg4_1 : wf.frozen? ⟨g4, 1, none⟩ = false := blk_frozen F4.out 1
    have fyg4_2 : wf.frozen? ⟨g4, 2, none⟩ = false := blk_frozen F4.out 2
    have fyg4_3 : wf.frozen? ⟨g4, 3, none⟩ = false := blk_frozen F4.out 3
    have fyg4_4 : wf.frozen? ⟨g4, 4, none⟩ = false := blk_frozen F4.out 4
    have fyg4_5 : wf.frozen? ⟨g4, 5, none⟩ = false := blk_frozen F4.out 5
    refine skip_ (w1 := ?_) (by rfl) rfl ?_ ?_
    rotate_left
    · go_simp
      rfl
    clear yg4_0 yg4_1 yg4_2 yg4_3 yg4_4 yg4_5 fyg4_0 fyg4_1 fyg4_2 fyg4_3 fyg4_4 fyg4_5
    have L0 := Aside0.mk (show 0 < w.heap.size from World.block_lt_of_cell? w _ HG.out)
    have HH2 := Aside0.mk (show (set6 wf g4 (.bool false) (.bool false) (.int .i64 0) (.int .i64 0) (.int .i64 0) (.slice none 0 0)).cell? ⟨0, 0, none⟩ = some (.iface 136 (.pointer (some pe))) from (set6_cell wf g4 _ _ _ _ _ _ (by have h1 := L0.out; have h2 := G4.out; show (0 : Nat) ≠ g4; omega)).trans HH.out)
    refine hK.out _ _ HH2.out (fun hHeld => ?_)
    clear hK K hHeld
    have F54 := Aside0.mk ((set6_heap wf g4 (.bool false) (.bool false) (.int .i64 0) (.int .i64 0) (.int .i64 0) (.slice none 0 0) (Ne.symm N45.out)).trans F5.out)
    have F44 := Aside0.mk (set6_blk F4.out (.bool false) (.bool false) (.int .i64 0) (.int .i64 0) (.int .i64 0) (.slice none 0 0))
    have HBF4 := Aside0.mk (set6_below HBF.out G4.out (.bool false) (.bool false) (.int .i64 0) (.int .i64 0) (.int .i64 0) (.slice none 0 0))
    unfold set6 at F54 HBF4 HH2
    generalize (((((wf.setCell ⟨g4, 0, none⟩ (.bool false)).setCell ⟨g4, 1, none⟩ (.bool false)).setCell ⟨g4, 2, none⟩ (.int .i64 0)).setCell ⟨g4, 3, none⟩ (.int .i64 0)).setCell ⟨g4, 4, none⟩ (.int .i64 0)).setCell ⟨g4, 5, none⟩ (.slice none 0 0) = wg at F44 F54 HBF4 HH2 ⊢
    refine one_ (i := 4) (N := none) #[true, true, true, true, true, false] rfl rfl (by kernel_rfl) (by decide) (fun K hK => ?_)
    have yg5_0 : wg.cell? ⟨g5, 0, none⟩ = some (.bool false) := blk_cell F54.out 0
    have yg5_1 : wg.cell? ⟨g5, 1, none⟩ = some (.bool false) := blk_cell F54.out 1
    have yg5_2 : wg.cell? ⟨g5, 2, none⟩ = some (.int .i64 0) := blk_cell F54.out 2
    have yg5_3 : wg.cell? ⟨g5, 3, none⟩ = some (.int .i64 0) := blk_cell F54.out 3
    have yg5_4 : wg.cell? ⟨g5, 4, none⟩ = some (.int .i64 0) := blk_cell F54.out 4
    have yg5_5 : wg.cell? ⟨g5, 5, none⟩ = some (.slice none 0 0) := blk_cell F54.out 5
    have fyg5_0 : wg.frozen? ⟨g5, 0, none⟩ = false := blk_frozen F54.out 0
    have fyg5_1 : wg.frozen? ⟨g5, 1, none⟩ = false := blk_frozen F54.out 1
    have fyg5_2 : wg.frozen? ⟨g5, 2, none⟩ = false := blk_frozen F54.out 2
    have fyg5_3 : wg.frozen? ⟨g5, 3, none⟩ = false := blk_frozen F54.out 3
    have fyg5_4 : wg.frozen? ⟨g5, 4, none⟩ = false := blk_frozen F54.out 4
    have fyg5_5 : wg.frozen? ⟨g5, 5, none⟩ = false := blk_frozen F54.out 5
    refine skip_ (w1 := ?_) (by rfl) rfl ?_ ?_
    rotate_left
    · go_simp
      rfl
    clear yg5_0 yg5_1 yg5_2 yg5_3 yg5_4 yg5_5 fyg5_0 fyg5_1 fyg5_2 fyg5_3 fyg5_4 fyg5_5
    have HH3 := Aside0.mk (show (set6 wg g5 (.bool false) (.bool false) (.int .i64 0) (.int .i64 0) (.int .i64 0) (.slice none 0 0)).cell? ⟨0, 0, none⟩ = some (.iface 136 (.pointer (some pe))) from (set6_cell wg g5 _ _ _ _ _ _ (by have h1 := L0.out; have h2 := G5.out; show (0 : Nat) ≠ g5; omega)).trans HH2.out)
    refine hK.out _ _ HH3.out (fun hHeld => ?_)
    clear hK K hHeld
    refine pure_ (i := 5) (N := some 6) (v := ?_) (a' := ?_) #[true, true, true, true, true, true] rfl rfl (by kernel_rfl) (fun _ _ _ h => h) (Or.inl ⟨by rfl, ?_⟩) ?_ ?_
    rotate_left
    · intro w'
      go_simp
      with_reducible rfl
    rotate_left
    · simp only [Act.put, List.setIfInBounds_toArray, List.set_cons_zero, List.set_cons_succ, i64_w, i32_w]
      rfl
    refine done_ (by kernel_rfl) ?_
    try go_wp2
    refine bodyPost_ret (results_list (rs := [.cell 4 28, .cell 5 28, .tmp 6]) rfl (by simp) (.cell g4 28 #[.bool false, .bool false, .int .i64 0, .int .i64 0, .int .i64 0, .slice none 0 0] (0, 0) _ rfl ((set6_heap wg g5 _ _ _ _ _ _ N45.out).trans F44.out) Tryd.underlying28 rfl (by kernel_rfl) (.cell g5 28 #[.bool false, .bool false, .int .i64 0, .int .i64 0, .int .i64 0, .slice none 0 0] (0, 0) _ rfl (set6_blk F54.out _ _ _ _ _ _) Tryd.underlying28 rfl (by kernel_rfl) (.tmp .nil)))) rfl ?_
    exact ⟨rfl, set6_below HBF4.out G5.out _ _ _ _ _ _⟩
  | true =>
    have hd1 : (n2 != 255) = true := by rw [hd]; have := HN.out; simp at this; simpa using this
    clear hd
    go_wp2_with (first | ((with_reducible refine gate_callee (f := 40) rfl ?_); refine goesL_ (some 12) rfl rfl Tryd.func40 (by kernel_rfl) rfl #[.agg #[.bool b0, .bool b1, .int .i64 n2, .int .i64 n3, .int .i64 n4, .slice A l.length c]] rfl (by (try simp only [List.map_toArray, List.map_cons, List.map_nil]); first | done | rfl) ?_; (refine (impl_BatchValid.calls k b0 b1 n2 n3 n4 A c l true _ (Kd.C_below HR.out HB5.out) HC.out HV.out).mono ?_); rintro e w6 ⟨rfl, hb⟩; refine ⟨_, rfl, ?_⟩; have HB6 := Aside0.mk (below_step HB5.out hb); have H62 := Aside0.mk (blk_below H52.out hb); have H64 := Aside0.mk (blk_below H54.out hb); have H65 := Aside0.mk (blk_below H55.out hb); clear zg2_0 zg2_1 zg2_2 zg2_3 zg2_4 zg2_5 fzg2_0 fzg2_1 fzg2_2 fzg2_3 fzg2_4 fzg2_5; clear hb HB5 H52 H54 H55; have zg2_0 : w6.cell? ⟨g2, 0, none⟩ = some (.bool b0) := blk_cell H62.out 0; have zg2_1 : w6.cell? ⟨g2, 1, none⟩ = some (.bool b1) := blk_cell H62.out 1; have zg2_2 : w6.cell? ⟨g2, 2, none⟩ = some (.int .i64 n2) := blk_cell H62.out 2; have zg2_3 : w6.cell? ⟨g2, 3, none⟩ = some (.int .i64 n3) := blk_cell H62.out 3; have zg2_4 : w6.cell? ⟨g2, 4, none⟩ = some (.int .i64 n4) := blk_cell H62.out 4; have zg2_5 : w6.cell? ⟨g2, 5, none⟩ = some (.slice A l.length c) := blk_cell H62.out 5; have fzg2_0 : w6.frozen? ⟨g2, 0, none⟩ = false := blk_frozen H62.out 0; have fzg2_1 : w6.frozen? ⟨g2, 1, none⟩ = false := blk_frozen H62.out 1; have fzg2_2 : w6.frozen? ⟨g2, 2, none⟩ = false := blk_frozen H62.out 2; have fzg2_3 : w6.frozen? ⟨g2, 3, none⟩ = false := blk_frozen H62.out 3; have fzg2_4 : w6.frozen? ⟨g2, 4, none⟩ = false := blk_frozen H62.out 4; have fzg2_5 : w6.frozen? ⟨g2, 5, none⟩ = false := blk_frozen H62.out 5))
    clear zg2_0 zg2_1 zg2_2 zg2_3 zg2_4 zg2_5 fzg2_0 fzg2_1 fzg2_2 fzg2_3 fzg2_4 fzg2_5
    have F4 := Aside0.mk (show (w6).drew.heap[g4]? = some (.cells #[.bool false, .bool false, .int .i64 0, .int .i64 0, .int .i64 0, .slice none 0 0] 28 (0, 0)) from H64.out)
    have F5 := Aside0.mk (show (w6).drew.heap[g5]? = some (.cells #[.bool false, .bool false, .int .i64 0, .int .i64 0, .int .i64 0, .slice none 0 0] 28 (0, 0)) from H65.out)
    have HBF := Aside0.mk (below_drew HB6.out)
    refine start_ (n := 6) (S := fun w' => w'.cell? ⟨0, 0, none⟩ = some (.iface 136 (.pointer (some pe)))) (ds := []) #[false, false, false, false, false, false] (by kernel_rfl) rfl rfl (pw_cell_below HB6.out HG.out) (fun hHeld => ?_)
    generalize (w6).drew = wf at F4 F5 HBF hHeld ⊢
    refine pure_ (i := 0) (N := some 19) (v := ?_) (a' := ?_) #[true, false, false, false, false, false] rfl rfl (by kernel_rfl) (fun _ _ _ h => h) (Or.inl ⟨by rfl, ?_⟩) ?_ ?_
    rotate_left
    · intro w'
      go_simp
      with_reducible rfl
    rotate_left
    · simp only [Act.put, List.setIfInBounds_toArray, List.set_cons_zero, List.set_cons_succ, i64_w, i32_w]
      rfl
    refine pure_ (i := 1) (N := some 20) (v := ?_) (a' := ?_) #[true, true, false, false, false, false] rfl rfl (by kernel_rfl) (fun _ _ _ h => h) (Or.inl ⟨by rfl, ?_⟩) ?_ ?_
    rotate_left
    · intro w'
      go_simp
      with_reducible rfl
    rotate_left
    · simp only [Act.put, List.setIfInBounds_toArray, List.set_cons_zero, List.set_cons_succ, i64_w, i32_w]
      rfl
    refine take_ (i := 2) (N := some 21) (v := ?_) (a' := ?_) #[true, true, true, false, false, false] rfl rfl (by kernel_rfl) (fun _ _ _ h => h) (Or.inl ⟨by rfl, ?_⟩) hHeld ?_ ?_
    rotate_left
    · rintro w' s0
      go_simp
      with_reducible rfl
    rotate_left
    · simp only [Act.put, List.setIfInBounds_toArray, List.set_cons_zero, List.set_cons_succ, i64_w, i32_w]
      rfl
    have HH := Aside0.mk hHeld
    clear hHeld
    refine one_ (i := 3) (N := none) #[true, true, true, true, false, false] rfl rfl (by kernel_rfl) (by decide) (fun K hK => ?_)
    have yg4_0 : wf.cell? ⟨g4, 0, none⟩ = some (.bool false) := blk_cell F4.out 0
    have yg4_1 : wf.cell? ⟨g4, 1, none⟩ = some (.bool false) := blk_cell F4.out 1
    have yg4_2 : wf.cell? ⟨g4, 2, none⟩ = some (.int .i64 0) := blk_cell F4.out 2
    have yg4_3 : wf.cell? ⟨g4, 3, none⟩ = some (.int .i64 0) := blk_cell F4.out 3
    have yg4_4 : wf.cell? ⟨g4, 4, none⟩ = some (.int .i64 0) := blk_cell F4.out 4
    have yg4_5 : wf.cell? ⟨g4, 5, none⟩ = some (.slice none 0 0) := blk_cell F4.out 5
    have fyg4_0 : wf.frozen? ⟨g4, 0, none⟩ = false := blk_frozen F4.out 0
    have fyg4_1 : wf.frozen? ⟨g4, 1, none⟩ = false := blk_frozen F4.out 1
    have fyg4_2 : wf.frozen? ⟨g4, 2, none⟩ = false := blk_frozen F4.out 2
    have fyg4_3 : wf.frozen? ⟨g4, 3, none⟩ = false := blk_frozen F4.out 3
    have fyg4_4 : wf.frozen? ⟨g4, 4, none⟩ = false := blk_frozen F4.out 4
    have fyg4_5 : wf.frozen? ⟨g4, 5, none⟩ = false := blk_frozen F4.out 5
    refine skip_ (w1 := ?_) (by rfl) rfl ?_ ?_
    rotate_left
    · go_simp
      rfl
    clear yg4_0 yg4_1 yg4_2 yg4_3 yg4_4 yg4_5 fyg4_0 fyg4_1 fyg4_2 fyg4_3 fyg4_4 fyg4_5
    have L0 := Aside0.mk (show 0 < w.heap.size from World.block_lt_of_cell? w _ HG.out)
    have HH2 := Aside0.mk (show (set6 wf g4 (.bool false) (.bool false) (.int .i64 0) (.int .i64 0) (.int .i64 0) (.slice none 0 0)).cell? ⟨0, 0, none⟩ = some (.iface 136 (.pointer (some pe))) from (set6_cell wf g4 _ _ _ _ _ _ (by have h1 := L0.out; have h2 := G4.out; show (0 : Nat) ≠ g4; omega)).trans HH.out)
    refine hK.out _ _ HH2.out (fun hHeld => ?_)
    clear hK K hHeld
    have F54 := Aside0.mk ((set6_heap wf g4 (.bool false) (.bool false) (.int .i64 0) (.int .i64 0) (.int .i64 0) (.slice none 0 0) (Ne.symm N45.out)).trans F5.out)
    have F44 := Aside0.mk (set6_blk F4.out (.bool false) (.bool false) (.int .i64 0) (.int .i64 0) (.int .i64 0) (.slice none 0 0))
    have HBF4 := Aside0.mk (set6_below HBF.out G4.out (.bool false) (.bool false) (.int .i64 0) (.int .i64 0) (.int .i64 0) (.slice none 0 0))
    unfold set6 at F54 HBF4 HH2
    generalize (((((wf.setCell ⟨g4, 0, none⟩ (.bool false)).setCell ⟨g4, 1, none⟩ (.bool false)).setCell ⟨g4, 2, none⟩ (.int .i64 0)).setCell ⟨g4, 3, none⟩ (.int .i64 0)).setCell ⟨g4, 4, none⟩ (.int .i64 0)).setCell ⟨g4, 5, none⟩ (.slice none 0 0) = wg at F44 F54 HBF4 HH2 ⊢
    refine one_ (i := 4) (N := none) #[true, true, true, true, true, false] rfl rfl (by kernel_rfl) (by decide) (fun K hK => ?_)
    have yg5_0 : wg.cell? ⟨g5, 0, none⟩ = some (.bool false) := blk_cell F54.out 0
    have yg5_1 : wg.cell? ⟨g5, 1, none⟩ = some (.bool false) := blk_cell F54.out 1
    have yg5_2 : wg.cell? ⟨g5, 2, none⟩ = some (.int .i64 0) := blk_cell F54.out 2
    have yg5_3 : wg.cell? ⟨g5, 3, none⟩ = some (.int .i64 0) := blk_cell F54.out 3
    have yg5_4 : wg.cell? ⟨g5, 4, none⟩ = some (.int .i64 0) := blk_cell F54.out 4
    have yg5_5 : wg.cell? ⟨g5, 5, none⟩ = some (.slice none 0 0) := blk_cell F54.out 5
    have fyg5_0 : wg.frozen? ⟨g5, 0, none⟩ = false := blk_frozen F54.out 0
    have fyg5_1 : wg.frozen? ⟨g5, 1, none⟩ = false := blk_frozen F54.out 1
    have fyg5_2 : wg.frozen? ⟨g5, 2, none⟩ = false := blk_frozen F54.out 2
    have fyg5_3 : wg.frozen? ⟨g5, 3, none⟩ = false := blk_frozen F54.out 3
    have fyg5_4 : wg.frozen? ⟨g5, 4, none⟩ = false := blk_frozen F54.out 4
    have fyg5_5 : wg.frozen? ⟨g5, 5, none⟩ = false := blk_frozen F54.out 5
    refine skip_ (w1 := ?_) (by rfl) rfl ?_ ?_
    rotate_left
    · go_simp
      rfl
    clear yg5_0 yg5_1 yg5_2 yg5_3 yg5_4 yg5_5 fyg5_0 fyg5_1 fyg5_2 fyg5_3 fyg5_4 fyg5_5
    have HH3 := Aside0.mk (show (set6 wg g5 (.bool false) (.bool false) (.int .i64 0) (.int .i64 0) (.int .i64 0) (.slice none 0 0)).cell? ⟨0, 0, none⟩ = some (.iface 136 (.pointer (some pe))) from (set6_cell wg g5 _ _ _ _ _ _ (by have h1 := L0.out; have h2 := G5.out; show (0 : Nat) ≠ g5; omega)).trans HH2.out)
    refine hK.out _ _ HH3.out (fun hHeld => ?_)
    clear hK K hHeld
    refine pure_ (i := 5) (N := some 6) (v := ?_) (a' := ?_) #[true, true, true, true, true, true] rfl rfl (by kernel_rfl) (fun _ _ _ h => h) (Or.inl ⟨by rfl, ?_⟩) ?_ ?_
    rotate_left
    · intro w'
      go_simp
      with_reducible rfl
    rotate_left
    · simp only [Act.put, List.setIfInBounds_toArray, List.set_cons_zero, List.set_cons_succ, i64_w, i32_w]
      rfl
    refine done_ (by kernel_rfl) ?_
    try go_wp2
    refine bodyPost_ret (results_list (rs := [.cell 4 28, .cell 5 28, .tmp 6]) rfl (by simp) (.cell g4 28 #[.bool false, .bool false, .int .i64 0, .int .i64 0, .int .i64 0, .slice none 0 0] (0, 0) _ rfl ((set6_heap wg g5 _ _ _ _ _ _ N45.out).trans F44.out) Tryd.underlying28 rfl (by kernel_rfl) (.cell g5 28 #[.bool false, .bool false, .int .i64 0, .int .i64 0, .int .i64 0, .slice none 0 0] (0, 0) _ rfl (set6_blk F54.out _ _ _ _ _ _) Tryd.underlying28 rfl (by kernel_rfl) (.tmp .nil)))) rfl ?_
    exact ⟨rfl, set6_below HBF4.out G5.out _ _ _ _ _ _⟩
def cutT9 : Bool × List (List Nat × List Nat) := (true, [([], []), ([0], [0]), ([], []), ([2], [2]), ([3], [3]), ([1, 4, 3], [1, 4]), ([0, 1, 2, 3, 4, 5], []), ([6, 5, 5, 0, 1, 2, 3, 4, 5], [5, 6])])
def cutB9 : List Nat := [0, 1, 0, 4, 12, 31, 63, 127]
theorem cut_tab9 : rtab .any (opsOf Tryd.f22 9) = cutT9 := by kernel_rfl
theorem cut_bits9 : waitsOk cutT9.2 cutB9 = true := by kernel_rfl
def cutT10 : Bool × List (List Nat × List Nat) := (true, [([], []), ([0], [0]), ([], []), ([2], [2]), ([3], [3]), ([1, 4, 3], [1, 4]), ([0, 1, 2, 3, 4, 5], []), ([6, 5, 5, 0, 1, 2, 3, 4, 5], [5, 6])])
def cutB10 : List Nat := [0, 1, 0, 4, 12, 31, 63, 127]
theorem cut_tab10 : rtab .any (opsOf Tryd.f22 10) = cutT10 := by kernel_rfl
theorem cut_bits10 : waitsOk cutT10.2 cutB10 = true := by kernel_rfl

set_option maxHeartbeats 8000000 in
set_option maxRecDepth 100000 in
theorem impl_cut.yes (k : Nat) (b0 b1 : Bool) (n3 n4 : Int) (A : Option Addr) (c : Nat) (l : List S41) (off : Int) (pe : Addr) (w : World) (hr : Kd.C k41 w A l.length l) (hc : l.length ≤ c) (hv : impl_BatchValid.f k b0 b1 255 n3 n4 l = some true) (hge : w.cell? ⟨0, 0, none⟩ = some (.iface 136 (.pointer (some pe)))) (hl : l.length ≤ 1000) (hp : ∀ x ∈ l, x.f3.length < 17592186044416 ∧ x.f5.length < 17592186044416) :
    Calls Tryd.prog 22 #[.agg #[.bool b0, .bool b1, .int .i64 255, .int .i64 n3, .int .i64 n4, .slice A l.length c], .int .i64 off] w fun e w' => Below w.heap.size w w' ∧ (((lo off l).isEmpty || (hi off l).isEmpty) = true ∧ e = .returned (.tuple #[.agg #[.bool false, .bool false, .int .i64 0, .int .i64 0, .int .i64 0, .slice none 0 0], .agg #[.bool false, .bool false, .int .i64 0, .int .i64 0, .int .i64 0, .slice none 0 0], .iface 136 (.pointer (some pe))]) ∨ ((lo off l).isEmpty || (hi off l).isEmpty) = false ∧ ∃ (P : Nat → Prop) (va vb : Value), e = .returned (.tuple #[.agg #[.bool b0, .bool false, .int .i64 255, .int .i64 0, .int .i64 0, va], .agg #[.bool b0, .bool false, .int .i64 255, .int .i64 0, .int .i64 0, vb], .nilIface]) ∧ Two w' w.heap.size P va vb (lo off l) (hi off l)) := by
  have HR := Aside0.mk hr
  have HC := Aside0.mk hc
  have HV := Aside0.mk hv
  clear hr hc hv
  have hu28 := Tryd.underlying28
  have hu41 := Tryd.underlying41
  have HB := Aside0.mk (Below.refl w.heap.size w)
  go_enter Tryd.func22, Tryd.ntmps22
  have HG := Aside0.mk hge
  have HP := Aside0.mk hp
  have HL := Aside0.mk hl
  clear hge hp hl
  go_upto_region 1 with (first | ((with_reducible refine gate_dst (N := 2) rfl ?_); (try (refine gate_guard (by rfl) ?_; dsimp only)); refine box_event ?hg (N := 2) ?hd (cs := #[.bool b0, .bool b1, .int .i64 255, .int .i64 n3, .int .i64 n4, .slice A l.length c]) (t := 28) ?hr ?_; (case hd => rfl); (case hg => rfl); (case hr => first | (go_simp; done) | (go_simp; rfl)); intro g2 hg w2 hbox hb; have HB2 := Aside0.mk hb; have H2 := Aside0.mk hbox; have G2 := Aside0.mk (Nat.le_of_eq hg.symm : w.heap.size ≤ g2); clear hb hbox hg) | ((with_reducible refine gate_dst (N := 4) rfl ?_); (try (refine gate_guard (by rfl) ?_; dsimp only)); refine box_event ?hg (N := 4) ?hd (cs := #[.bool false, .bool false, .int .i64 0, .int .i64 0, .int .i64 0, .slice none 0 0]) (t := 28) ?hr ?_; (case hd => rfl); (case hg => rfl); (case hr => first | (go_simp; done) | (go_simp; rfl)); intro g4 hg w4 hbox hb; have HB4 := Aside0.mk (below_step HB2.out hb); have H42 := Aside0.mk (blk_below H2.out hb); have H44 := Aside0.mk hbox; have G4 := Aside0.mk (by rw [hg]; exact HB2.out.size : w.heap.size ≤ g4); have N24 := Aside0.mk (by rw [hg]; exact Nat.ne_of_lt (blk_lt H2.out) : g2 ≠ g4); clear hb hbox hg HB2 H2) | ((with_reducible refine gate_dst (N := 5) rfl ?_); (try (refine gate_guard (by rfl) ?_; dsimp only)); refine box_event ?hg (N := 5) ?hd (cs := #[.bool false, .bool false, .int .i64 0, .int .i64 0, .int .i64 0, .slice none 0 0]) (t := 28) ?hr ?_; (case hd => rfl); (case hg => rfl); (case hr => first | (go_simp; done) | (go_simp; rfl)); intro g5 hg w5 hbox hb; have HB5 := Aside0.mk (below_step HB4.out hb); have H52 := Aside0.mk (blk_below H42.out hb); have H54 := Aside0.mk (blk_below H44.out hb); have H55 := Aside0.mk hbox; have G5 := Aside0.mk (by rw [hg]; exact HB4.out.size : w.heap.size ≤ g5); have N25 := Aside0.mk (by rw [hg]; exact Nat.ne_of_lt (blk_lt H42.out) : g2 ≠ g5); have N45 := Aside0.mk (by rw [hg]; exact Nat.ne_of_lt (blk_lt H44.out) : g4 ≠ g5); clear hb hbox hg HB4 H42 H44))
  have zg2_0 : w5.cell? ⟨g2, 0, none⟩ = some (.bool b0) := blk_cell H52.out 0
  have zg2_1 : w5.cell? ⟨g2, 1, none⟩ = some (.bool b1) := blk_cell H52.out 1
  have zg2_2 : w5.cell? ⟨g2, 2, none⟩ = some (.int .i64 255) := blk_cell H52.out 2
  have zg2_3 : w5.cell? ⟨g2, 3, none⟩ = some (.int .i64 n3) := blk_cell H52.out 3
  have zg2_4 : w5.cell? ⟨g2, 4, none⟩ = some (.int .i64 n4) := blk_cell H52.out 4
  have zg2_5 : w5.cell? ⟨g2, 5, none⟩ = some (.slice A l.length c) := blk_cell H52.out 5
  have fzg2_0 : w5.frozen? ⟨g2, 0, none⟩ = false := blk_frozen H52.out 0
  have fzg2_1 : w5.frozen? ⟨g2, 1, none⟩ = false := blk_frozen H52.out 1
  have fzg2_2 : w5.frozen? ⟨g2, 2, none⟩ = false := blk_frozen H52.out 2
  have fzg2_3 : w5.frozen? ⟨g2, 3, none⟩ = false := blk_frozen H52.out 3
  have fzg2_4 : w5.frozen? ⟨g2, 4, none⟩ = false := blk_frozen H52.out 4
  have fzg2_5 : w5.frozen? ⟨g2, 5, none⟩ = false := blk_frozen H52.out 5
  go_wp2_with (first | ((with_reducible refine gate_callee (f := 40) rfl ?_); refine goesL_ (some 12) rfl rfl Tryd.func40 (by kernel_rfl) rfl #[.agg #[.bool b0, .bool b1, .int .i64 255, .int .i64 n3, .int .i64 n4, .slice A l.length c]] rfl (by (try simp only [List.map_toArray, List.map_cons, List.map_nil]); first | done | rfl) ?_; (refine (impl_BatchValid.calls k b0 b1 255 n3 n4 A c l true _ (Kd.C_below HR.out HB5.out) HC.out HV.out).mono ?_); rintro e w6 ⟨rfl, hb⟩; refine ⟨_, rfl, ?_⟩; have HB6 := Aside0.mk (below_step HB5.out hb); have H62 := Aside0.mk (blk_below H52.out hb); have H64 := Aside0.mk (blk_below H54.out hb); have H65 := Aside0.mk (blk_below H55.out hb); clear zg2_0 zg2_1 zg2_2 zg2_3 zg2_4 zg2_5 fzg2_0 fzg2_1 fzg2_2 fzg2_3 fzg2_4 fzg2_5; clear hb HB5 H52 H54 H55; have zg2_0 : w6.cell? ⟨g2, 0, none⟩ = some (.bool b0) := blk_cell H62.out 0; have zg2_1 : w6.cell? ⟨g2, 1, none⟩ = some (.bool b1) := blk_cell H62.out 1; have zg2_2 : w6.cell? ⟨g2, 2, none⟩ = some (.int .i64 255) := blk_cell H62.out 2; have zg2_3 : w6.cell? ⟨g2, 3, none⟩ = some (.int .i64 n3) := blk_cell H62.out 3; have zg2_4 : w6.cell? ⟨g2, 4, none⟩ = some (.int .i64 n4) := blk_cell H62.out 4; have zg2_5 : w6.cell? ⟨g2, 5, none⟩ = some (.slice A l.length c) := blk_cell H62.out 5; have fzg2_0 : w6.frozen? ⟨g2, 0, none⟩ = false := blk_frozen H62.out 0; have fzg2_1 : w6.frozen? ⟨g2, 1, none⟩ = false := blk_frozen H62.out 1; have fzg2_2 : w6.frozen? ⟨g2, 2, none⟩ = false := blk_frozen H62.out 2; have fzg2_3 : w6.frozen? ⟨g2, 3, none⟩ = false := blk_frozen H62.out 3; have fzg2_4 : w6.frozen? ⟨g2, 4, none⟩ = false := blk_frozen H62.out 4; have fzg2_5 : w6.frozen? ⟨g2, 5, none⟩ = false := blk_frozen H62.out 5) | ((with_reducible refine gate_dst (N := 7) rfl ?_); (try (refine gate_guard (by rfl) ?_; dsimp only)); refine box_event ?hg (N := 7) ?hd (cs := #[.bool false, .bool false, .int .i64 0, .int .i64 0, .int .i64 0, .slice none 0 0]) (t := 28) ?hr ?_; (case hd => rfl); (case hg => rfl); (case hr => first | (go_simp; done) | (go_simp; rfl)); intro g7 hg w7 hbox hb; have HB7 := Aside0.mk (below_step HB6.out hb); have H72 := Aside0.mk (blk_below H62.out hb); have H74 := Aside0.mk (blk_below H64.out hb); have H75 := Aside0.mk (blk_below H65.out hb); have H77 := Aside0.mk hbox; have G7 := Aside0.mk (by rw [hg]; exact HB6.out.size : w.heap.size ≤ g7); have N27 := Aside0.mk (by rw [hg]; exact Nat.ne_of_lt (blk_lt H62.out) : g2 ≠ g7); have N47 := Aside0.mk (by rw [hg]; exact Nat.ne_of_lt (blk_lt H64.out) : g4 ≠ g7); have N57 := Aside0.mk (by rw [hg]; exact Nat.ne_of_lt (blk_lt H65.out) : g5 ≠ g7); clear zg2_0 zg2_1 zg2_2 zg2_3 zg2_4 zg2_5 fzg2_0 fzg2_1 fzg2_2 fzg2_3 fzg2_4 fzg2_5; clear hb hbox hg HB6 H62 H64 H65; have k1 := N27.out; have k2 := Ne.symm N27.out; have zg2_0 : w7.cell? ⟨g2, 0, none⟩ = some (.bool b0) := blk_cell H72.out 0; have zg2_1 : w7.cell? ⟨g2, 1, none⟩ = some (.bool b1) := blk_cell H72.out 1; have zg2_2 : w7.cell? ⟨g2, 2, none⟩ = some (.int .i64 255) := blk_cell H72.out 2; have zg2_3 : w7.cell? ⟨g2, 3, none⟩ = some (.int .i64 n3) := blk_cell H72.out 3; have zg2_4 : w7.cell? ⟨g2, 4, none⟩ = some (.int .i64 n4) := blk_cell H72.out 4; have zg2_5 : w7.cell? ⟨g2, 5, none⟩ = some (.slice A l.length c) := blk_cell H72.out 5; have fzg2_0 : w7.frozen? ⟨g2, 0, none⟩ = false := blk_frozen H72.out 0; have fzg2_1 : w7.frozen? ⟨g2, 1, none⟩ = false := blk_frozen H72.out 1; have fzg2_2 : w7.frozen? ⟨g2, 2, none⟩ = false := blk_frozen H72.out 2; have fzg2_3 : w7.frozen? ⟨g2, 3, none⟩ = false := blk_frozen H72.out 3; have fzg2_4 : w7.frozen? ⟨g2, 4, none⟩ = false := blk_frozen H72.out 4; have fzg2_5 : w7.frozen? ⟨g2, 5, none⟩ = false := blk_frozen H72.out 5; have zg7_0 : w7.cell? ⟨g7, 0, none⟩ = some (.bool false) := blk_cell H77.out 0; have zg7_1 : w7.cell? ⟨g7, 1, none⟩ = some (.bool false) := blk_cell H77.out 1; have zg7_2 : w7.cell? ⟨g7, 2, none⟩ = some (.int .i64 0) := blk_cell H77.out 2; have zg7_3 : w7.cell? ⟨g7, 3, none⟩ = some (.int .i64 0) := blk_cell H77.out 3; have zg7_4 : w7.cell? ⟨g7, 4, none⟩ = some (.int .i64 0) := blk_cell H77.out 4; have zg7_5 : w7.cell? ⟨g7, 5, none⟩ = some (.slice none 0 0) := blk_cell H77.out 5; have fzg7_0 : w7.frozen? ⟨g7, 0, none⟩ = false := blk_frozen H77.out 0; have fzg7_1 : w7.frozen? ⟨g7, 1, none⟩ = false := blk_frozen H77.out 1; have fzg7_2 : w7.frozen? ⟨g7, 2, none⟩ = false := blk_frozen H77.out 2; have fzg7_3 : w7.frozen? ⟨g7, 3, none⟩ = false := blk_frozen H77.out 3; have fzg7_4 : w7.frozen? ⟨g7, 4, none⟩ = false := blk_frozen H77.out 4; have fzg7_5 : w7.frozen? ⟨g7, 5, none⟩ = false := blk_frozen H77.out 5) | ((with_reducible refine gate_dst (N := 8) rfl ?_); (try (refine gate_guard (by rfl) ?_; dsimp only)); refine box_event ?hg (N := 8) ?hd (cs := #[.bool false, .bool false, .int .i64 0, .int .i64 0, .int .i64 0, .slice none 0 0]) (t := 28) ?hr ?_; (case hd => rfl); (case hg => rfl); (case hr => first | (go_simp; done) | (go_simp; rfl)); intro g8 hg w8 hbox hb; have HB8 := Aside0.mk (below_step (set6_below HB7.out G7.out (.bool b0) (.bool false) (.int .i64 255) (.int .i64 0) (.int .i64 0) (.slice none 0 0)) hb); have H82 := Aside0.mk (blk_below ((set6_heap w7 g7 (.bool b0) (.bool false) (.int .i64 255) (.int .i64 0) (.int .i64 0) (.slice none 0 0) N27.out).trans H72.out) hb); have H84 := Aside0.mk (blk_below ((set6_heap w7 g7 (.bool b0) (.bool false) (.int .i64 255) (.int .i64 0) (.int .i64 0) (.slice none 0 0) N47.out).trans H74.out) hb); have H85 := Aside0.mk (blk_below ((set6_heap w7 g7 (.bool b0) (.bool false) (.int .i64 255) (.int .i64 0) (.int .i64 0) (.slice none 0 0) N57.out).trans H75.out) hb); have H87 := Aside0.mk (blk_below (set6_blk H77.out (.bool b0) (.bool false) (.int .i64 255) (.int .i64 0) (.int .i64 0) (.slice none 0 0)) hb); have H88 := Aside0.mk hbox; have G8 := Aside0.mk (by rw [hg]; exact (set6_below HB7.out G7.out (.bool b0) (.bool false) (.int .i64 255) (.int .i64 0) (.int .i64 0) (.slice none 0 0)).size : w.heap.size ≤ g8); have N28 := Aside0.mk (by rw [hg]; exact Nat.ne_of_lt (Nat.lt_of_lt_of_eq (blk_lt H72.out) (set6_size w7 g7 (.bool b0) (.bool false) (.int .i64 255) (.int .i64 0) (.int .i64 0) (.slice none 0 0)).symm) : g2 ≠ g8); have N48 := Aside0.mk (by rw [hg]; exact Nat.ne_of_lt (Nat.lt_of_lt_of_eq (blk_lt H74.out) (set6_size w7 g7 (.bool b0) (.bool false) (.int .i64 255) (.int .i64 0) (.int .i64 0) (.slice none 0 0)).symm) : g4 ≠ g8); have N58 := Aside0.mk (by rw [hg]; exact Nat.ne_of_lt (Nat.lt_of_lt_of_eq (blk_lt H75.out) (set6_size w7 g7 (.bool b0) (.bool false) (.int .i64 255) (.int .i64 0) (.int .i64 0) (.slice none 0 0)).symm) : g5 ≠ g8); have N78 := Aside0.mk (by rw [hg]; exact Nat.ne_of_lt (Nat.lt_of_lt_of_eq (blk_lt H77.out) (set6_size w7 g7 (.bool b0) (.bool false) (.int .i64 255) (.int .i64 0) (.int .i64 0) (.slice none 0 0)).symm) : g7 ≠ g8); clear zg2_0 zg2_1 zg2_2 zg2_3 zg2_4 zg2_5 fzg2_0 fzg2_1 fzg2_2 fzg2_3 fzg2_4 fzg2_5; clear zg7_0 zg7_1 zg7_2 zg7_3 zg7_4 zg7_5 fzg7_0 fzg7_1 fzg7_2 fzg7_3 fzg7_4 fzg7_5; clear hb hbox hg HB7 H72 H74 H75 H77; have k3 := N28.out; have k4 := Ne.symm N28.out; have k5 := N78.out; have k6 := Ne.symm N78.out; have zg2_0 : w8.cell? ⟨g2, 0, none⟩ = some (.bool b0) := blk_cell H82.out 0; have zg2_1 : w8.cell? ⟨g2, 1, none⟩ = some (.bool b1) := blk_cell H82.out 1; have zg2_2 : w8.cell? ⟨g2, 2, none⟩ = some (.int .i64 255) := blk_cell H82.out 2; have zg2_3 : w8.cell? ⟨g2, 3, none⟩ = some (.int .i64 n3) := blk_cell H82.out 3; have zg2_4 : w8.cell? ⟨g2, 4, none⟩ = some (.int .i64 n4) := blk_cell H82.out 4; have zg2_5 : w8.cell? ⟨g2, 5, none⟩ = some (.slice A l.length c) := blk_cell H82.out 5; have fzg2_0 : w8.frozen? ⟨g2, 0, none⟩ = false := blk_frozen H82.out 0; have fzg2_1 : w8.frozen? ⟨g2, 1, none⟩ = false := blk_frozen H82.out 1; have fzg2_2 : w8.frozen? ⟨g2, 2, none⟩ = false := blk_frozen H82.out 2; have fzg2_3 : w8.frozen? ⟨g2, 3, none⟩ = false := blk_frozen H82.out 3; have fzg2_4 : w8.frozen? ⟨g2, 4, none⟩ = false := blk_frozen H82.out 4; have fzg2_5 : w8.frozen? ⟨g2, 5, none⟩ = false := blk_frozen H82.out 5; have zg8_0 : w8.cell? ⟨g8, 0, none⟩ = some (.bool false) := blk_cell H88.out 0; have zg8_1 : w8.cell? ⟨g8, 1, none⟩ = some (.bool false) := blk_cell H88.out 1; have zg8_2 : w8.cell? ⟨g8, 2, none⟩ = some (.int .i64 0) := blk_cell H88.out 2; have zg8_3 : w8.cell? ⟨g8, 3, none⟩ = some (.int .i64 0) := blk_cell H88.out 3; have zg8_4 : w8.cell? ⟨g8, 4, none⟩ = some (.int .i64 0) := blk_cell H88.out 4; have zg8_5 : w8.cell? ⟨g8, 5, none⟩ = some (.slice none 0 0) := blk_cell H88.out 5; have fzg8_0 : w8.frozen? ⟨g8, 0, none⟩ = false := blk_frozen H88.out 0; have fzg8_1 : w8.frozen? ⟨g8, 1, none⟩ = false := blk_frozen H88.out 1; have fzg8_2 : w8.frozen? ⟨g8, 2, none⟩ = false := blk_frozen H88.out 2; have fzg8_3 : w8.frozen? ⟨g8, 3, none⟩ = false := blk_frozen H88.out 3; have fzg8_4 : w8.frozen? ⟨g8, 4, none⟩ = false := blk_frozen H88.out 4; have fzg8_5 : w8.frozen? ⟨g8, 5, none⟩ = false := blk_frozen H88.out 5))
  clear zg2_0 zg2_1 zg2_2 zg2_3 zg2_4 zg2_5 fzg2_0 fzg2_1 fzg2_2 fzg2_3 fzg2_4 fzg2_5
  clear zg8_0 zg8_1 zg8_2 zg8_3 zg8_4 zg8_5 fzg8_0 fzg8_1 fzg8_2 fzg8_3 fzg8_4 fzg8_5
  have HX := Aside0.mk (show Bx w (set6 w8 g8 (.bool b0) (.bool false) (.int .i64 255) (.int .i64 0) (.int .i64 0) (.slice none 0 0)) g4 g5 g7 g8 b0 (.slice none 0 0) (.slice none 0 0) from ⟨(set6_heap w8 g8 (.bool b0) (.bool false) (.int .i64 255) (.int .i64 0) (.int .i64 0) (.slice none 0 0) N48.out).trans H84.out, (set6_heap w8 g8 (.bool b0) (.bool false) (.int .i64 255) (.int .i64 0) (.int .i64 0) (.slice none 0 0) N58.out).trans H85.out, (set6_heap w8 g8 (.bool b0) (.bool false) (.int .i64 255) (.int .i64 0) (.int .i64 0) (.slice none 0 0) N78.out).trans H87.out, set6_blk H88.out (.bool b0) (.bool false) (.int .i64 255) (.int .i64 0) (.int .i64 0) (.slice none 0 0), set6_below HB8.out G8.out (.bool b0) (.bool false) (.int .i64 255) (.int .i64 0) (.int .i64 0) (.slice none 0 0), ⟨G4.out, G5.out, G7.out, G8.out⟩, ⟨N45.out, N47.out, N48.out, N57.out, N58.out, N78.out⟩⟩)
  clear HB8 H82 H84 H85 H87 H88 G2 N24 N25 N27 N28 k1 k2 k3 k4 k5 k6 HV
  have HN := Aside0.mk HX.out.n
  have HLE := Aside0.mk HX.out.l
  clear N45 N47 N48 N57 N58 N78 G4 G5 G7 G8
  go_loopg [29] (l.length + 1) (fun kq v29 W => ∃ (i : Nat) (P : Nat → Prop) (uA uB : Value), v29 = .int .i64 (i : Int) ∧ Aside0 (i ≤ l.length ∧ kq = l.length - i + 1) ∧ Aside0 (Two W w.heap.size P uA uB (lo off (l.take i)) (hi off (l.take i))) ∧ Aside0 (Bx w W g4 g5 g7 g8 b0 uA uB))
  case atStart => exact ⟨0, fun _ => True, .slice none 0 0, .slice none 0 0, rfl, ⟨Nat.zero_le _, rfl⟩, ⟨⟨Kd.S_nil _ _ _ _ _, Kd.S_nil _ _ _ _ _⟩⟩, HX⟩
  case round =>
    clear HX
    obtain ⟨i, P, uA, uB, rfl, HI, HT, HX⟩ := hrel
    obtain ⟨k1, rfl⟩ : ∃ k1, gk = k1 + 1 := ⟨_, HI.out.2⟩
    by_cases c1 : (i : Int) < (l.length : Int)
    · have c1b : decide ((i : Int) < (l.length : Int)) = true := decide_eq_true c1
      have HLT := Aside0.mk (show i < l.length by omega)
      obtain ⟨ad, A3, d3, A5, d5, e, hx0, hx1, hx2, hx3, hx4, hx5, hd3, hc3, hd5, hc5⟩ := at_T41 HR.out (i : Int) (by omega) c1
      cases e
      replace hx0 := (HX.out.b.cell (World.block_lt_of_cell? w _ hx0)).trans hx0
      replace hx1 := (HX.out.b.cell (World.block_lt_of_cell? w _ hx1)).trans hx1
      replace hx2 := (HX.out.b.cell (World.block_lt_of_cell? w _ hx2)).trans hx2
      replace hx3 := (HX.out.b.cell (World.block_lt_of_cell? w _ hx3)).trans hx3
      replace hx4 := (HX.out.b.cell (World.block_lt_of_cell? w _ hx4)).trans hx4
      replace hx5 := (HX.out.b.cell (World.block_lt_of_cell? w _ hx5)).trans hx5
      have HC3 := Aside0.mk hc3
      have HC5 := Aside0.mk hc5
      have HD3 := Aside0.mk hd3
      have HD5 := Aside0.mk hd5
      clear hc3 hc5 hd3 hd5
      have HPX := Aside0.mk (HP.out _ (rd41_mem l (i : Int) (by omega) c1))
      have HW64 := Aside0.mk (show wrap64 ((i : Int) + 1) = ((i + 1 : Nat) : Int) by rw [w64 (by omega) (by have := HL.out; omega)]; omega)
      have p0 : decide ((0 : Int) ≤ (i : Int)) = true := decide_eq_true (by omega)
      have p1 : (0 : Int) ≤ (i : Int) := by omega
      have p2 : (i : Int) < (l.length : Int) := c1
      have HTX := Aside0.mk (show l.take (i + 1) = l.take i ++ [rd_T41 l (i : Int)] by have h := take_gen l z41 (i : Int) (by omega) c1; rw [show ((i : Int) + 1).toNat = i + 1 by omega, show ((i : Int)).toNat = i by omega] at h; rw [h]; simp [rd_T41])
      clear c1
      generalize hx : rd_T41 l (i : Int) = x at hx0 hx1 hx2 hx3 hx4 hx5 HC3 HC5 HD3 HD5 HPX HTX
      clear hx
      simp only [Int.toNat_natCast] at hx0 hx1 hx2 hx3 hx4 hx5
      replace p1 := eq_true p1
      replace p2 := eq_true p2
      by_cases c2 : x.f0 < off
      · have c2b : decide (x.f0 < off) = true := decide_eq_true c2
        have HTK := Aside0.mk (show lo off (l.take (i + 1)) = lo off (l.take i) ++ [x] ∧ hi off (l.take (i + 1)) = hi off (l.take i) by rw [HTX.out]; simp [lo, hi, c2])
        have HLN := Aside0.mk (show (lo off (l.take i)).length ≤ l.length from Nat.le_trans (List.length_filter_le _ _) (by rw [List.length_take]; omega))
        clear c2 HTX
        go_wp2_with (first | ((with_reducible refine gate_dst (N := 10) rfl ?_); (try (refine gate_guard (by rfl) ?_; dsimp only)); refine box_event ?hg (N := 10) ?hd (cs := #[.int .i64 0, .int .i64 0, .bool false, .slice none 0 0, .bool false, .slice none 0 0]) (t := 41) ?hr ?_; (case hd => rfl); (case hg => rfl); (case hr => first | (go_simp; done) | (go_simp; rfl)); intro gr hg w10 hbox hb; have HX1 := Aside0.mk (HX.out.below hb); have HT1 := Aside0.mk (HT.out.below hb); have HR1 := Aside0.mk hbox; have GR := Aside0.mk (Nat.le_of_eq hg.symm : wr.heap.size ≤ gr); have HB1 := Aside0.mk hb; clear hb hbox hg; have zgr_0 : w10.cell? ⟨gr, 0, none⟩ = some (.int .i64 0) := blk_cell HR1.out 0; have zgr_1 : w10.cell? ⟨gr, 1, none⟩ = some (.int .i64 0) := blk_cell HR1.out 1; have zgr_2 : w10.cell? ⟨gr, 2, none⟩ = some (.bool false) := blk_cell HR1.out 2; have zgr_3 : w10.cell? ⟨gr, 3, none⟩ = some (.slice none 0 0) := blk_cell HR1.out 3; have zgr_4 : w10.cell? ⟨gr, 4, none⟩ = some (.bool false) := blk_cell HR1.out 4; have zgr_5 : w10.cell? ⟨gr, 5, none⟩ = some (.slice none 0 0) := blk_cell HR1.out 5; have fzgr_0 : w10.frozen? ⟨gr, 0, none⟩ = false := blk_frozen HR1.out 0; have fzgr_1 : w10.frozen? ⟨gr, 1, none⟩ = false := blk_frozen HR1.out 1; have fzgr_2 : w10.frozen? ⟨gr, 2, none⟩ = false := blk_frozen HR1.out 2; have fzgr_3 : w10.frozen? ⟨gr, 3, none⟩ = false := blk_frozen HR1.out 3; have fzgr_4 : w10.frozen? ⟨gr, 4, none⟩ = false := blk_frozen HR1.out 4; have fzgr_5 : w10.frozen? ⟨gr, 5, none⟩ = false := blk_frozen HR1.out 5))
        clear hx0 hx1 hx2 hx3 hx4 hx5
        have HX2 := Aside0.mk (Bx.six HX1.out (g := gr) (fun k hk => by have h1 := HX.out.lt k hk; have h2 := GR.out; omega) (by have h1 := HX.out.b.size; have h2 := GR.out; omega) (.int .i64 x.f0) (.int .i64 x.f1) (.bool x.f2) (.slice A3 x.f3.length d3) (.bool x.f4) (.slice A5 x.f5.length d5))
        have HT2 := Aside0.mk (Two.six HT.out GR.out HB1.out (.int .i64 x.f0) (.int .i64 x.f1) (.bool x.f2) (.slice A3 x.f3.length d3) (.bool x.f4) (.slice A5 x.f5.length d5))
        have HR2 := Aside0.mk (set6_blk HR1.out (.int .i64 x.f0) (.int .i64 x.f1) (.bool x.f2) (.slice A3 x.f3.length d3) (.bool x.f4) (.slice A5 x.f5.length d5))
        have HQ2 := Aside0.mk (set6_below HB1.out GR.out (.int .i64 x.f0) (.int .i64 x.f1) (.bool x.f2) (.slice A3 x.f3.length d3) (.bool x.f4) (.slice A5 x.f5.length d5))
        clear HX1 HT1 HR1 HB1 zgr_0 zgr_1 zgr_2 zgr_3 zgr_4 zgr_5 fzgr_0 fzgr_1 fzgr_2 fzgr_3 fzgr_4 fzgr_5
        unfold set6 at HX2 HT2 HQ2
        generalize ((((((w10.setCell ⟨gr, 0, none⟩ (.int .i64 x.f0)).setCell ⟨gr, 1, none⟩ (.int .i64 x.f1)).setCell ⟨gr, 2, none⟩ (.bool x.f2)).setCell ⟨gr, 3, none⟩ (.slice A3 x.f3.length d3)).setCell ⟨gr, 4, none⟩ (.bool x.f4)).setCell ⟨gr, 5, none⟩ (.slice A5 x.f5.length d5)) = wa at HX2 HT2 HR2 HQ2 ⊢
        refine start_ (n := 8) (S := fun w' => w'.cell? ⟨g7, 0, none⟩ = some (.bool b0) ∧ w'.cell? ⟨g7, 1, none⟩ = some (.bool false) ∧ w'.cell? ⟨g7, 2, none⟩ = some (.int .i64 255) ∧ w'.cell? ⟨g7, 3, none⟩ = some (.int .i64 0) ∧ w'.cell? ⟨g7, 4, none⟩ = some (.int .i64 0) ∧ w'.cell? ⟨g7, 5, none⟩ = some (uA) ∧ w'.cell? ⟨gr, 0, none⟩ = some (.int .i64 x.f0) ∧ w'.cell? ⟨gr, 1, none⟩ = some (.int .i64 x.f1) ∧ w'.cell? ⟨gr, 2, none⟩ = some (.bool x.f2) ∧ w'.cell? ⟨gr, 3, none⟩ = some (.slice A3 x.f3.length d3) ∧ w'.cell? ⟨gr, 4, none⟩ = some (.bool x.f4) ∧ w'.cell? ⟨gr, 5, none⟩ = some (.slice A5 x.f5.length d5)) (ds := [7]) #[false, false, false, false, false, false, false, false] (by kernel_rfl) rfl rfl ⟨(blk_cell HX2.out.h7 0), (blk_cell HX2.out.h7 1), (blk_cell HX2.out.h7 2), (blk_cell HX2.out.h7 3), (blk_cell HX2.out.h7 4), (blk_cell HX2.out.h7 5), (blk_cell HR2.out 0), (blk_cell HR2.out 1), (blk_cell HR2.out 2), (blk_cell HR2.out 3), (blk_cell HR2.out 4), (blk_cell HR2.out 5)⟩ (fun hHeld => ?_)
        refine with_tabW cut_tab9 cut_bits9 (fun HT_ HW_ => ?_)
        have HX3 := Aside0.mk HX2.out.drew
        have HT3 := Aside0.mk HT2.out.drew
        have HR3 := Aside0.mk (blk_drew HR2.out)
        have HQ3 := Aside0.mk (below_drew HQ2.out)
        clear HX2 HT2 HR2 HQ2
        generalize wa.drew = wb at HX3 HT3 HR3 HQ3 hHeld ⊢
        refine pure_ (i := 0) (N := some 37) (v := ?_) (a' := ?_) #[true, false, false, false, false, false, false, false] rfl rfl (any_of HT_.out (by kernel_rfl)) (fun _ _ _ h => h) (Or.inl ⟨by rfl, ?_⟩) ?_ ?_
        rotate_left
        · intro w'
          go_simp
          with_reducible rfl
        rotate_left
        · simp only [Act.put, List.setIfInBounds_toArray, List.set_cons_zero, List.set_cons_succ, i64_w, i32_w]
          rfl
        refine take_ (i := 1) (N := some 38) (v := ?_) (a' := ?_) #[true, true, false, false, false, false, false, false] rfl rfl (take_ofW HT_.out HW_.out (by kernel_rfl)) (fun _ _ _ h => h) (Or.inl ⟨by rfl, ?_⟩) hHeld ?_ ?_
        rotate_left
        · rintro w' ⟨s0, s1, s2, s3, s4, s5, s6, s7, s8, s9, s10, s11⟩
          go_simp
          with_reducible rfl
        rotate_left
        · simp only [Act.put, List.setIfInBounds_toArray, List.set_cons_zero, List.set_cons_succ, i64_w, i32_w]
          rfl
        refine take_ (i := 2) (N := some 39) (v := ?_) (a' := ?_) #[true, true, true, false, false, false, false, false] rfl rfl (take_ofW HT_.out HW_.out (by kernel_rfl)) (fun _ _ _ h => h) (Or.inl ⟨by rfl, ?_⟩) hHeld ?_ ?_
        rotate_left
        · rintro w' ⟨s0, s1, s2, s3, s4, s5, s6, s7, s8, s9, s10, s11⟩
          go_simp
          with_reducible rfl
        rotate_left
        · simp only [Act.put, List.setIfInBounds_toArray, List.set_cons_zero, List.set_cons_succ, i64_w, i32_w]
          rfl
        refine one_ (i := 3) (N := some 40) #[true, true, true, true, false, false, false, false] rfl rfl (one_of HT_.out (by kernel_rfl)) (by decide) (fun K hK => ?_)
        clear hHeld
        refine goes_ Tryd.func41 (by kernel_rfl) rfl #[.agg #[.int .i64 x.f0, .int .i64 x.f1, .bool x.f2, .slice A3 x.f3.length d3, .bool x.f4, .slice A5 x.f5.length d5]] (by rfl) rfl rfl (by (try simp only [List.map_toArray, List.map_cons, List.map_nil]); first | done | rfl) ?_
        refine (impl_copyOf.calls x A3 d3 A5 d5 _ (Kd.C_below HC3.out HX3.out.b) HD3.out (Kd.C_below HC5.out HX3.out.b) HD5.out HPX.out.1 HPX.out.2).mono ?_
        rintro e w2 ⟨v3, v5, rfl, ho3, ho5, hb⟩
        refine ⟨_, rfl, ?_⟩
        obtain ⟨E3, e3, q3⟩ := Kd.R_slice ho3
        obtain ⟨E5, e5, q5⟩ := Kd.R_slice ho5
        subst q3
        subst q5
        have HX4 := Aside0.mk (HX3.out.below hb)
        have HT4 := Aside0.mk ((HT3.out.new_a (Nat.le_refl _)).below hb)
        have HR4 := Aside0.mk (blk_below HR3.out hb)
        have HQ4 := Aside0.mk (below_step HQ3.out hb)
        have HM4 := Aside0.mk (show kd41.M w2 w.heap.size (fun k => wb.heap.size ≤ k ∧ k < w2.heap.size) x [.int .i64 x.f0, .int .i64 x.f1, .bool x.f2, .slice E3 x.f3.length e3, .bool x.f4, .slice E5 x.f5.length e5] from kd41_mkM w2 w.heap.size _ x (Kd.R_lower (Kd.R_mono (Kd.R_bound ho3) (fun k hk => ⟨⟨hk.2.1, hk.2.2.1⟩, hk.1⟩)) HX3.out.b.size) (Kd.R_lower (Kd.R_mono (Kd.R_bound ho5) (fun k hk => ⟨⟨hk.2.1, hk.2.2.1⟩, hk.1⟩)) HX3.out.b.size))
        have HO4 := Aside0.mk (Kd.S_below (Kd.S_bound HT3.out.a) hb)
        have HZ4 := Aside0.mk hb.size
        clear ho3 ho5 hb
        refine hK.out _ _ ⟨(blk_cell HX4.out.h7 0), (blk_cell HX4.out.h7 1), (blk_cell HX4.out.h7 2), (blk_cell HX4.out.h7 3), (blk_cell HX4.out.h7 4), (blk_cell HX4.out.h7 5), (blk_cell HR4.out 0), (blk_cell HR4.out 1), (blk_cell HR4.out 2), (blk_cell HR4.out 3), (blk_cell HR4.out 4), (blk_cell HR4.out 5)⟩ (fun hHeld => ?_)
        clear hK K hHeld
        refine norm_ (a' := ?_) ?_ ?_
        rotate_left
        · show Act.put _ (some 40) _ = _
          simp only [Act.put, List.setIfInBounds_toArray, List.set_cons_zero, List.set_cons_succ, i64_w, i32_w]
          rfl
        refine one_ (i := 4) (N := some 41) #[true, true, true, true, true, false, false, false] rfl rfl (one_of HT_.out (by kernel_rfl)) (by decide) (fun K hK => ?_)
        refine value_ (w1 := ?_) (v := ?_) (by rfl) rfl ?_ ?_
        rotate_left 2
        · go_simp
          constructor
          · rfl
          · rfl
        refine hK.out _ _ ⟨(blk_cell (blk_alloc HX4.out.h7 _) 0), (blk_cell (blk_alloc HX4.out.h7 _) 1), (blk_cell (blk_alloc HX4.out.h7 _) 2), (blk_cell (blk_alloc HX4.out.h7 _) 3), (blk_cell (blk_alloc HX4.out.h7 _) 4), (blk_cell (blk_alloc HX4.out.h7 _) 5), (blk_cell (blk_alloc HR4.out _) 0), (blk_cell (blk_alloc HR4.out _) 1), (blk_cell (blk_alloc HR4.out _) 2), (blk_cell (blk_alloc HR4.out _) 3), (blk_cell (blk_alloc HR4.out _) 4), (blk_cell (blk_alloc HR4.out _) 5)⟩ (fun hHeld => ?_)
        clear hK K hHeld
        refine norm_ (a' := ?_) ?_ ?_
        rotate_left
        · show Act.put _ (some 41) _ = _
          simp only [Act.put, List.setIfInBounds_toArray, List.set_cons_zero, List.set_cons_succ, i64_w, i32_w]
          rfl
        refine one_ (i := 5) (N := some 42) #[true, true, true, true, true, true, false, false] rfl rfl (one_of HT_.out (by kernel_rfl)) (by decide) (fun K hK => ?_)
        refine Kd.S_append_step kd41 (w0 := w) w.heap.size (by rfl) (.tmp 38) (.tmp 41) 26 41 (.agg #[.int .i64 0, .int .i64 0, .bool false, .slice none 0 0, .bool false, .slice none 0 0]) 80 rfl Tryd.underlying26 info41 rfl (by decide) (by omega) uA (lo off (l.take i)) x [.int .i64 x.f0, .int .i64 x.f1, .bool x.f2, .slice E3 x.f3.length e3, .bool x.f4, .slice E5 x.f5.length e5] (fun k => P k ∨ wb.heap.size ≤ k) (fun k => wb.heap.size ≤ k ∧ k < w2.heap.size) rfl rfl HM4.out ?aO ?aF ?aS HX4.out.b HX4.out.b.size ?aL ?_
        (case aO => exact fun k hk => ⟨.inr hk.1, fun he => by have h1 := Kd.S_lt HT3.out.a k he.symm; have h2 := hk.1; omega⟩)
        (case aF => exact fun k hk => .inr (Nat.le_trans HZ4.out hk))
        (case aS => exact Kd.S_mono HO4.out (fun k hk => ⟨.inl hk.1, fun h1 => by have h2 := hk.2.2.1; have h3 := h1.1; omega⟩))
        (case aL => have h1 := HLN.out; have h2 := HL.out; omega)
        intro v1 w3 ho hb hg hat
        clear hat
        obtain ⟨ys, hys⟩ : ∃ ys, ys = (lo off (l.take i)) ++ [x] := ⟨_, rfl⟩
        rw [← hys] at ho
        have HX5 := Aside0.mk (HX4.out.step (fun k hk => hg.block k (HX4.out.lt k hk) (HX4.out.not_row (Kd.S_typed HO4.out) k hk)) hb)
        have HR5 := Aside0.mk (blk_grown HR4.out hg (fun he => by have h1 := Kd.S_lt HT.out.a gr he.symm; have h2 := GR.out; omega))
        have HT5 := Aside0.mk (show Two w3 w.heap.size (fun k => P k ∨ wb.heap.size ≤ k) v1 uB ys (hi off (l.take i)) from ⟨ho, Kd.S_grown HT4.out.b hg (fun k hk he => hk (.inl ((Kd.S_R HT3.out.a).1 k he.symm)))⟩)
        obtain ⟨D1, f1, q1⟩ := Kd.S_slice ho
        subst q1
        have HYS := Aside0.mk hys
        clear hys
        clear ho hb hg HX4 HR4 HT4 HM4 HO4 HZ4
        refine hK.out _ _ ⟨(blk_cell HX5.out.h7 0), (blk_cell HX5.out.h7 1), (blk_cell HX5.out.h7 2), (blk_cell HX5.out.h7 3), (blk_cell HX5.out.h7 4), (blk_cell HX5.out.h7 5), (blk_cell HR5.out 0), (blk_cell HR5.out 1), (blk_cell HR5.out 2), (blk_cell HR5.out 3), (blk_cell HR5.out 4), (blk_cell HR5.out 5)⟩ (fun hHeld => ?_)
        clear hK K hHeld
        refine norm_ (a' := ?_) ?_ ?_
        rotate_left
        · show Act.put _ (some 42) _ = _
          simp only [Act.put, List.setIfInBounds_toArray, List.set_cons_zero, List.set_cons_succ, i64_w, i32_w]
          rfl
        refine pure_ (i := 6) (N := some 43) (v := ?_) (a' := ?_) #[true, true, true, true, true, true, true, false] rfl rfl (any_of HT_.out (by kernel_rfl)) (fun _ _ _ h => h) (Or.inl ⟨by rfl, ?_⟩) ?_ ?_
        rotate_left
        · intro w'
          go_simp
          with_reducible rfl
        rotate_left
        · simp only [Act.put, List.setIfInBounds_toArray, List.set_cons_zero, List.set_cons_succ, i64_w, i32_w]
          rfl
        refine last_ (i := 7) (N := none) #[true, true, true, true, true, true, true, true] rfl rfl (one_of HT_.out (by kernel_rfl)) (by decide) (fun K hK => ?_)
        have y1 : w3.cell? ⟨g7, 5, none⟩ = some uA := blk_cell HX5.out.h7 5
        have y2 := blk_frozen HX5.out.h7 5
        refine skip_ (w1 := ?_) (by rfl) rfl ?_ ?_
        rotate_left
        · go_simp
          rfl
        clear y1 y2
        refine hK.out _ _ ?_
        clear hK K
        refine done_ (done_of HT_.out (by kernel_rfl)) ?_
        try go_wp2
        go_roundg k1
        case measure => have h1 := HI.out; omega
        case rel =>
          refine ⟨i + 1, (fun k => P k ∨ wb.heap.size ≤ k), (.slice D1 ys.length f1), uB, by rw [HW64.out], ⟨by have h0 := HLT.out; omega, by have h0 := HLT.out; have h1 := HI.out; omega⟩, ⟨?_⟩, ⟨HX5.out.put7 _⟩⟩
          rw [HTK.out.1, HTK.out.2, ← HYS.out]
          exact HT5.out.box HX5.out.h7 5 _
      · have c2b : decide (x.f0 < off) = false := decide_eq_false c2
        have HTK := Aside0.mk (show lo off (l.take (i + 1)) = lo off (l.take i) ∧ hi off (l.take (i + 1)) = hi off (l.take i) ++ [x] by rw [HTX.out]; simp [lo, hi, Int.not_lt.1 c2, c2])
        have HLN := Aside0.mk (show (hi off (l.take i)).length ≤ l.length from Nat.le_trans (List.length_filter_le _ _) (by rw [List.length_take]; omega))
        clear c2 HTX
        go_wp2_with (first | ((with_reducible refine gate_dst (N := 10) rfl ?_); (try (refine gate_guard (by rfl) ?_; dsimp only)); refine box_event ?hg (N := 10) ?hd (cs := #[.int .i64 0, .int .i64 0, .bool false, .slice none 0 0, .bool false, .slice none 0 0]) (t := 41) ?hr ?_; (case hd => rfl); (case hg => rfl); (case hr => first | (go_simp; done) | (go_simp; rfl)); intro gr hg w10 hbox hb; have HX1 := Aside0.mk (HX.out.below hb); have HT1 := Aside0.mk (HT.out.below hb); have HR1 := Aside0.mk hbox; have GR := Aside0.mk (Nat.le_of_eq hg.symm : wr.heap.size ≤ gr); have HB1 := Aside0.mk hb; clear hb hbox hg; have zgr_0 : w10.cell? ⟨gr, 0, none⟩ = some (.int .i64 0) := blk_cell HR1.out 0; have zgr_1 : w10.cell? ⟨gr, 1, none⟩ = some (.int .i64 0) := blk_cell HR1.out 1; have zgr_2 : w10.cell? ⟨gr, 2, none⟩ = some (.bool false) := blk_cell HR1.out 2; have zgr_3 : w10.cell? ⟨gr, 3, none⟩ = some (.slice none 0 0) := blk_cell HR1.out 3; have zgr_4 : w10.cell? ⟨gr, 4, none⟩ = some (.bool false) := blk_cell HR1.out 4; have zgr_5 : w10.cell? ⟨gr, 5, none⟩ = some (.slice none 0 0) := blk_cell HR1.out 5; have fzgr_0 : w10.frozen? ⟨gr, 0, none⟩ = false := blk_frozen HR1.out 0; have fzgr_1 : w10.frozen? ⟨gr, 1, none⟩ = false := blk_frozen HR1.out 1; have fzgr_2 : w10.frozen? ⟨gr, 2, none⟩ = false := blk_frozen HR1.out 2; have fzgr_3 : w10.frozen? ⟨gr, 3, none⟩ = false := blk_frozen HR1.out 3; have fzgr_4 : w10.frozen? ⟨gr, 4, none⟩ = false := blk_frozen HR1.out 4; have fzgr_5 : w10.frozen? ⟨gr, 5, none⟩ = false := blk_frozen HR1.out 5))
        clear hx0 hx1 hx2 hx3 hx4 hx5
        have HX2 := Aside0.mk (Bx.six HX1.out (g := gr) (fun k hk => by have h1 := HX.out.lt k hk; have h2 := GR.out; omega) (by have h1 := HX.out.b.size; have h2 := GR.out; omega) (.int .i64 x.f0) (.int .i64 x.f1) (.bool x.f2) (.slice A3 x.f3.length d3) (.bool x.f4) (.slice A5 x.f5.length d5))
        have HT2 := Aside0.mk (Two.six HT.out GR.out HB1.out (.int .i64 x.f0) (.int .i64 x.f1) (.bool x.f2) (.slice A3 x.f3.length d3) (.bool x.f4) (.slice A5 x.f5.length d5))
        have HR2 := Aside0.mk (set6_blk HR1.out (.int .i64 x.f0) (.int .i64 x.f1) (.bool x.f2) (.slice A3 x.f3.length d3) (.bool x.f4) (.slice A5 x.f5.length d5))
        have HQ2 := Aside0.mk (set6_below HB1.out GR.out (.int .i64 x.f0) (.int .i64 x.f1) (.bool x.f2) (.slice A3 x.f3.length d3) (.bool x.f4) (.slice A5 x.f5.length d5))
        clear HX1 HT1 HR1 HB1 zgr_0 zgr_1 zgr_2 zgr_3 zgr_4 zgr_5 fzgr_0 fzgr_1 fzgr_2 fzgr_3 fzgr_4 fzgr_5
        unfold set6 at HX2 HT2 HQ2
        generalize ((((((w10.setCell ⟨gr, 0, none⟩ (.int .i64 x.f0)).setCell ⟨gr, 1, none⟩ (.int .i64 x.f1)).setCell ⟨gr, 2, none⟩ (.bool x.f2)).setCell ⟨gr, 3, none⟩ (.slice A3 x.f3.length d3)).setCell ⟨gr, 4, none⟩ (.bool x.f4)).setCell ⟨gr, 5, none⟩ (.slice A5 x.f5.length d5)) = wa at HX2 HT2 HR2 HQ2 ⊢
        refine start_ (n := 8) (S := fun w' => w'.cell? ⟨g8, 0, none⟩ = some (.bool b0) ∧ w'.cell? ⟨g8, 1, none⟩ = some (.bool false) ∧ w'.cell? ⟨g8, 2, none⟩ = some (.int .i64 255) ∧ w'.cell? ⟨g8, 3, none⟩ = some (.int .i64 0) ∧ w'.cell? ⟨g8, 4, none⟩ = some (.int .i64 0) ∧ w'.cell? ⟨g8, 5, none⟩ = some (uB) ∧ w'.cell? ⟨gr, 0, none⟩ = some (.int .i64 x.f0) ∧ w'.cell? ⟨gr, 1, none⟩ = some (.int .i64 x.f1) ∧ w'.cell? ⟨gr, 2, none⟩ = some (.bool x.f2) ∧ w'.cell? ⟨gr, 3, none⟩ = some (.slice A3 x.f3.length d3) ∧ w'.cell? ⟨gr, 4, none⟩ = some (.bool x.f4) ∧ w'.cell? ⟨gr, 5, none⟩ = some (.slice A5 x.f5.length d5)) (ds := [7]) #[false, false, false, false, false, false, false, false] (by kernel_rfl) rfl rfl ⟨(blk_cell HX2.out.h8 0), (blk_cell HX2.out.h8 1), (blk_cell HX2.out.h8 2), (blk_cell HX2.out.h8 3), (blk_cell HX2.out.h8 4), (blk_cell HX2.out.h8 5), (blk_cell HR2.out 0), (blk_cell HR2.out 1), (blk_cell HR2.out 2), (blk_cell HR2.out 3), (blk_cell HR2.out 4), (blk_cell HR2.out 5)⟩ (fun hHeld => ?_)
        refine with_tabW cut_tab10 cut_bits10 (fun HT_ HW_ => ?_)
        have HX3 := Aside0.mk HX2.out.drew
        have HT3 := Aside0.mk HT2.out.drew
        have HR3 := Aside0.mk (blk_drew HR2.out)
        have HQ3 := Aside0.mk (below_drew HQ2.out)
        clear HX2 HT2 HR2 HQ2
        generalize wa.drew = wb at HX3 HT3 HR3 HQ3 hHeld ⊢
        refine pure_ (i := 0) (N := some 44) (v := ?_) (a' := ?_) #[true, false, false, false, false, false, false, false] rfl rfl (any_of HT_.out (by kernel_rfl)) (fun _ _ _ h => h) (Or.inl ⟨by rfl, ?_⟩) ?_ ?_
        rotate_left
        · intro w'
          go_simp
          with_reducible rfl
        rotate_left
        · simp only [Act.put, List.setIfInBounds_toArray, List.set_cons_zero, List.set_cons_succ, i64_w, i32_w]
          rfl
        refine take_ (i := 1) (N := some 45) (v := ?_) (a' := ?_) #[true, true, false, false, false, false, false, false] rfl rfl (take_ofW HT_.out HW_.out (by kernel_rfl)) (fun _ _ _ h => h) (Or.inl ⟨by rfl, ?_⟩) hHeld ?_ ?_
        rotate_left
        · rintro w' ⟨s0, s1, s2, s3, s4, s5, s6, s7, s8, s9, s10, s11⟩
          go_simp
          with_reducible rfl
        rotate_left
        · simp only [Act.put, List.setIfInBounds_toArray, List.set_cons_zero, List.set_cons_succ, i64_w, i32_w]
          rfl
        refine take_ (i := 2) (N := some 46) (v := ?_) (a' := ?_) #[true, true, true, false, false, false, false, false] rfl rfl (take_ofW HT_.out HW_.out (by kernel_rfl)) (fun _ _ _ h => h) (Or.inl ⟨by rfl, ?_⟩) hHeld ?_ ?_
        rotate_left
        · rintro w' ⟨s0, s1, s2, s3, s4, s5, s6, s7, s8, s9, s10, s11⟩
          go_simp
          with_reducible rfl
        rotate_left
        · simp only [Act.put, List.setIfInBounds_toArray, List.set_cons_zero, List.set_cons_succ, i64_w, i32_w]
          rfl
        refine one_ (i := 3) (N := some 47) #[true, true, true, true, false, false, false, false] rfl rfl (one_of HT_.out (by kernel_rfl)) (by decide) (fun K hK => ?_)
        clear hHeld
        refine goes_ Tryd.func41 (by kernel_rfl) rfl #[.agg #[.int .i64 x.f0, .int .i64 x.f1, .bool x.f2, .slice A3 x.f3.length d3, .bool x.f4, .slice A5 x.f5.length d5]] (by rfl) rfl rfl (by (try simp only [List.map_toArray, List.map_cons, List.map_nil]); first | done | rfl) ?_
        refine (impl_copyOf.calls x A3 d3 A5 d5 _ (Kd.C_below HC3.out HX3.out.b) HD3.out (Kd.C_below HC5.out HX3.out.b) HD5.out HPX.out.1 HPX.out.2).mono ?_
        rintro e w2 ⟨v3, v5, rfl, ho3, ho5, hb⟩
        refine ⟨_, rfl, ?_⟩
        obtain ⟨E3, e3, q3⟩ := Kd.R_slice ho3
        obtain ⟨E5, e5, q5⟩ := Kd.R_slice ho5
        subst q3
        subst q5
        have HX4 := Aside0.mk (HX3.out.below hb)
        have HT4 := Aside0.mk ((HT3.out.new_b (Nat.le_refl _)).below hb)
        have HR4 := Aside0.mk (blk_below HR3.out hb)
        have HQ4 := Aside0.mk (below_step HQ3.out hb)
        have HM4 := Aside0.mk (show kd41.M w2 w.heap.size (fun k => wb.heap.size ≤ k ∧ k < w2.heap.size) x [.int .i64 x.f0, .int .i64 x.f1, .bool x.f2, .slice E3 x.f3.length e3, .bool x.f4, .slice E5 x.f5.length e5] from kd41_mkM w2 w.heap.size _ x (Kd.R_lower (Kd.R_mono (Kd.R_bound ho3) (fun k hk => ⟨⟨hk.2.1, hk.2.2.1⟩, hk.1⟩)) HX3.out.b.size) (Kd.R_lower (Kd.R_mono (Kd.R_bound ho5) (fun k hk => ⟨⟨hk.2.1, hk.2.2.1⟩, hk.1⟩)) HX3.out.b.size))
        have HO4 := Aside0.mk (Kd.S_below (Kd.S_bound HT3.out.b) hb)
        have HZ4 := Aside0.mk hb.size
        clear ho3 ho5 hb
        refine hK.out _ _ ⟨(blk_cell HX4.out.h8 0), (blk_cell HX4.out.h8 1), (blk_cell HX4.out.h8 2), (blk_cell HX4.out.h8 3), (blk_cell HX4.out.h8 4), (blk_cell HX4.out.h8 5), (blk_cell HR4.out 0), (blk_cell HR4.out 1), (blk_cell HR4.out 2), (blk_cell HR4.out 3), (blk_cell HR4.out 4), (blk_cell HR4.out 5)⟩ (fun hHeld => ?_)
        clear hK K hHeld
        refine norm_ (a' := ?_) ?_ ?_
        rotate_left
        · show Act.put _ (some 47) _ = _
          simp only [Act.put, List.setIfInBounds_toArray, List.set_cons_zero, List.set_cons_succ, i64_w, i32_w]
          rfl
        refine one_ (i := 4) (N := some 48) #[true, true, true, true, true, false, false, false] rfl rfl (one_of HT_.out (by kernel_rfl)) (by decide) (fun K hK => ?_)
        refine value_ (w1 := ?_) (v := ?_) (by rfl) rfl ?_ ?_
        rotate_left 2
        · go_simp
          constructor
          · rfl
          · rfl
        refine hK.out _ _ ⟨(blk_cell (blk_alloc HX4.out.h8 _) 0), (blk_cell (blk_alloc HX4.out.h8 _) 1), (blk_cell (blk_alloc HX4.out.h8 _) 2), (blk_cell (blk_alloc HX4.out.h8 _) 3), (blk_cell (blk_alloc HX4.out.h8 _) 4), (blk_cell (blk_alloc HX4.out.h8 _) 5), (blk_cell (blk_alloc HR4.out _) 0), (blk_cell (blk_alloc HR4.out _) 1), (blk_cell (blk_alloc HR4.out _) 2), (blk_cell (blk_alloc HR4.out _) 3), (blk_cell (blk_alloc HR4.out _) 4), (blk_cell (blk_alloc HR4.out _) 5)⟩ (fun hHeld => ?_)
        clear hK K hHeld
        refine norm_ (a' := ?_) ?_ ?_
        rotate_left
        · show Act.put _ (some 48) _ = _
          simp only [Act.put, List.setIfInBounds_toArray, List.set_cons_zero, List.set_cons_succ, i64_w, i32_w]
          rfl
        refine one_ (i := 5) (N := some 49) #[true, true, true, true, true, true, false, false] rfl rfl (one_of HT_.out (by kernel_rfl)) (by decide) (fun K hK => ?_)
        refine Kd.S_append_step kd41 (w0 := w) w.heap.size (by rfl) (.tmp 45) (.tmp 48) 26 41 (.agg #[.int .i64 0, .int .i64 0, .bool false, .slice none 0 0, .bool false, .slice none 0 0]) 80 rfl Tryd.underlying26 info41 rfl (by decide) (by omega) uB (hi off (l.take i)) x [.int .i64 x.f0, .int .i64 x.f1, .bool x.f2, .slice E3 x.f3.length e3, .bool x.f4, .slice E5 x.f5.length e5] (fun k => ¬ (P k ∧ k < wb.heap.size)) (fun k => wb.heap.size ≤ k ∧ k < w2.heap.size) rfl rfl HM4.out ?aO ?aF ?aS HX4.out.b HX4.out.b.size ?aL ?_
        (case aO => exact fun k hk => ⟨fun h1 => by have h2 := h1.2; have h3 := hk.1; omega, fun he => by have h1 := Kd.S_lt HT3.out.b k he.symm; have h2 := hk.1; omega⟩)
        (case aF => exact fun k hk h1 => by have h2 := h1.2; have h3 := HZ4.out; omega)
        (case aS => exact Kd.S_mono HO4.out (fun k hk => ⟨fun h1 => hk.1 h1.1, fun h1 => by have h2 := hk.2.2.1; have h3 := h1.1; omega⟩))
        (case aL => have h1 := HLN.out; have h2 := HL.out; omega)
        intro v1 w3 ho hb hg hat
        clear hat
        obtain ⟨ys, hys⟩ : ∃ ys, ys = (hi off (l.take i)) ++ [x] := ⟨_, rfl⟩
        rw [← hys] at ho
        have HX5 := Aside0.mk (HX4.out.step (fun k hk => hg.block k (HX4.out.lt k hk) (HX4.out.not_row (Kd.S_typed HO4.out) k hk)) hb)
        have HR5 := Aside0.mk (blk_grown HR4.out hg (fun he => by have h1 := Kd.S_lt HT.out.b gr he.symm; have h2 := GR.out; omega))
        have HT5 := Aside0.mk (show Two w3 w.heap.size (fun k => P k ∧ k < wb.heap.size) uA v1 (lo off (l.take i)) ys from ⟨Kd.S_grown HT4.out.a hg (fun k hk he => (Kd.S_R HT3.out.b).1 k he.symm hk.1), ho⟩)
        obtain ⟨D1, f1, q1⟩ := Kd.S_slice ho
        subst q1
        have HYS := Aside0.mk hys
        clear hys
        clear ho hb hg HX4 HR4 HT4 HM4 HO4 HZ4
        refine hK.out _ _ ⟨(blk_cell HX5.out.h8 0), (blk_cell HX5.out.h8 1), (blk_cell HX5.out.h8 2), (blk_cell HX5.out.h8 3), (blk_cell HX5.out.h8 4), (blk_cell HX5.out.h8 5), (blk_cell HR5.out 0), (blk_cell HR5.out 1), (blk_cell HR5.out 2), (blk_cell HR5.out 3), (blk_cell HR5.out 4), (blk_cell HR5.out 5)⟩ (fun hHeld => ?_)
        clear hK K hHeld
        refine norm_ (a' := ?_) ?_ ?_
        rotate_left
        · show Act.put _ (some 49) _ = _
          simp only [Act.put, List.setIfInBounds_toArray, List.set_cons_zero, List.set_cons_succ, i64_w, i32_w]
          rfl
        refine pure_ (i := 6) (N := some 50) (v := ?_) (a' := ?_) #[true, true, true, true, true, true, true, false] rfl rfl (any_of HT_.out (by kernel_rfl)) (fun _ _ _ h => h) (Or.inl ⟨by rfl, ?_⟩) ?_ ?_
        rotate_left
        · intro w'
          go_simp
          with_reducible rfl
        rotate_left
        · simp only [Act.put, List.setIfInBounds_toArray, List.set_cons_zero, List.set_cons_succ, i64_w, i32_w]
          rfl
        refine last_ (i := 7) (N := none) #[true, true, true, true, true, true, true, true] rfl rfl (one_of HT_.out (by kernel_rfl)) (by decide) (fun K hK => ?_)
        have y1 : w3.cell? ⟨g8, 5, none⟩ = some uB := blk_cell HX5.out.h8 5
        have y2 := blk_frozen HX5.out.h8 5
        refine skip_ (w1 := ?_) (by rfl) rfl ?_ ?_
        rotate_left
        · go_simp
          rfl
        clear y1 y2
        refine hK.out _ _ ?_
        clear hK K
        refine done_ (done_of HT_.out (by kernel_rfl)) ?_
        try go_wp2
        go_roundg k1
        case measure => have h1 := HI.out; omega
        case rel =>
          refine ⟨i + 1, (fun k => P k ∧ k < wb.heap.size), uA, (.slice D1 ys.length f1), by rw [HW64.out], ⟨by have h0 := HLT.out; omega, by have h0 := HLT.out; have h1 := HI.out; omega⟩, ⟨?_⟩, ⟨HX5.out.put8 _⟩⟩
          rw [HTK.out.1, HTK.out.2, ← HYS.out]
          exact HT5.out.box HX5.out.h8 5 _
    · have c1b : decide ((i : Int) < (l.length : Int)) = false := decide_eq_false c1
      have c1c : decide (i < l.length) = false := decide_eq_false (by omega)
      have HE := Aside0.mk (show l.take i = l from List.take_of_length_le (by omega))
      clear c1
      rw [HE.out] at HT
      obtain ⟨A1, c1, e1⟩ := Kd.S_slice HT.out.a
      obtain ⟨A2, c2, e2⟩ := Kd.S_slice HT.out.b
      subst e1
      subst e2
      have zg7_0 : wr.cell? ⟨g7, 0, none⟩ = some (.bool b0) := blk_cell HX.out.h7 0
      have zg7_1 : wr.cell? ⟨g7, 1, none⟩ = some (.bool false) := blk_cell HX.out.h7 1
      have zg7_2 : wr.cell? ⟨g7, 2, none⟩ = some (.int .i64 255) := blk_cell HX.out.h7 2
      have zg7_3 : wr.cell? ⟨g7, 3, none⟩ = some (.int .i64 0) := blk_cell HX.out.h7 3
      have zg7_4 : wr.cell? ⟨g7, 4, none⟩ = some (.int .i64 0) := blk_cell HX.out.h7 4
      have zg7_5 : wr.cell? ⟨g7, 5, none⟩ = some (.slice A1 (lo off l).length c1) := blk_cell HX.out.h7 5
      have fzg7_0 : wr.frozen? ⟨g7, 0, none⟩ = false := blk_frozen HX.out.h7 0
      have fzg7_1 : wr.frozen? ⟨g7, 1, none⟩ = false := blk_frozen HX.out.h7 1
      have fzg7_2 : wr.frozen? ⟨g7, 2, none⟩ = false := blk_frozen HX.out.h7 2
      have fzg7_3 : wr.frozen? ⟨g7, 3, none⟩ = false := blk_frozen HX.out.h7 3
      have fzg7_4 : wr.frozen? ⟨g7, 4, none⟩ = false := blk_frozen HX.out.h7 4
      have fzg7_5 : wr.frozen? ⟨g7, 5, none⟩ = false := blk_frozen HX.out.h7 5
      have zg8_0 : wr.cell? ⟨g8, 0, none⟩ = some (.bool b0) := blk_cell HX.out.h8 0
      have zg8_1 : wr.cell? ⟨g8, 1, none⟩ = some (.bool false) := blk_cell HX.out.h8 1
      have zg8_2 : wr.cell? ⟨g8, 2, none⟩ = some (.int .i64 255) := blk_cell HX.out.h8 2
      have zg8_3 : wr.cell? ⟨g8, 3, none⟩ = some (.int .i64 0) := blk_cell HX.out.h8 3
      have zg8_4 : wr.cell? ⟨g8, 4, none⟩ = some (.int .i64 0) := blk_cell HX.out.h8 4
      have zg8_5 : wr.cell? ⟨g8, 5, none⟩ = some (.slice A2 (hi off l).length c2) := blk_cell HX.out.h8 5
      have fzg8_0 : wr.frozen? ⟨g8, 0, none⟩ = false := blk_frozen HX.out.h8 0
      have fzg8_1 : wr.frozen? ⟨g8, 1, none⟩ = false := blk_frozen HX.out.h8 1
      have fzg8_2 : wr.frozen? ⟨g8, 2, none⟩ = false := blk_frozen HX.out.h8 2
      have fzg8_3 : wr.frozen? ⟨g8, 3, none⟩ = false := blk_frozen HX.out.h8 3
      have fzg8_4 : wr.frozen? ⟨g8, 4, none⟩ = false := blk_frozen HX.out.h8 4
      have fzg8_5 : wr.frozen? ⟨g8, 5, none⟩ = false := blk_frozen HX.out.h8 5
      by_cases c3 : ((lo off l).length : Int) = 0
      · have c3b0 : (((lo off l).length : Int) == 0) = true := beq_iff_eq.mpr c3
        have c3b1 : decide (((lo off l).length : Int) = 0) = true := decide_eq_true c3
        have HEE := Aside0.mk (show ((lo off l).isEmpty || (hi off l).isEmpty) = true by rw [List.eq_nil_of_length_eq_zero (by omega : (lo off l).length = 0)]; rfl)
        clear c3
        go_wp2
        clear zg7_0 zg7_1 zg7_2 zg7_3 zg7_4 zg7_5 fzg7_0 fzg7_1 fzg7_2 fzg7_3 fzg7_4 fzg7_5
        clear zg8_0 zg8_1 zg8_2 zg8_3 zg8_4 zg8_5 fzg8_0 fzg8_1 fzg8_2 fzg8_3 fzg8_4 fzg8_5
        have F4 := Aside0.mk (show (wr).drew.heap[g4]? = some (.cells #[.bool false, .bool false, .int .i64 0, .int .i64 0, .int .i64 0, .slice none 0 0] 28 (0, 0)) from HX.out.h4)
        have F5 := Aside0.mk (show (wr).drew.heap[g5]? = some (.cells #[.bool false, .bool false, .int .i64 0, .int .i64 0, .int .i64 0, .slice none 0 0] 28 (0, 0)) from HX.out.h5)
        have HBF := Aside0.mk (below_drew HX.out.b)
        refine start_ (n := 6) (S := fun w' => w'.cell? ⟨0, 0, none⟩ = some (.iface 136 (.pointer (some pe)))) (ds := []) #[false, false, false, false, false, false] (by kernel_rfl) rfl rfl (pw_cell_below HX.out.b HG.out) (fun hHeld => ?_)
        generalize (wr).drew = wf at F4 F5 HBF hHeld ⊢
        refine pure_ (i := 0) (N := some 62) (v := ?_) (a' := ?_) #[true, false, false, false, false, false] rfl rfl (by kernel_rfl) (fun _ _ _ h => h) (Or.inl ⟨by rfl, ?_⟩) ?_ ?_
        rotate_left
        · intro w'
          go_simp
          with_reducible rfl
        rotate_left
        · simp only [Act.put, List.setIfInBounds_toArray, List.set_cons_zero, List.set_cons_succ, i64_w, i32_w]
          rfl
        refine pure_ (i := 1) (N := some 63) (v := ?_) (a' := ?_) #[true, true, false, false, false, false] rfl rfl (by kernel_rfl) (fun _ _ _ h => h) (Or.inl ⟨by rfl, ?_⟩) ?_ ?_
        rotate_left
        · intro w'
          go_simp
          with_reducible rfl
        rotate_left
        · simp only [Act.put, List.setIfInBounds_toArray, List.set_cons_zero, List.set_cons_succ, i64_w, i32_w]
          rfl
        refine take_ (i := 2) (N := some 64) (v := ?_) (a' := ?_) #[true, true, true, false, false, false] rfl rfl (by kernel_rfl) (fun _ _ _ h => h) (Or.inl ⟨by rfl, ?_⟩) hHeld ?_ ?_
        rotate_left
        · rintro w' s0
          go_simp
          with_reducible rfl
        rotate_left
        · simp only [Act.put, List.setIfInBounds_toArray, List.set_cons_zero, List.set_cons_succ, i64_w, i32_w]
          rfl
        have HH := Aside0.mk hHeld
        clear hHeld
        refine one_ (i := 3) (N := none) #[true, true, true, true, false, false] rfl rfl (by kernel_rfl) (by decide) (fun K hK => ?_)
        have yg4_0 : wf.cell? ⟨g4, 0, none⟩ = some (.bool false) := blk_cell F4.out 0
        have yg4_1 : wf.cell? ⟨g4, 1, none⟩ = some (.bool false) := blk_cell F4.out 1
        have yg4_2 : wf.cell? ⟨g4, 2, none⟩ = some (.int .i64 0) := blk_cell F4.out 2
        have yg4_3 : wf.cell? ⟨g4, 3, none⟩ = some (.int .i64 0) := blk_cell F4.out 3
        have yg4_4 : wf.cell? ⟨g4, 4, none⟩ = some (.int .i64 0) := blk_cell F4.out 4
        have yg4_5 : wf.cell? ⟨g4, 5, none⟩ = some (.slice none 0 0) := blk_cell F4.out 5
        have fyg4_0 : wf.frozen? ⟨g4, 0, none⟩ = false := blk_frozen F4.out 0
        have fyg4_1 : wf.frozen? ⟨g4, 1, none⟩ = false := blk_frozen F4.out 1
        have fyg4_2 : wf.frozen? ⟨g4, 2, none⟩ = false := blk_frozen F4.out 2
        have fyg4_3 : wf.frozen? ⟨g4, 3, none⟩ = false := blk_frozen F4.out 3
        have fyg4_4 : wf.frozen? ⟨g4, 4, none⟩ = false := blk_frozen F4.out 4
        have fyg4_5 : wf.frozen? ⟨g4, 5, none⟩ = false := blk_frozen F4.out 5
        refine skip_ (w1 := ?_) (by rfl) rfl ?_ ?_
        rotate_left
        · go_simp
          rfl
        clear yg4_0 yg4_1 yg4_2 yg4_3 yg4_4 yg4_5 fyg4_0 fyg4_1 fyg4_2 fyg4_3 fyg4_4 fyg4_5
        have L0 := Aside0.mk (show 0 < w.heap.size from World.block_lt_of_cell? w _ HG.out)
        have HH2 := Aside0.mk (show (set6 wf g4 (.bool false) (.bool false) (.int .i64 0) (.int .i64 0) (.int .i64 0) (.slice none 0 0)).cell? ⟨0, 0, none⟩ = some (.iface 136 (.pointer (some pe))) from (set6_cell wf g4 _ _ _ _ _ _ (by have h1 := L0.out; have h2 := HLE.out.1; show (0 : Nat) ≠ g4; omega)).trans HH.out)
        refine hK.out _ _ HH2.out (fun hHeld => ?_)
        clear hK K hHeld
        have F54 := Aside0.mk ((set6_heap wf g4 (.bool false) (.bool false) (.int .i64 0) (.int .i64 0) (.int .i64 0) (.slice none 0 0) (Ne.symm HN.out.1)).trans F5.out)
        have F44 := Aside0.mk (set6_blk F4.out (.bool false) (.bool false) (.int .i64 0) (.int .i64 0) (.int .i64 0) (.slice none 0 0))
        have HBF4 := Aside0.mk (set6_below HBF.out HLE.out.1 (.bool false) (.bool false) (.int .i64 0) (.int .i64 0) (.int .i64 0) (.slice none 0 0))
        unfold set6 at F54 HBF4 HH2
        generalize (((((wf.setCell ⟨g4, 0, none⟩ (.bool false)).setCell ⟨g4, 1, none⟩ (.bool false)).setCell ⟨g4, 2, none⟩ (.int .i64 0)).setCell ⟨g4, 3, none⟩ (.int .i64 0)).setCell ⟨g4, 4, none⟩ (.int .i64 0)).setCell ⟨g4, 5, none⟩ (.slice none 0 0) = wg at F44 F54 HBF4 HH2 ⊢
        refine one_ (i := 4) (N := none) #[true, true, true, true, true, false] rfl rfl (by kernel_rfl) (by decide) (fun K hK => ?_)
        have yg5_0 : wg.cell? ⟨g5, 0, none⟩ = some (.bool false) := blk_cell F54.out 0
        have yg5_1 : wg.cell? ⟨g5, 1, none⟩ = some (.bool false) := blk_cell F54.out 1
        have yg5_2 : wg.cell? ⟨g5, 2, none⟩ = some (.int .i64 0) := blk_cell F54.out 2
        have yg5_3 : wg.cell? ⟨g5, 3, none⟩ = some (.int .i64 0) := blk_cell F54.out 3
        have yg5_4 : wg.cell? ⟨g5, 4, none⟩ = some (.int .i64 0) := blk_cell F54.out 4
        have yg5_5 : wg.cell? ⟨g5, 5, none⟩ = some (.slice none 0 0) := blk_cell F54.out 5
        have fyg5_0 : wg.frozen? ⟨g5, 0, none⟩ = false := blk_frozen F54.out 0
        have fyg5_1 : wg.frozen? ⟨g5, 1, none⟩ = false := blk_frozen F54.out 1
        have fyg5_2 : wg.frozen? ⟨g5, 2, none⟩ = false := blk_frozen F54.out 2
        have fyg5_3 : wg.frozen? ⟨g5, 3, none⟩ = false := blk_frozen F54.out 3
        have fyg5_4 : wg.frozen? ⟨g5, 4, none⟩ = false := blk_frozen F54.out 4
        have fyg5_5 : wg.frozen? ⟨g5, 5, none⟩ = false := blk_frozen F54.out 5
        refine skip_ (w1 := ?_) (by rfl) rfl ?_ ?_
        rotate_left
        · go_simp
          rfl
        clear yg5_0 yg5_1 yg5_2 yg5_3 yg5_4 yg5_5 fyg5_0 fyg5_1 fyg5_2 fyg5_3 fyg5_4 fyg5_5
        have HH3 := Aside0.mk (show (set6 wg g5 (.bool false) (.bool false) (.int .i64 0) (.int .i64 0) (.int .i64 0) (.slice none 0 0)).cell? ⟨0, 0, none⟩ = some (.iface 136 (.pointer (some pe))) from (set6_cell wg g5 _ _ _ _ _ _ (by have h1 := L0.out; have h2 := HLE.out.2.1; show (0 : Nat) ≠ g5; omega)).trans HH2.out)
        refine hK.out _ _ HH3.out (fun hHeld => ?_)
        clear hK K hHeld
        refine pure_ (i := 5) (N := some 6) (v := ?_) (a' := ?_) #[true, true, true, true, true, true] rfl rfl (by kernel_rfl) (fun _ _ _ h => h) (Or.inl ⟨by rfl, ?_⟩) ?_ ?_
        rotate_left
        · intro w'
          go_simp
          with_reducible rfl
        rotate_left
        · simp only [Act.put, List.setIfInBounds_toArray, List.set_cons_zero, List.set_cons_succ, i64_w, i32_w]
          rfl
        refine done_ (by kernel_rfl) ?_
        try go_wp2
        refine bodyPost_ret (results_list (rs := [.cell 4 28, .cell 5 28, .tmp 6]) rfl (by simp) (.cell g4 28 #[.bool false, .bool false, .int .i64 0, .int .i64 0, .int .i64 0, .slice none 0 0] (0, 0) _ rfl ((set6_heap wg g5 _ _ _ _ _ _ HN.out.1).trans F44.out) Tryd.underlying28 rfl (by kernel_rfl) (.cell g5 28 #[.bool false, .bool false, .int .i64 0, .int .i64 0, .int .i64 0, .slice none 0 0] (0, 0) _ rfl (set6_blk F54.out _ _ _ _ _ _) Tryd.underlying28 rfl (by kernel_rfl) (.tmp .nil)))) rfl ?_
        exact ⟨set6_below HBF4.out HLE.out.2.1 _ _ _ _ _ _, .inl ⟨HEE.out, rfl⟩⟩
      · have c3b0 : (((lo off l).length : Int) == 0) = false := by simpa using c3
        have c3b1 : decide (((lo off l).length : Int) = 0) = false := decide_eq_false c3
        by_cases c4 : ((hi off l).length : Int) = 0
        · have c4b0 : (((hi off l).length : Int) == 0) = true := beq_iff_eq.mpr c4
          have c4b1 : decide (((hi off l).length : Int) = 0) = true := decide_eq_true c4
          have HEE := Aside0.mk (show ((lo off l).isEmpty || (hi off l).isEmpty) = true by rw [List.eq_nil_of_length_eq_zero (by omega : (hi off l).length = 0)]; simp)
          clear c3 c4
          go_wp2
          clear zg7_0 zg7_1 zg7_2 zg7_3 zg7_4 zg7_5 fzg7_0 fzg7_1 fzg7_2 fzg7_3 fzg7_4 fzg7_5
          clear zg8_0 zg8_1 zg8_2 zg8_3 zg8_4 zg8_5 fzg8_0 fzg8_1 fzg8_2 fzg8_3 fzg8_4 fzg8_5
          have F4 := Aside0.mk (show (wr).drew.heap[g4]? = some (.cells #[.bool false, .bool false, .int .i64 0, .int .i64 0, .int .i64 0, .slice none 0 0] 28 (0, 0)) from HX.out.h4)
          have F5 := Aside0.mk (show (wr).drew.heap[g5]? = some (.cells #[.bool false, .bool false, .int .i64 0, .int .i64 0, .int .i64 0, .slice none 0 0] 28 (0, 0)) from HX.out.h5)
          have HBF := Aside0.mk (below_drew HX.out.b)
          refine start_ (n := 6) (S := fun w' => w'.cell? ⟨0, 0, none⟩ = some (.iface 136 (.pointer (some pe)))) (ds := []) #[false, false, false, false, false, false] (by kernel_rfl) rfl rfl (pw_cell_below HX.out.b HG.out) (fun hHeld => ?_)
          generalize (wr).drew = wf at F4 F5 HBF hHeld ⊢
          refine pure_ (i := 0) (N := some 62) (v := ?_) (a' := ?_) #[true, false, false, false, false, false] rfl rfl (by kernel_rfl) (fun _ _ _ h => h) (Or.inl ⟨by rfl, ?_⟩) ?_ ?_
          rotate_left
          · intro w'
            go_simp
            with_reducible rfl
          rotate_left
          · simp only [Act.put, List.setIfInBounds_toArray, List.set_cons_zero, List.set_cons_succ, i64_w, i32_w]
            rfl
          refine pure_ (i := 1) (N := some 63) (v := ?_) (a' := ?_) #[true, true, false, false, false, false] rfl rfl (by kernel_rfl) (fun _ _ _ h => h) (Or.inl ⟨by rfl, ?_⟩) ?_ ?_
          rotate_left
          · intro w'
            go_simp
            with_reducible rfl
          rotate_left
          · simp only [Act.put, List.setIfInBounds_toArray, List.set_cons_zero, List.set_cons_succ, i64_w, i32_w]
            rfl
          refine take_ (i := 2) (N := some 64) (v := ?_) (a' := ?_) #[true, true, true, false, false, false] rfl rfl (by kernel_rfl) (fun _ _ _ h => h) (Or.inl ⟨by rfl, ?_⟩) hHeld ?_ ?_
          rotate_left
          · rintro w' s0
            go_simp
            with_reducible rfl
          rotate_left
          · simp only [Act.put, List.setIfInBounds_toArray, List.set_cons_zero, List.set_cons_succ, i64_w, i32_w]
            rfl
          have HH := Aside0.mk hHeld
          clear hHeld
          refine one_ (i := 3) (N := none) #[true, true, true, true, false, false] rfl rfl (by kernel_rfl) (by decide) (fun K hK => ?_)
          have yg4_0 : wf.cell? ⟨g4, 0, none⟩ = some (.bool false) := blk_cell F4.out 0
          have yg4_1 : wf.cell? ⟨g4, 1, none⟩ = some (.bool false) := blk_cell F4.out 1
          have yg4_2 : wf.cell? ⟨g4, 2, none⟩ = some (.int .i64 0) := blk_cell F4.out 2
          have yg4_3 : wf.cell? ⟨g4, 3, none⟩ = some (.int .i64 0) := blk_cell F4.out 3
          have yg4_4 : wf.cell? ⟨g4, 4, none⟩ = some (.int .i64 0) := blk_cell F4.out 4
          have yg4_5 : wf.cell? ⟨g4, 5, none⟩ = some (.slice none 0 0) := blk_cell F4.out 5
          have fyg4_0 : wf.frozen? ⟨g4, 0, none⟩ = false := blk_frozen F4.out 0
          have fyg4_1 : wf.frozen? ⟨g4, 1, none⟩ = false := blk_frozen F4.out 1
          have fyg4_2 : wf.frozen? ⟨g4, 2, none⟩ = false := blk_frozen F4.out 2
          have fyg4_3 : wf.frozen? ⟨g4, 3, none⟩ = false := blk_frozen F4.out 3
          have fyg4_4 : wf.frozen? ⟨g4, 4, none⟩ = false := blk_frozen F4.out 4
          have fyg4_5 : wf.frozen? ⟨g4, 5, none⟩ = false := blk_frozen F4.out 5
          refine skip_ (w1 := ?_) (by rfl) rfl ?_ ?_
          rotate_left
          · go_simp
            rfl
          clear yg4_0 yg4_1 yg4_2 yg4_3 yg4_4 yg4_5 fyg4_0 fyg4_1 fyg4_2 fyg4_3 fyg4_4 fyg4_5
          have L0 := Aside0.mk (show 0 < w.heap.size from World.block_lt_of_cell? w _ HG.out)
          have HH2 := Aside0.mk (show (set6 wf g4 (.bool false) (.bool false) (.int .i64 0) (.int .i64 0) (.int .i64 0) (.slice none 0 0)).cell? ⟨0, 0, none⟩ = some (.iface 136 (.pointer (some pe))) from (set6_cell wf g4 _ _ _ _ _ _ (by have h1 := L0.out; have h2 := HLE.out.1; show (0 : Nat) ≠ g4; omega)).trans HH.out)
          refine hK.out _ _ HH2.out (fun hHeld => ?_)
          clear hK K hHeld
          have F54 := Aside0.mk ((set6_heap wf g4 (.bool false) (.bool false) (.int .i64 0) (.int .i64 0) (.int .i64 0) (.slice none 0 0) (Ne.symm HN.out.1)).trans F5.out)
          have F44 := Aside0.mk (set6_blk F4.out (.bool false) (.bool false) (.int .i64 0) (.int .i64 0) (.int .i64 0) (.slice none 0 0))
          have HBF4 := Aside0.mk (set6_below HBF.out HLE.out.1 (.bool false) (.bool false) (.int .i64 0) (.int .i64 0) (.int .i64 0) (.slice none 0 0))
          unfold set6 at F54 HBF4 HH2
          generalize (((((wf.setCell ⟨g4, 0, none⟩ (.bool false)).setCell ⟨g4, 1, none⟩ (.bool false)).setCell ⟨g4, 2, none⟩ (.int .i64 0)).setCell ⟨g4, 3, none⟩ (.int .i64 0)).setCell ⟨g4, 4, none⟩ (.int .i64 0)).setCell ⟨g4, 5, none⟩ (.slice none 0 0) = wg at F44 F54 HBF4 HH2 ⊢
          refine one_ (i := 4) (N := none) #[true, true, true, true, true, false] rfl rfl (by kernel_rfl) (by decide) (fun K hK => ?_)
          have yg5_0 : wg.cell? ⟨g5, 0, none⟩ = some (.bool false) := blk_cell F54.out 0
          have yg5_1 : wg.cell? ⟨g5, 1, none⟩ = some (.bool false) := blk_cell F54.out 1
          have yg5_2 : wg.cell? ⟨g5, 2, none⟩ = some (.int .i64 0) := blk_cell F54.out 2
          have yg5_3 : wg.cell? ⟨g5, 3, none⟩ = some (.int .i64 0) := blk_cell F54.out 3
          have yg5_4 : wg.cell? ⟨g5, 4, none⟩ = some (.int .i64 0) := blk_cell F54.out 4
          have yg5_5 : wg.cell? ⟨g5, 5, none⟩ = some (.slice none 0 0) := blk_cell F54.out 5
          have fyg5_0 : wg.frozen? ⟨g5, 0, none⟩ = false := blk_frozen F54.out 0
          have fyg5_1 : wg.frozen? ⟨g5, 1, none⟩ = false := blk_frozen F54.out 1
          have fyg5_2 : wg.frozen? ⟨g5, 2, none⟩ = false := blk_frozen F54.out 2
          have fyg5_3 : wg.frozen? ⟨g5, 3, none⟩ = false := blk_frozen F54.out 3
          have fyg5_4 : wg.frozen? ⟨g5, 4, none⟩ = false := blk_frozen F54.out 4
          have fyg5_5 : wg.frozen? ⟨g5, 5, none⟩ = false := blk_frozen F54.out 5
          refine skip_ (w1 := ?_) (by rfl) rfl ?_ ?_
          rotate_left
          · go_simp
            rfl
          clear yg5_0 yg5_1 yg5_2 yg5_3 yg5_4 yg5_5 fyg5_0 fyg5_1 fyg5_2 fyg5_3 fyg5_4 fyg5_5
          have HH3 := Aside0.mk (show (set6 wg g5 (.bool false) (.bool false) (.int .i64 0) (.int .i64 0) (.int .i64 0) (.slice none 0 0)).cell? ⟨0, 0, none⟩ = some (.iface 136 (.pointer (some pe))) from (set6_cell wg g5 _ _ _ _ _ _ (by have h1 := L0.out; have h2 := HLE.out.2.1; show (0 : Nat) ≠ g5; omega)).trans HH2.out)
          refine hK.out _ _ HH3.out (fun hHeld => ?_)
          clear hK K hHeld
          refine pure_ (i := 5) (N := some 6) (v := ?_) (a' := ?_) #[true, true, true, true, true, true] rfl rfl (by kernel_rfl) (fun _ _ _ h => h) (Or.inl ⟨by rfl, ?_⟩) ?_ ?_
          rotate_left
          · intro w'
            go_simp
            with_reducible rfl
          rotate_left
          · simp only [Act.put, List.setIfInBounds_toArray, List.set_cons_zero, List.set_cons_succ, i64_w, i32_w]
            rfl
          refine done_ (by kernel_rfl) ?_
          try go_wp2
          refine bodyPost_ret (results_list (rs := [.cell 4 28, .cell 5 28, .tmp 6]) rfl (by simp) (.cell g4 28 #[.bool false, .bool false, .int .i64 0, .int .i64 0, .int .i64 0, .slice none 0 0] (0, 0) _ rfl ((set6_heap wg g5 _ _ _ _ _ _ HN.out.1).trans F44.out) Tryd.underlying28 rfl (by kernel_rfl) (.cell g5 28 #[.bool false, .bool false, .int .i64 0, .int .i64 0, .int .i64 0, .slice none 0 0] (0, 0) _ rfl (set6_blk F54.out _ _ _ _ _ _) Tryd.underlying28 rfl (by kernel_rfl) (.tmp .nil)))) rfl ?_
          exact ⟨set6_below HBF4.out HLE.out.2.1 _ _ _ _ _ _, .inl ⟨HEE.out, rfl⟩⟩
        · have c4b0 : (((hi off l).length : Int) == 0) = false := by simpa using c4
          have c4b1 : decide (((hi off l).length : Int) = 0) = false := decide_eq_false c4
          have HEE := Aside0.mk (show ((lo off l).isEmpty || (hi off l).isEmpty) = false by have h1 : (lo off l).isEmpty = false := (by rw [List.isEmpty_eq_false_iff]; intro h; rw [h] at c3; simp at c3); have h2 : (hi off l).isEmpty = false := (by rw [List.isEmpty_eq_false_iff]; intro h; rw [h] at c4; simp at c4); rw [h1, h2]; rfl)
          clear c3 c4
          go_wp2
          clear zg7_0 zg7_1 zg7_2 zg7_3 zg7_4 zg7_5 fzg7_0 fzg7_1 fzg7_2 fzg7_3 fzg7_4 fzg7_5
          clear zg8_0 zg8_1 zg8_2 zg8_3 zg8_4 zg8_5 fzg8_0 fzg8_1 fzg8_2 fzg8_3 fzg8_4 fzg8_5
          refine start_ (n := 5) (S := fun w' => w'.cell? ⟨g7, 0, none⟩ = some (.bool b0) ∧ w'.cell? ⟨g7, 1, none⟩ = some (.bool false) ∧ w'.cell? ⟨g7, 2, none⟩ = some (.int .i64 255) ∧ w'.cell? ⟨g7, 3, none⟩ = some (.int .i64 0) ∧ w'.cell? ⟨g7, 4, none⟩ = some (.int .i64 0) ∧ w'.cell? ⟨g7, 5, none⟩ = some (.slice A1 (lo off l).length c1) ∧ w'.cell? ⟨g8, 0, none⟩ = some (.bool b0) ∧ w'.cell? ⟨g8, 1, none⟩ = some (.bool false) ∧ w'.cell? ⟨g8, 2, none⟩ = some (.int .i64 255) ∧ w'.cell? ⟨g8, 3, none⟩ = some (.int .i64 0) ∧ w'.cell? ⟨g8, 4, none⟩ = some (.int .i64 0) ∧ w'.cell? ⟨g8, 5, none⟩ = some (.slice A2 (hi off l).length c2)) (ds := []) #[false, false, false, false, false] (by kernel_rfl) rfl rfl ⟨(blk_cell HX.out.h7 0), (blk_cell HX.out.h7 1), (blk_cell HX.out.h7 2), (blk_cell HX.out.h7 3), (blk_cell HX.out.h7 4), (blk_cell HX.out.h7 5), (blk_cell HX.out.h8 0), (blk_cell HX.out.h8 1), (blk_cell HX.out.h8 2), (blk_cell HX.out.h8 3), (blk_cell HX.out.h8 4), (blk_cell HX.out.h8 5)⟩ (fun hHeld => ?_)
          have HX1 := Aside0.mk HX.out.drew
          have HT1 := Aside0.mk HT.out.drew
          generalize wr.drew = wf at HX1 HT1 hHeld ⊢
          refine take_ (i := 0) (N := some 65) (v := ?_) (a' := ?_) #[true, false, false, false, false] rfl rfl (by kernel_rfl) (fun _ _ _ h => h) (Or.inl ⟨by rfl, ?_⟩) hHeld ?_ ?_
          rotate_left
          · rintro w' ⟨s0, s1, s2, s3, s4, s5, s6, s7, s8, s9, s10, s11⟩
            go_simp
            with_reducible rfl
          rotate_left
          · simp only [Act.put, List.setIfInBounds_toArray, List.set_cons_zero, List.set_cons_succ, i64_w, i32_w]
            rfl
          refine take_ (i := 1) (N := some 66) (v := ?_) (a' := ?_) #[true, true, false, false, false] rfl rfl (by kernel_rfl) (fun _ _ _ h => h) (Or.inl ⟨by rfl, ?_⟩) hHeld ?_ ?_
          rotate_left
          · rintro w' ⟨s0, s1, s2, s3, s4, s5, s6, s7, s8, s9, s10, s11⟩
            go_simp
            with_reducible rfl
          rotate_left
          · simp only [Act.put, List.setIfInBounds_toArray, List.set_cons_zero, List.set_cons_succ, i64_w, i32_w]
            rfl
          clear hHeld
          refine one_ (i := 2) (N := none) #[true, true, true, false, false] rfl rfl (by kernel_rfl) (by decide) (fun K hK => ?_)
          have yg4_0 : wf.cell? ⟨g4, 0, none⟩ = some (.bool false) := blk_cell HX1.out.h4 0
          have yg4_1 : wf.cell? ⟨g4, 1, none⟩ = some (.bool false) := blk_cell HX1.out.h4 1
          have yg4_2 : wf.cell? ⟨g4, 2, none⟩ = some (.int .i64 0) := blk_cell HX1.out.h4 2
          have yg4_3 : wf.cell? ⟨g4, 3, none⟩ = some (.int .i64 0) := blk_cell HX1.out.h4 3
          have yg4_4 : wf.cell? ⟨g4, 4, none⟩ = some (.int .i64 0) := blk_cell HX1.out.h4 4
          have yg4_5 : wf.cell? ⟨g4, 5, none⟩ = some (.slice none 0 0) := blk_cell HX1.out.h4 5
          have fyg4_0 : wf.frozen? ⟨g4, 0, none⟩ = false := blk_frozen HX1.out.h4 0
          have fyg4_1 : wf.frozen? ⟨g4, 1, none⟩ = false := blk_frozen HX1.out.h4 1
          have fyg4_2 : wf.frozen? ⟨g4, 2, none⟩ = false := blk_frozen HX1.out.h4 2
          have fyg4_3 : wf.frozen? ⟨g4, 3, none⟩ = false := blk_frozen HX1.out.h4 3
          have fyg4_4 : wf.frozen? ⟨g4, 4, none⟩ = false := blk_frozen HX1.out.h4 4
          have fyg4_5 : wf.frozen? ⟨g4, 5, none⟩ = false := blk_frozen HX1.out.h4 5
          refine skip_ (w1 := ?_) (by rfl) rfl ?_ ?_
          rotate_left
          · go_simp
            rfl
          clear yg4_0 yg4_1 yg4_2 yg4_3 yg4_4 yg4_5 fyg4_0 fyg4_1 fyg4_2 fyg4_3 fyg4_4 fyg4_5
          refine hK.out _ _ ⟨(set6_cell _ g4 _ _ _ _ _ _ (p := ⟨g7, 0, none⟩) (Ne.symm HN.out.2.1)).trans (blk_cell HX1.out.h7 0), (set6_cell _ g4 _ _ _ _ _ _ (p := ⟨g7, 1, none⟩) (Ne.symm HN.out.2.1)).trans (blk_cell HX1.out.h7 1), (set6_cell _ g4 _ _ _ _ _ _ (p := ⟨g7, 2, none⟩) (Ne.symm HN.out.2.1)).trans (blk_cell HX1.out.h7 2), (set6_cell _ g4 _ _ _ _ _ _ (p := ⟨g7, 3, none⟩) (Ne.symm HN.out.2.1)).trans (blk_cell HX1.out.h7 3), (set6_cell _ g4 _ _ _ _ _ _ (p := ⟨g7, 4, none⟩) (Ne.symm HN.out.2.1)).trans (blk_cell HX1.out.h7 4), (set6_cell _ g4 _ _ _ _ _ _ (p := ⟨g7, 5, none⟩) (Ne.symm HN.out.2.1)).trans (blk_cell HX1.out.h7 5), (set6_cell _ g4 _ _ _ _ _ _ (p := ⟨g8, 0, none⟩) (Ne.symm HN.out.2.2.1)).trans (blk_cell HX1.out.h8 0), (set6_cell _ g4 _ _ _ _ _ _ (p := ⟨g8, 1, none⟩) (Ne.symm HN.out.2.2.1)).trans (blk_cell HX1.out.h8 1), (set6_cell _ g4 _ _ _ _ _ _ (p := ⟨g8, 2, none⟩) (Ne.symm HN.out.2.2.1)).trans (blk_cell HX1.out.h8 2), (set6_cell _ g4 _ _ _ _ _ _ (p := ⟨g8, 3, none⟩) (Ne.symm HN.out.2.2.1)).trans (blk_cell HX1.out.h8 3), (set6_cell _ g4 _ _ _ _ _ _ (p := ⟨g8, 4, none⟩) (Ne.symm HN.out.2.2.1)).trans (blk_cell HX1.out.h8 4), (set6_cell _ g4 _ _ _ _ _ _ (p := ⟨g8, 5, none⟩) (Ne.symm HN.out.2.2.1)).trans (blk_cell HX1.out.h8 5)⟩ (fun hHeld => ?_)
          clear hK K hHeld
          have F44 := Aside0.mk (set6_blk HX1.out.h4 (.bool b0) (.bool false) (.int .i64 255) (.int .i64 0) (.int .i64 0) (.slice A1 (lo off l).length c1))
          have F45 := Aside0.mk ((set6_heap wf g4 (.bool b0) (.bool false) (.int .i64 255) (.int .i64 0) (.int .i64 0) (.slice A1 (lo off l).length c1) (Ne.symm HN.out.1)).trans HX1.out.h5)
          have F47 := Aside0.mk ((set6_heap wf g4 (.bool b0) (.bool false) (.int .i64 255) (.int .i64 0) (.int .i64 0) (.slice A1 (lo off l).length c1) (Ne.symm HN.out.2.1)).trans HX1.out.h7)
          have F48 := Aside0.mk ((set6_heap wf g4 (.bool b0) (.bool false) (.int .i64 255) (.int .i64 0) (.int .i64 0) (.slice A1 (lo off l).length c1) (Ne.symm HN.out.2.2.1)).trans HX1.out.h8)
          have F4B := Aside0.mk (set6_below HX1.out.b HLE.out.1 (.bool b0) (.bool false) (.int .i64 255) (.int .i64 0) (.int .i64 0) (.slice A1 (lo off l).length c1))
          have F4T := Aside0.mk (Two.six28 HT1.out HX1.out.h4 (.bool b0) (.bool false) (.int .i64 255) (.int .i64 0) (.int .i64 0) (.slice A1 (lo off l).length c1))
          unfold set6 at F45 F47 F48 F4B F4T
          clear HX1 HT1
          generalize ((((((wf.setCell ⟨g4, 0, none⟩ (.bool b0)).setCell ⟨g4, 1, none⟩ (.bool false)).setCell ⟨g4, 2, none⟩ (.int .i64 255)).setCell ⟨g4, 3, none⟩ (.int .i64 0)).setCell ⟨g4, 4, none⟩ (.int .i64 0)).setCell ⟨g4, 5, none⟩ (.slice A1 (lo off l).length c1)) = wg at F44 F45 F47 F48 F4B F4T ⊢
          refine one_ (i := 3) (N := none) #[true, true, true, true, false] rfl rfl (by kernel_rfl) (by decide) (fun K hK => ?_)
          have yg5_0 : wg.cell? ⟨g5, 0, none⟩ = some (.bool false) := blk_cell F45.out 0
          have yg5_1 : wg.cell? ⟨g5, 1, none⟩ = some (.bool false) := blk_cell F45.out 1
          have yg5_2 : wg.cell? ⟨g5, 2, none⟩ = some (.int .i64 0) := blk_cell F45.out 2
          have yg5_3 : wg.cell? ⟨g5, 3, none⟩ = some (.int .i64 0) := blk_cell F45.out 3
          have yg5_4 : wg.cell? ⟨g5, 4, none⟩ = some (.int .i64 0) := blk_cell F45.out 4
          have yg5_5 : wg.cell? ⟨g5, 5, none⟩ = some (.slice none 0 0) := blk_cell F45.out 5
          have fyg5_0 : wg.frozen? ⟨g5, 0, none⟩ = false := blk_frozen F45.out 0
          have fyg5_1 : wg.frozen? ⟨g5, 1, none⟩ = false := blk_frozen F45.out 1
          have fyg5_2 : wg.frozen? ⟨g5, 2, none⟩ = false := blk_frozen F45.out 2
          have fyg5_3 : wg.frozen? ⟨g5, 3, none⟩ = false := blk_frozen F45.out 3
          have fyg5_4 : wg.frozen? ⟨g5, 4, none⟩ = false := blk_frozen F45.out 4
          have fyg5_5 : wg.frozen? ⟨g5, 5, none⟩ = false := blk_frozen F45.out 5
          refine skip_ (w1 := ?_) (by rfl) rfl ?_ ?_
          rotate_left
          · go_simp
            rfl
          clear yg5_0 yg5_1 yg5_2 yg5_3 yg5_4 yg5_5 fyg5_0 fyg5_1 fyg5_2 fyg5_3 fyg5_4 fyg5_5
          refine hK.out _ _ ⟨(set6_cell _ g5 _ _ _ _ _ _ (p := ⟨g7, 0, none⟩) (Ne.symm HN.out.2.2.2.1)).trans (blk_cell F47.out 0), (set6_cell _ g5 _ _ _ _ _ _ (p := ⟨g7, 1, none⟩) (Ne.symm HN.out.2.2.2.1)).trans (blk_cell F47.out 1), (set6_cell _ g5 _ _ _ _ _ _ (p := ⟨g7, 2, none⟩) (Ne.symm HN.out.2.2.2.1)).trans (blk_cell F47.out 2), (set6_cell _ g5 _ _ _ _ _ _ (p := ⟨g7, 3, none⟩) (Ne.symm HN.out.2.2.2.1)).trans (blk_cell F47.out 3), (set6_cell _ g5 _ _ _ _ _ _ (p := ⟨g7, 4, none⟩) (Ne.symm HN.out.2.2.2.1)).trans (blk_cell F47.out 4), (set6_cell _ g5 _ _ _ _ _ _ (p := ⟨g7, 5, none⟩) (Ne.symm HN.out.2.2.2.1)).trans (blk_cell F47.out 5), (set6_cell _ g5 _ _ _ _ _ _ (p := ⟨g8, 0, none⟩) (Ne.symm HN.out.2.2.2.2.1)).trans (blk_cell F48.out 0), (set6_cell _ g5 _ _ _ _ _ _ (p := ⟨g8, 1, none⟩) (Ne.symm HN.out.2.2.2.2.1)).trans (blk_cell F48.out 1), (set6_cell _ g5 _ _ _ _ _ _ (p := ⟨g8, 2, none⟩) (Ne.symm HN.out.2.2.2.2.1)).trans (blk_cell F48.out 2), (set6_cell _ g5 _ _ _ _ _ _ (p := ⟨g8, 3, none⟩) (Ne.symm HN.out.2.2.2.2.1)).trans (blk_cell F48.out 3), (set6_cell _ g5 _ _ _ _ _ _ (p := ⟨g8, 4, none⟩) (Ne.symm HN.out.2.2.2.2.1)).trans (blk_cell F48.out 4), (set6_cell _ g5 _ _ _ _ _ _ (p := ⟨g8, 5, none⟩) (Ne.symm HN.out.2.2.2.2.1)).trans (blk_cell F48.out 5)⟩ (fun hHeld => ?_)
          clear hK K hHeld
          refine pure_ (i := 4) (N := some 6) (v := ?_) (a' := ?_) #[true, true, true, true, true] rfl rfl (by kernel_rfl) (fun _ _ _ h => h) (Or.inl ⟨by rfl, ?_⟩) ?_ ?_
          rotate_left
          · intro w'
            go_simp
            with_reducible rfl
          rotate_left
          · simp only [Act.put, List.setIfInBounds_toArray, List.set_cons_zero, List.set_cons_succ, i64_w, i32_w]
            rfl
          refine done_ (by kernel_rfl) ?_
          try go_wp2
          refine bodyPost_ret (results_list (rs := [.cell 4 28, .cell 5 28, .tmp 6]) rfl (by simp) (.cell g4 28 #[.bool b0, .bool false, .int .i64 255, .int .i64 0, .int .i64 0, .slice A1 (lo off l).length c1] (0, 0) _ rfl ((set6_heap wg g5 _ _ _ _ _ _ HN.out.1).trans F44.out) Tryd.underlying28 rfl (by kernel_rfl) (.cell g5 28 #[.bool b0, .bool false, .int .i64 255, .int .i64 0, .int .i64 0, .slice A2 (hi off l).length c2] (0, 0) _ rfl (set6_blk F45.out _ _ _ _ _ _) Tryd.underlying28 rfl (by kernel_rfl) (.tmp .nil)))) rfl ?_
          exact ⟨set6_below F4B.out HLE.out.2.1 _ _ _ _ _ _, .inr ⟨HEE.out, P, _, _, rfl, Two.six28 F4T.out F45.out _ _ _ _ _ _⟩⟩

end Go.Proofs.YtlhbclblehmdbaaDoor.PFnExactBatchCut
