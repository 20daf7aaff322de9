/- What the walk of FnExactBatchCut cites: markBatch's contract, BatchCut's in one, and what the printed functions answer. -/
import Derived.Test.YtlhbclblehmdbaaDoorC18
import Derived.Test.YtlhbclblehmdbaaDoorC11
set_option linter.unusedVariables false
set_option linter.unusedSimpArgs false
namespace Go.Proofs.YtlhbclblehmdbaaDoor.PFnExactBatchCut
open Go.RowKit Go.Proofs.YtlhbclblehmdbaaDoorW.PrintWords Go.Proofs.YtlhbclblehmdbaaDoorW.PrintLast Go.Proofs.YtlhbclblehmdbaaDoorW.PrintMore

section
variable {α : Type} {d : Kd α} {e B : Nat} {w w1 W : World} {ok P : Nat → Prop} {v : Value} {xs : List α}
/-- A block of a row that a call has made: between the heap's sizes before and behind it, and of records' or numbers' cells. -/
def Mine (W w : World) (k : Nat) : Prop := (W.heap.size ≤ k ∧ k < w.heap.size) ∧ ∀ cs, w.heap[k]? ≠ some (.cells cs 28 (0, 0))
theorem S_mine {xs : List S41} (h : Kd.S kd41 41 w W.heap.size ok v xs) (hb : B ≤ W.heap.size) : Kd.S kd41 41 w B (fun k => ok k ∧ Mine W w k) v xs :=
  Kd.S_lower (Kd.S_mono (Kd.S_bound h) (fun k hk => ⟨hk.1, ⟨hk.2.1, hk.2.2.1⟩, fun cs hc => by
    obtain ⟨q, hq, cells, hh⟩ := hk.2.2.2
    rw [hh] at hc
    have : q = 28 := by injection hc with hc; injection hc
    subst this
    exact absurd hq (by decide)⟩)) hb
theorem S_kept (h : Kd.S d e w B ok v xs) (hk : Kept w w1 P) (hd : ∀ k, ok k → ¬ P k) : Kd.S d e w1 B ok v xs := Kd.S_step h (fun k ho hlt => hk.2 k hlt (hd k ho))
theorem blk_keep {g : Nat} {o : Obj} (h : w.heap[g]? = some o) (hk : Kept w w1 P) (hP : ¬ P g) : w1.heap[g]? = some o := (hk.2 g (blk_lt h) hP).trans h
end

set_option maxHeartbeats 4000000 in
set_option maxRecDepth 100000 in
theorem laws_markBatch.calls (P0 : Nat → Prop) (p m : Bool) (pr ep sq : Int) (A : Option Addr) (c : Nat) (l : List S41) (k : Int) (w0 w : World) (hB : Below w0.heap.size w0 w) (hS : Kd.S kd41 41 w w0.heap.size P0 (.slice A l.length c) l) (hk : 0 ≤ k) (hbk : k + bulkR l ≤ 4611686018427387904) (hl : l.length ≤ 4611686018427387904) :
    Calls Tryd.prog 11 #[.agg #[.bool p, .bool m, .int .i64 pr, .int .i64 ep, .int .i64 sq, .slice A l.length c], .int .i64 k] w fun e w' => e = .returned (.int .i64 (nextR l k)) ∧ Kd.S kd41 41 w' w0.heap.size (fun k_ => P0 k_ ∨ w.heap.size ≤ k_) (.slice A l.length c) (markR l k) ∧ Below w0.heap.size w0 w' ∧ Kept w w' P0 := by
  have HB := Aside0.mk hB
  have HS := Aside0.mk hS
  have HK := Aside0.mk hk
  have HBK := Aside0.mk hbk
  have HL := Aside0.mk hl
  clear hB hS hk hbk hl
  have hu28 := Tryd.underlying28
  go_enter Tryd.func11, Tryd.ntmps11
  go_wp2_with (first
    | ((with_reducible refine gate_dst (N := 2) rfl ?_); (try (refine gate_guard (by rfl) ?_; dsimp only)); refine box_event ?hg (N := 2) ?hd (cs := #[.bool p, .bool m, .int .i64 pr, .int .i64 ep, .int .i64 sq, .slice A l.length c]) (t := 28) ?hr ?_; (case hd => rfl); (case hg => rfl); (case hr => first | (go_simp; done) | (go_simp; rfl)); intro g2 hg w2 hbox hb; have HB2 := Aside0.mk hb; clear hb hg; have z5 : w2.cell? ⟨g2, 5, none⟩ = some (.slice A l.length c) := blk_cell hbox 5; clear hbox)
    | ((with_reducible refine gate_callee (f := 25) rfl ?_); refine goesL_ (some 8) rfl rfl Tryd.func25 (by kernel_rfl) rfl #[.slice A l.length c, .int .i64 k] rfl (by (try simp only [List.map_toArray, List.map_cons, List.map_nil]); first | done | rfl) ?_; refine (laws_markRecordS.calls P0 (.slice A l.length c) l k w0 w2 (below_step HB.out HB2.out) (Kd.S_below HS.out HB2.out) HK.out HBK.out HL.out).mono ?_; rintro e w3 ⟨rfl, hs, hb, hk⟩; refine ⟨_, rfl, ?_⟩; have HS3 := Aside0.mk hs; have HB3 := Aside0.mk hb; have HK3 := Aside0.mk hk; clear hs hb hk z5))
  go_ret
  exact ⟨rfl, Kd.S_mono HS3.out (fun q hq => hq.imp id (fun h => Nat.le_trans HB2.out.size h)), HB3.out, (Kept.of_below HB2.out P0).then_ HK3.out (fun q hq => .inl hq)⟩

/-- BatchCut: whatever comes in. -/
theorem impl_BatchCut.calls (k : Nat) (b0 b1 : Bool) (n2 n3 n4 : Int) (A : Option Addr) (c : Nat) (l : List S41) (off : Int) (v : Bool) (pe : Addr) (w : World) (hr : Kd.C k41 w A l.length l) (hc : l.length ≤ c) (hv : impl_BatchValid.f k b0 b1 n2 n3 n4 l = some v) (hge : w.cell? ⟨0, 0, none⟩ = some (.iface 136 (.pointer (some pe)))) (hl : v = true → n2 = 255 → l.length ≤ 1000) (hp : ∀ x ∈ l, x.f3.length < 17592186044416 ∧ x.f5.length < 17592186044416)
    (r1 r2 : Bool) (r3 r4 r5 : Int) (r6 : List S41) (r7 r8 : Bool) (r9 r10 r11 : Int) (r12 : List S41) (r13 : Bool) (hR : cutR b0 (v && decide (n2 = 255)) (lo off l) (hi off l) = (r1, r2, r3, r4, r5, r6, r7, r8, r9, r10, r11, r12, r13)) :
    Calls Tryd.prog 9 #[.agg #[.bool b0, .bool b1, .int .i64 n2, .int .i64 n3, .int .i64 n4, .slice A l.length c], .int .i64 off] w fun e w' => ∃ (P : Nat → Prop) (va vb : Value), e = .returned (.tuple #[.agg #[.bool r1, .bool r2, .int .i64 r3, .int .i64 r4, .int .i64 r5, va], .agg #[.bool r7, .bool r8, .int .i64 r9, .int .i64 r10, .int .i64 r11, vb], .bool r13]) ∧ Two w' w.heap.size P va vb r6 r12 ∧ Below w.heap.size w w' := by
  unfold cutR at hR
  cases hok : cutOk v n2 off l with
  | false =>
    have h2 : ((v && decide (n2 = 255)) && !(lo off l).isEmpty && !(hi off l).isEmpty) = false := hok
    rw [if_neg (by rw [h2]; simp)] at hR
    simp only [Prod.mk.injEq] at hR
    obtain ⟨rfl, rfl, rfl, rfl, rfl, rfl, rfl, rfl, rfl, rfl, rfl, rfl, rfl⟩ := hR
    refine (impl_BatchCut.bad k b0 b1 n2 n3 n4 A c l off v pe w hr hc hv hge hl hp hok).mono ?_
    rintro e w' ⟨he, hb⟩
    exact ⟨fun _ => True, _, _, he, ⟨Kd.S_nil _ _ _ _ _, Kd.S_nil _ _ _ _ _⟩, hb⟩
  | true =>
    have h2 : ((v && decide (n2 = 255)) && !(lo off l).isEmpty && !(hi off l).isEmpty) = true := hok
    rw [if_pos h2] at hR
    simp only [Prod.mk.injEq] at hR
    obtain ⟨rfl, rfl, rfl, rfl, rfl, rfl, rfl, rfl, rfl, rfl, rfl, rfl, rfl⟩ := hR
    exact impl_BatchCut.good k b0 b1 n2 n3 n4 A c l off v pe w hr hc hv hge hl hp hok

theorem szBatch (p m : Bool) (pr ep sq : Int) (l : List S67) (K : Nat) (hl : l.length ≤ 9223372036854775807) (hx : ∀ x ∈ l, x.f3.length ≤ 9223372036854775807 ∧ x.f5.length ≤ 9223372036854775807) (hK : l.length < K) :
    ∃ r, laws_szBatch.f K p m pr ep sq l 1048576 = some r ∧ (r < 0 ∨ (r = 1048576 - l.length - sz67 l ∧ 0 ≤ r)) := by
  obtain ⟨r, h1, h2⟩ := szRecs l 1048576 K hl hx hK (by omega) (by omega)
  unfold laws_szBatch.f
  rw [h1]
  simp only [Option.bind_some]
  by_cases c : r < 0
  · rw [if_pos c]; exact ⟨-1, rfl, .inl (by omega)⟩
  · rw [if_neg c]; exact ⟨r, rfl, h2⟩
theorem toBatch (M : Nat) (p m : Bool) (pr ep sq : Int) (l : List S67) (K : Nat) (hl : l.length ≤ 3518437208883) (hx : ∀ x ∈ l, x.f3.length ≤ M ∧ x.f5.length ≤ M) (hM : M ≤ 35184372088832) (hK : l.length + M + M < K) : laws_toBatch.f K p m pr ep sq l = some (p, m, pr, ep, sq, l.map conv) := by
  unfold laws_toBatch.f
  rw [toRecs M l K hl hx hM hK]
  rfl
theorem eqBatch (M : Nat) (p m : Bool) (pr ep sq : Int) (l : List S41) (K : Nat) (hl : l.length ≤ 9223372036854775807) (hx : ∀ x ∈ l, x.f3.length ≤ M ∧ x.f5.length ≤ M) (hM : M ≤ 9223372036854775807) (hK : l.length + M + M < K) : laws_eqBatch.f K p m pr ep sq l p m pr ep sq l = some true := by
  unfold laws_eqBatch.f
  rw [eqRecs M l K hl hx hM hK]
  simp
theorem heldBatch (M : Nat) (p m : Bool) (pr ep sq : Int) (l : List S41) (k : Int) (K : Nat) (hM : ∀ r ∈ l, r.f3.length ≤ M ∧ r.f5.length ≤ M) (hK : l.length + M + 1 < K) (hk : 0 ≤ k) (hb : k + bulkR l ≤ 4611686018427387904) (hl : l.length ≤ 4611686018427387904) : laws_heldBatch.f K p m pr ep sq (markR l k) k = some (nextR l k) := by
  unfold laws_heldBatch.f
  rw [heldRec M l k K hM hK hk hb hl]
  simp only [Option.bind_some]
  rw [if_neg (by rw [nextR_eq]; omega)]
theorem bulk_conv (l : List S67) : bulkR (l.map conv) = 4 * l.length + sz67 l := by
  induction l with
  | nil => rfl
  | cons x t ih =>
    have e : sz67 (x :: t) = x.f3.length + x.f5.length + sz67 t := by simp [sz67]
    rw [List.map_cons, bulkR_cons, ih, e]
    simp only [conv, List.length_cons]; omega
theorem bulk_filter (f : S41 → Bool) (l : List S41) : bulkR (l.filter f) ≤ bulkR l := by
  induction l with
  | nil => exact Nat.le_refl _
  | cons x t ih =>
    rw [List.filter_cons, bulkR_cons]
    split
    · rw [bulkR_cons]; omega
    · omega

/-- What the walk needs to know of a row. -/
structure Fit (l : List S41) : Prop where
  n : l.length ≤ 1048576
  x : ∀ x ∈ l, x.f3.length ≤ 1048576 ∧ x.f5.length ≤ 1048576
  k : bulkR l ≤ 5242880
theorem Fit.filter {l : List S41} (h : Fit l) (f : S41 → Bool) : Fit (l.filter f) := ⟨Nat.le_trans (List.length_filter_le _ _) h.n, fun x hx => h.x x (List.mem_filter.1 hx).1, Nat.le_trans (bulk_filter f l) h.k⟩
theorem Fit.nil : Fit [] := ⟨by simp, fun x hx => by simp at hx, by simp [bulkR]⟩
theorem Fit.conv {l : List S67} (h : (l.length : Int) + sz67 l ≤ 1048576) : Fit (l.map conv) := by
  refine ⟨by simp; omega, fun x hx => ?_, by rw [bulk_conv]; omega⟩
  obtain ⟨y, hy, rfl⟩ := List.mem_map.1 hx
  have := sz67_le l y hy
  exact ⟨by show y.f3.length ≤ _; omega, by show y.f5.length ≤ _; omega⟩
theorem cutR_fit {p ok : Bool} {off : Int} {l : List S41} (h : Fit l) {r1 r2 : Bool} {r3 r4 r5 : Int} {r6 : List S41} {r7 r8 : Bool} {r9 r10 r11 : Int} {r12 : List S41} {r13 : Bool} (hR : cutR p ok (lo off l) (hi off l) = (r1, r2, r3, r4, r5, r6, r7, r8, r9, r10, r11, r12, r13)) : Fit r6 ∧ Fit r12 := by
  unfold cutR at hR
  split at hR <;> (simp only [Prod.mk.injEq] at hR; obtain ⟨-, -, -, -, -, rfl, -, -, -, -, -, rfl, -⟩ := hR)
  · exact ⟨h.filter _, h.filter _⟩
  · exact ⟨Fit.nil, Fit.nil⟩
theorem markR_fit {l : List S41} (h : Fit l) : ∀ k, (markR l k).length = l.length := markR_length l
end Go.Proofs.YtlhbclblehmdbaaDoor.PFnExactBatchCut
