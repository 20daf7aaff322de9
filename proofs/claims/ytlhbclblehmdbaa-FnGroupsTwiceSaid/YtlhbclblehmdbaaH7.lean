/- Clipped rows: moved, read, marked. -/
import Derived.Test.YtlhbclblehmdbaaH6
set_option linter.unusedVariables false
set_option linter.unusedSimpArgs false
namespace Go.Proofs.Ytlhbclblehmdbaa.PFnExactGroupsPut
open Go.RowKit Go.Proofs.YtlhbclblehmdbaaW.PrintWords Go.Proofs.YtlhbclblehmdbaaW.PrintLast Go.Proofs.YtlhbclblehmdbaaW.PrintMore

def ClippedP (w : World) (base : Nat) (ok : Nat → Prop) (v : Value) (l : List S34) : Prop := (v = .slice none 0 0 ∧ l = []) ∨ ∃ g c, v = .slice (some ⟨g, 0, none⟩) l.length l.length ∧ Kd.R k34 34 w base ok (.slice (some ⟨g, 0, none⟩) l.length c) l
section
variable {w w1 W : World} {B : Nat} {ok P : Nat → Prop} {v : Value} {l : List S34}
theorem R_iv {α : Type} {d : Kd α} {e : Nat} {xs : List α} (h : Kd.R d e w W.heap.size (fun _ => True) v xs) (hb : B ≤ W.heap.size) : Kd.R d e w B (fun k => W.heap.size ≤ k ∧ k < w.heap.size) v xs := Kd.R_lower (Kd.R_mono (Kd.R_bound h) (fun k hk => ⟨hk.2.1, hk.2.2.1⟩)) hb
theorem R_kept {α : Type} {d : Kd α} {e : Nat} {xs : List α} (h : Kd.R d e w B ok v xs) (hk : Kept w w1 P) (hd : ∀ k, ok k → ¬ P k) : Kd.R d e w1 B ok v xs := Kd.R_step h (fun k ho hlt => hk.2 k hlt (hd k ho))
theorem clip_iv (h : Clipped w W.heap.size v l) (hb : B ≤ W.heap.size) : ClippedP w B (fun k => W.heap.size ≤ k ∧ k < w.heap.size) v l :=
  h.imp id (fun ⟨g, c, e, hr⟩ => ⟨g, c, e, R_iv hr hb⟩)
theorem clip_below (h : ClippedP w B ok v l) (hb : Below w.heap.size w w1) : ClippedP w1 B ok v l := h.imp id (fun ⟨g, c, e, hr⟩ => ⟨g, c, e, Kd.R_below hr hb⟩)
theorem clip_kept (h : ClippedP w B ok v l) (hk : Kept w w1 P) (hd : ∀ k, ok k → ¬ P k) : ClippedP w1 B ok v l := h.imp id (fun ⟨g, c, e, hr⟩ => ⟨g, c, e, R_kept hr hk hd⟩)
theorem clip_reads (h : ClippedP w B ok v l) : ∃ A, v = .slice A l.length l.length ∧ Kd.C k34 w A l.length l := by
  rcases h with ⟨rfl, rfl⟩ | ⟨g, c, rfl, hr⟩
  · exact ⟨none, rfl, rfl, by decide, fun h => absurd h (by decide)⟩
  · obtain ⟨A, c', e, _, hC⟩ := Kd.R_reads hr
    injection e with e _ _
    subst e
    exact ⟨_, rfl, hC⟩
theorem flat_C {g : Nat} {cur : List Value} (hg : w.heap[g]? = some (.cells cur.toArray 34 (0, 0))) (n : Nat) (hn : l.length = n) (hn63 : n ≤ 9223372036854775807) (ht : cur.take (n * 2) = flat l) : Kd.C k34 w (some ⟨g, 0, none⟩) n l := by
  refine ⟨hn, hn63, fun h => ⟨_, rfl, fun j p hj => ?_⟩⟩
  obtain ⟨hrl, hrep⟩ := flat_reps (R := k34.K w) (fun x => k34_mk w x) l
  refine ⟨_, ?_, hrep j p hj, fun i u hi => ?_⟩
  · have hjl := (List.getElem?_eq_some_iff.1 hj).1
    rw [List.length_take, List.length_drop, flat_length]
    show Nat.min 2 _ = 2
    simp only [Nat.min_def]
    split <;> omega
  · rw [Addr.add_lit]
    rw [List.getElem?_take] at hi
    split at hi
    · rw [List.getElem?_drop, ← ht, List.getElem?_take] at hi
      split at hi
      · rw [blk_cell hg]
        show cur.toArray[0 + (j * 2 + i)]? = some u
        simpa using hi
      · cases hi
    · cases hi
end
set_option maxHeartbeats 1000000 in
theorem laws_markGroupS.clipped (K : Nat) (B : Nat) (ok : Nat → Prop) (v : Value) (R : List S34) (w : World) (h : ClippedP w B ok v R) (hR : R.length ≤ 1048576) (hK : R.length + 20 < K) :
    Calls Try.prog 31 #[v, .int .i64 1] w fun e w' => e = .returned (.int .i64 (1 + 2 * R.length)) ∧ (∃ A, v = .slice A R.length R.length ∧ Kd.C k34 w' A R.length (markG K R 1)) ∧ w.grownBy w' v.ownBlock := by
  have hm := markS R 1 K hK (by omega) (by omega)
  rcases h with ⟨rfl, rfl⟩ | ⟨g, c, rfl, hr⟩
  · refine (laws_markGroupS.calls K (fun _ => False) (.slice none 0 0) [] 1 _ _ w w (Below.refl _ _) (Kd.R_nil _ _ _ _ _) hm).mono ?_
    rintro e w' ⟨rfl, h1, h2, h3⟩
    refine ⟨rfl, ⟨none, rfl, ?_⟩, ⟨h2.os, h2.tape, h2.output, h2.size, fun k hk _ => h2.block k hk⟩⟩
    obtain ⟨k, rfl⟩ : ∃ k, K = k + 1 := ⟨K - 1, by omega⟩
    exact ⟨rfl, by decide, fun h => absurd h (by decide)⟩
  · obtain ⟨cur, hg, hcs, ht⟩ : ∃ cur : List Value, w.heap[g]? = some (.cells cur.toArray 34 (0, 0)) ∧ R.length * 2 ≤ cur.length ∧ cur.take (R.length * 2) = flat R := by
      rcases (R_flat hr).2 with ⟨h, _⟩ | ⟨g', cap, cur, h, h1, h2, h3, h4, h5, h6⟩
      · cases h
      · injection h with ha hn hc
        injection ha with ha
        injection ha with ha
        subst ha; subst hc
        have h5' : cur.toList.length = c * 2 := by simpa using h5
        exact ⟨cur.toList, by simpa using h2, by omega, h6⟩
    refine (laws_markGroupS.clip K g R.length cur R _ 1 _ w hg (by omega) ht rfl (by omega) hm).mono ?_
    rintro e w' ⟨rfl, ⟨cur', h1, h2, h3, h4⟩, h5⟩
    exact ⟨rfl, ⟨_, rfl, flat_C h1 _ h4 (by omega) h3⟩, h5⟩
end Go.Proofs.Ytlhbclblehmdbaa.PFnExactGroupsPut
