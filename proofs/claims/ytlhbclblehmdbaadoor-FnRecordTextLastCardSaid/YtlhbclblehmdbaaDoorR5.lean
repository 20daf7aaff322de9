/- The reference's line of a record, walked. -/
import Derived.Test.YtlhbclblehmdbaaDoorR4
set_option linter.unusedVariables false
set_option linter.unusedSimpArgs false
namespace Go.Proofs.YtlhbclblehmdbaaDoor.PFnRecordTextLast
open Go.RowKit Go.Proofs.YtlhbclblehmdbaaDoorW.PrintWords Go.Proofs.YtlhbclblehmdbaaDoorW.PrintLast Go.Proofs.YtlhbclblehmdbaaDoorW.PrintMore

set_option maxHeartbeats 4000000 in
set_option maxRecDepth 100000 in
theorem spec_l41Text.calls (o t : Int) (hk hv : Bool) (A3 : Option Addr) (c3 : Nat) (l3 : List Int) (A5 : Option Addr) (c5 : Nat) (l5 : List Int) (K : Nat) (w : World)
    (hr3 : Kd.C (Kd.int .i64) w A3 l3.length l3) (hc3 : l3.length ≤ c3) (hr5 : Kd.C (Kd.int .i64) w A5 l5.length l5) (hc5 : l5.length ≤ c5) (ho : 0 ≤ o ∧ o ≤ 99999) (ht : 0 ≤ t ∧ t ≤ 99999) (hp3 : pOk l3) (hp5 : pOk l5) (ok3 : spec_l1Ok.f K l3 = some true) (ok5 : spec_l1Ok.f K l5 = some true) :
    Calls Tryd.prog 34 #[.agg #[.int .i64 o, .int .i64 t, .bool hk, .slice A3 l3.length c3, .bool hv, .slice A5 l5.length c5]] w fun e w' => e = .returned (.string ⟨(recL o t hk l3 hv l5).toArray⟩) ∧ Below w.heap.size w w' := by
  have hu41 := Tryd.underlying41
  have HR3 := Aside0.mk hr3
  have HC3 := Aside0.mk hc3
  have HR5 := Aside0.mk hr5
  have HC5 := Aside0.mk hc5
  have HP3 := Aside0.mk hp3
  have HP5 := Aside0.mk hp5
  have OK3 := Aside0.mk ok3
  have OK5 := Aside0.mk ok5
  have D1 := Aside0.mk (spec_dec o 10 ho.1 ho.2 (by omega))
  have D2 := Aside0.mk (spec_dec t 10 ht.1 ht.2 (by omega))
  have n1 := itoa_length o ho.1 ho.2
  have n2 := itoa_length t ht.1 ht.2
  have n3 := partL_length hk l3 hp3
  have n4 := partL_length hv l5 hp5
  clear hr3 hc3 hr5 hc5 hp3 hp5 ok3 ok5 ho ht
  have HFIN := Aside0.mk (show (⟨(Lib.itoa o).toArray⟩ : ByteArray) ++ (⟨#[32]⟩ : ByteArray) ++ ⟨(Lib.itoa t).toArray⟩ ++ (⟨#[32]⟩ : ByteArray) ++ ⟨(partL hk l3).toArray⟩ ++ (⟨#[32]⟩ : ByteArray) ++ ⟨(partL hv l5).toArray⟩ = ⟨(recL o t hk l3 hv l5).toArray⟩ from by
    apply ByteArray.ext
    unfold recL
    simp [ByteArray.data_append])
  generalize h1 : (⟨(Lib.itoa o).toArray⟩ : ByteArray) = s1 at D1 HFIN
  generalize h2 : (⟨(Lib.itoa t).toArray⟩ : ByteArray) = s2 at D2 HFIN
  generalize h3 : (⟨(partL hk l3).toArray⟩ : ByteArray) = s3 at HFIN
  generalize h4 : (⟨(partL hv l5).toArray⟩ : ByteArray) = s4 at HFIN
  generalize h5 : (⟨(recL o t hk l3 hv l5).toArray⟩ : ByteArray) = s5 at HFIN ⊢
  have z1 : s1.size ≤ 5 := by rw [← h1]; show (Lib.itoa o).toArray.size ≤ 5; rw [List.size_toArray]; omega
  have z2 : s2.size ≤ 5 := by rw [← h2]; show (Lib.itoa t).toArray.size ≤ 5; rw [List.size_toArray]; omega
  have z3 : s3.size ≤ 25 := by rw [← h3]; show (partL hk l3).toArray.size ≤ 25; rw [List.size_toArray]; omega
  have z4 : s4.size ≤ 25 := by rw [← h4]; show (partL hv l5).toArray.size ≤ 25; rw [List.size_toArray]; omega
  have H3 := Aside0.mk h3
  have H4 := Aside0.mk h4
  clear h1 h2 h3 h4 h5 n1 n2 n3 n4
  have HB := Aside0.mk (Below.refl w.heap.size w)
  go_enter Tryd.func34, Tryd.ntmps34
  go_upto_region 1 with (first | ((with_reducible refine gate_dst (N := 1) rfl ?_); refine box_event ?hg (N := 1) ?hd (cs := #[.int .i64 o, .int .i64 t, .bool hk, .slice A3 l3.length c3, .bool hv, .slice A5 l5.length c5]) (t := 41) ?hr ?_; (case hd => rfl); (case hg => rfl); (case hr => first | (go_simp; done) | (go_simp; rfl)); intro gb hg w1 hbox hb; have HB1 := Aside0.mk (below_step HB.out hb); have BK := Aside0.mk hbox; clear hb hbox hg))
  have q0 : ∀ p : BelowBy w1, p.wd.cell? ⟨gb, 0, none⟩ = some (.int .i64 o) := fun p => p.cell (blk_cell BK.out 0)
  have q1 : ∀ p : BelowBy w1, p.wd.cell? ⟨gb, 1, none⟩ = some (.int .i64 t) := fun p => p.cell (blk_cell BK.out 1)
  have q2 : ∀ p : BelowBy w1, p.wd.cell? ⟨gb, 2, none⟩ = some (.bool hk) := fun p => p.cell (blk_cell BK.out 2)
  have q3 : ∀ p : BelowBy w1, p.wd.cell? ⟨gb, 3, none⟩ = some (.slice A3 l3.length c3) := fun p => p.cell (blk_cell BK.out 3)
  have q4 : ∀ p : BelowBy w1, p.wd.cell? ⟨gb, 4, none⟩ = some (.bool hv) := fun p => p.cell (blk_cell BK.out 4)
  have q5 : ∀ p : BelowBy w1, p.wd.cell? ⟨gb, 5, none⟩ = some (.slice A5 l5.length c5) := fun p => p.cell (blk_cell BK.out 5)
  have HQ := Aside0.mk (fun (p : BelowBy w1) => below_step HB1.out p.h)
  refine wp_region_quiet_below (by first | assumption | kernel_rfl) (by kernel_rfl) ?_
  have P3 := Aside0.mk (fun (p : BelowBy w1) => by have h := spec_l41Part.calls hk A3 c3 l3 K p.wd (Kd.C_below HR3.out (HQ.out p)) HC3.out HP3.out OK3.out; rw [H3.out] at h; exact Calls.below_of h)
  have P4 := Aside0.mk (fun (p : BelowBy w1) => by have h := spec_l41Part.calls hv A5 c5 l5 K p.wd (Kd.C_below HR5.out (HQ.out p)) HC5.out HP5.out OK5.out; rw [H4.out] at h; exact Calls.below_of h)
  repeat (go_big_quiet_step (first | (go_at_call 57; first | (with_reducible exact Calls.below_of (spec_l6Dec.calls 10 o s1 _ D1.out)) | (with_reducible exact Calls.below_of (spec_l6Dec.calls 10 t s2 _ D2.out))) | (go_at_call 58; first | (with_reducible exact P3.out _) | (with_reducible exact P4.out _))))
  refine wpQuiet_nil ?_
  intro wq hw_
  have hwq := BelowBy.spec hw_
  clear hw_
  have HB3 := Aside0.mk (below_step HB1.out hwq)
  go_wp2
  go_ret
  exact ⟨by rw [HFIN.out]; rfl, HB3.out⟩
end Go.Proofs.YtlhbclblehmdbaaDoor.PFnRecordTextLast
