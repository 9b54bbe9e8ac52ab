/- The Go functions that the law FnPieces comes to, each as a Lean function, with a proof that the call does what it says; written by a program of this session over the print of the kit. No conditions. -/
import Derived.Test.YtgcidlnhgpjdpacQFnPiecesx0
import Derived.Test.YtgcidlnhgpjdpacQFnPiecesx2
import Derived.Test.YtgcidlnhgpjdpacQFnPiecesx3
import Derived.Test.YtgcidlnhgpjdpacQFnPiecesx5
namespace Go.Proofs.Ytgcidlnhgpjdpac.QFnPieces
open Go.RowKit Go.Proofs.YtgcidlnhgpjdpacW.PrintWords Go.Proofs.YtgcidlnhgpjdpacW.PrintLast Go.Proofs.YtgcidlnhgpjdpacW.PrintMore
attribute [local go_sem] max2_int min2_int max_two min_two max_three min_three max_four min_four   -- for this text's walks alone
set_option linter.unusedVariables false
set_option linter.unusedSimpArgs false

/-! ### spec_DrawApplyPieces: function 54 -/
mutual
def spec_DrawApplyPieces.j0 : Nat → List Int → List (S70) → Bool → List Int → Int → Int → Option (List Int × (List (S70)))
  | 0, _, _, _, _, _, _ => none
  | k + 1, x5, x7, x24, x285000, x285001, x285002 => if x24 = true then ((spec_l4Raw.f x285000 x285001 x285002).bind fun bt299 => (if 0 < (x7.length : Int) then (spec_DrawApplyPieces.j1 k x5 (x7.set (0 : Int).toNat (⟨bt299.1, (rd_T70 x7 0).f1, (rd_T70 x7 0).f2⟩ : S70)) x285000 bt299.2.1 bt299.2.2) else (none))) else (spec_DrawApplyPieces.j1 k x5 x7 x285000 x285001 x285002)
def spec_DrawApplyPieces.j1 : Nat → List Int → List (S70) → List Int → Int → Int → Option (List Int × (List (S70)))
  | 0, _, _, _, _, _ => none
  | k + 1, x5, x7, x285000, x285001, x285002 => if (x7.length : Int) > 0 then ((spec_l1Once.f x285000 x285001 x285002 3).bind fun bt303 => (if bt303.1 = true then ((spec_l4Raw.f x285000 bt303.2.1 bt303.2.2).bind fun bt306 => (if 1 < (x7.length : Int) then (some (x5, (x7.set (1 : Int).toNat (⟨(rd_T70 x7 1).f0, bt306.1, (rd_T70 x7 1).f2⟩ : S70)))) else (none))) else (some (x5, x7)))) else (some (x5, x7))
end
def spec_DrawApplyPieces.f (k : Nat) (l0 : List Int) : Option (List Int × (List (S70))) := (spec_l1New.f k l0).bind fun bt281 => ((spec_l8Pair.f k bt281.1 bt281.2.1 bt281.2.2).bind fun bt285 => ((spec_PiecesOf.f k bt285.1 bt285.2.1).bind fun t293 => (if (t293.length : Int) > 0 then ((spec_l1Once.f bt281.1 bt285.2.2.1 bt285.2.2.2 3).bind fun bt296 => (spec_DrawApplyPieces.j0 k bt285.1 t293 bt296.1 bt281.1 bt296.2.1 bt296.2.2)) else (spec_DrawApplyPieces.j0 k bt285.1 t293 false bt281.1 bt285.2.2.1 bt285.2.2.2))))
theorem spec_DrawApplyPieces.mono_l : ∀ k, (∀ y0 y1 y2 y3 y4 y5, LeO (spec_DrawApplyPieces.j0 k y0 y1 y2 y3 y4 y5) (spec_DrawApplyPieces.j0 (k + 1) y0 y1 y2 y3 y4 y5)) ∧ (∀ y0 y1 y2 y3 y4, LeO (spec_DrawApplyPieces.j1 k y0 y1 y2 y3 y4) (spec_DrawApplyPieces.j1 (k + 1) y0 y1 y2 y3 y4))
  | 0 => ⟨fun _ _ _ _ _ _ r h => by simp [spec_DrawApplyPieces.j0] at h, fun _ _ _ _ _ r h => by simp [spec_DrawApplyPieces.j1] at h⟩
  | k + 1 => by
    obtain ⟨ih0, ih1⟩ := spec_DrawApplyPieces.mono_l k
    refine ⟨?_, ?_⟩
    · intro y0 y1 y2 y3 y4 y5
      unfold spec_DrawApplyPieces.j0
      repeat' first
      | (with_reducible exact ih0 _ _ _ _ _ _)
      | (with_reducible exact ih1 _ _ _ _ _)
      | (with_reducible exact spec_PiecesOf.mono _ _ _)
      | (with_reducible exact spec_l1New.mono _ _)
      | (with_reducible exact spec_l8Pair.mono _ _ _ _)
      | (with_reducible exact LeO.refl _)
      | (with_reducible exact LeO.none _)
      | (with_reducible refine LeO.ite ?_ ?_)
      | (with_reducible refine LeO.bind ?_ (fun _ => ?_))
      | exact ih0 _ _ _ _ _ _
      | exact ih1 _ _ _ _ _
      | exact spec_PiecesOf.mono _ _ _
      | exact spec_l1New.mono _ _
      | exact spec_l8Pair.mono _ _ _ _
      | exact LeO.none _
      | refine LeO.ite ?_ ?_
      | refine LeO.bind ?_ (fun _ => ?_)
    · intro y0 y1 y2 y3 y4
      unfold spec_DrawApplyPieces.j1
      repeat' first
      | (with_reducible exact ih0 _ _ _ _ _ _)
      | (with_reducible exact ih1 _ _ _ _ _)
      | (with_reducible exact spec_PiecesOf.mono _ _ _)
      | (with_reducible exact spec_l1New.mono _ _)
      | (with_reducible exact spec_l8Pair.mono _ _ _ _)
      | (with_reducible exact LeO.refl _)
      | (with_reducible exact LeO.none _)
      | (with_reducible refine LeO.ite ?_ ?_)
      | (with_reducible refine LeO.bind ?_ (fun _ => ?_))
      | exact ih0 _ _ _ _ _ _
      | exact ih1 _ _ _ _ _
      | exact spec_PiecesOf.mono _ _ _
      | exact spec_l1New.mono _ _
      | exact spec_l8Pair.mono _ _ _ _
      | exact LeO.none _
      | refine LeO.ite ?_ ?_
      | refine LeO.bind ?_ (fun _ => ?_)
theorem spec_DrawApplyPieces.mono : ∀ a0 k, LeO (spec_DrawApplyPieces.f k a0) (spec_DrawApplyPieces.f (k + 1) a0) := by
  intro a0 k
  obtain ⟨ih0, ih1⟩ := spec_DrawApplyPieces.mono_l k
  unfold spec_DrawApplyPieces.f
  repeat' first
      | (with_reducible exact ih0 _ _ _ _ _ _)
      | (with_reducible exact ih1 _ _ _ _ _)
      | (with_reducible exact spec_PiecesOf.mono _ _ _)
      | (with_reducible exact spec_l1New.mono _ _)
      | (with_reducible exact spec_l8Pair.mono _ _ _ _)
      | (with_reducible exact LeO.refl _)
      | (with_reducible exact LeO.none _)
      | (with_reducible refine LeO.ite ?_ ?_)
      | (with_reducible refine LeO.bind ?_ (fun _ => ?_))
      | exact ih0 _ _ _ _ _ _
      | exact ih1 _ _ _ _ _
      | exact spec_PiecesOf.mono _ _ _
      | exact spec_l1New.mono _ _
      | exact spec_l8Pair.mono _ _ _ _
      | exact LeO.none _
      | refine LeO.ite ?_ ?_
      | refine LeO.bind ?_ (fun _ => ?_)
set_option maxHeartbeats 8000000 in
set_option maxRecDepth 100000 in
theorem spec_DrawApplyPieces.calls (k : Nat) (A0 : Option Addr) (c0 : Nat) (l0 : List Int) (r1 : List Int) (r2 : List (S70)) (w : World) (hr0 : Kd.C (Kd.int .u8) w A0 l0.length l0) (hc0 : l0.length ≤ c0) (h : spec_DrawApplyPieces.f k l0 = some (r1, r2)) :
    Calls Try.prog 54 #[.slice A0 l0.length c0] w fun e w' => ∃ v0_ v1_ : Value, e = .returned (.tuple #[v0_, v1_]) ∧ Kd.R (Kd.int .i64) 3 w' w.heap.size (fun _ => True) v0_ r1 ∧ Kd.S k70 70 w' w.heap.size (fun k_ => some k_ ≠ (v0_ : Value).ownBlock) v1_ r2 ∧ Below w.heap.size w w' := by
  have HR0 := Aside0.mk hr0
  have HC0 := Aside0.mk hc0
  clear hr0 hc0
  have HB := Aside0.mk (Below.refl w.heap.size w)
  have H : ((spec_l1New.f k l0).bind fun bt281 => ((spec_l8Pair.f k bt281.1 bt281.2.1 bt281.2.2).bind fun bt285 => ((spec_PiecesOf.f k bt285.1 bt285.2.1).bind fun t293 => (if (t293.length : Int) > 0 then ((spec_l1Once.f bt281.1 bt285.2.2.1 bt285.2.2.2 3).bind fun bt296 => (spec_DrawApplyPieces.j0 k bt285.1 t293 bt296.1 bt281.1 bt296.2.1 bt296.2.2)) else (spec_DrawApplyPieces.j0 k bt285.1 t293 false bt281.1 bt285.2.2.1 bt285.2.2.2))))) = some (r1, r2) := h
  clear h
  replace H := Option.bind_eq_some_iff.mp H
  obtain ⟨⟨t281, t282, t283⟩, A20, H⟩ := H
  replace H : ((spec_l8Pair.f k t281 t282 t283).bind fun bt285 => ((spec_PiecesOf.f k bt285.1 bt285.2.1).bind fun t293 => (if (t293.length : Int) > 0 then ((spec_l1Once.f t281 bt285.2.2.1 bt285.2.2.2 3).bind fun bt296 => (spec_DrawApplyPieces.j0 k bt285.1 t293 bt296.1 t281 bt296.2.1 bt296.2.2)) else (spec_DrawApplyPieces.j0 k bt285.1 t293 false t281 bt285.2.2.1 bt285.2.2.2)))) = some (r1, r2) := H
  have A2 := Aside0.mk A20
  clear A20
  replace H := Option.bind_eq_some_iff.mp H
  obtain ⟨⟨t285, t288, t291, t292⟩, A30, H⟩ := H
  replace H : ((spec_PiecesOf.f k t285 t288).bind fun t293 => (if (t293.length : Int) > 0 then ((spec_l1Once.f t281 t291 t292 3).bind fun bt296 => (spec_DrawApplyPieces.j0 k t285 t293 bt296.1 t281 bt296.2.1 bt296.2.2)) else (spec_DrawApplyPieces.j0 k t285 t293 false t281 t291 t292))) = some (r1, r2) := H
  have A3 := Aside0.mk A30
  clear A30
  replace H := Option.bind_eq_some_iff.mp H
  obtain ⟨t293, A40, H⟩ := H
  replace H : (if (t293.length : Int) > 0 then ((spec_l1Once.f t281 t291 t292 3).bind fun bt296 => (spec_DrawApplyPieces.j0 k t285 t293 bt296.1 t281 bt296.2.1 bt296.2.2)) else (spec_DrawApplyPieces.j0 k t285 t293 false t281 t291 t292)) = some (r1, r2) := H
  have A4 := Aside0.mk A40
  clear A40
  have HC5 := Aside0.mk H
  clear H
  go_enter Try.func54, Try.ntmps54
  go_upto_region 4 with (first | ((with_reducible refine gate_callee (f := 93) rfl ?_); refine goesL_ (some 9) rfl rfl Try.func93 (by kernel_rfl) rfl #[.slice A0 l0.length c0] rfl (by (try simp only [List.map_toArray, List.map_cons, List.map_nil]); first | done | rfl | (simp only [List.length_drop, List.length_take]; rfl)) ?_; (with_reducible refine (spec_l1New.calls k _ _ l0 t281 t282 t283 w _ ?side1 ?side2 ?side3 A2.out).mono ?_); (case side1 => repeat (first | (with_reducible first | exact HB.out | apply below_alloc | apply pw_below_drewN | apply below_drew1) | exact HB.out)); (case side2 => exact HR0.out); (case side3 => exact HC0.out); rintro e w6 ⟨g284, rfl, hi, hb, hb2⟩; refine ⟨_, rfl, ?_⟩; have n0_ := Aside0.mk (hb); have n1_ := Aside0.mk (hi); clear HB; have HB := n0_; have HI284 := n1_; clear n0_ n1_; (try clear hb); (try clear hb2); (try clear hk); (try clear hi)) | ((with_reducible refine gate_callee (f := 97) rfl ?_); refine goesL_ (some 12) rfl rfl Try.func97 (by kernel_rfl) rfl #[.pointer (some ⟨g284, 0, none⟩)] rfl (by (try simp only [List.map_toArray, List.map_cons, List.map_nil]); first | done | rfl | (simp only [List.length_drop, List.length_take]; rfl)) ?_; (with_reducible refine (spec_l8Pair.calls k g284 t281 t282 t283 t285 t288 t291 t292 w _ ?side1 ?side2 A3.out).mono ?_); (case side1 => repeat (first | (with_reducible first | exact HI284.out | apply IsS136.alloc | apply IsS136.drewN | apply IsS136.drew | apply IsS136.set_1 | apply IsS136.set_2) | exact HI284.out)); (case side2 => repeat (first | (with_reducible first | exact HB.out | apply below_alloc | apply pw_below_drewN | apply below_drew1 | refine below_set ?_ (IsS136.ge HI284.out)) | exact HB.out)); rintro e w7 ⟨v286, v289, rfl, ho0, ho1, hi, hb, hk⟩; refine ⟨_, rfl, ?_⟩; have n0_ := Aside0.mk (Kd.R_lower ho0 (below_size (by repeat (first | (with_reducible first | exact HB.out | apply below_alloc | apply pw_below_drewN | apply below_drew1 | refine below_set ?_ (IsS136.ge HI284.out)) | exact HB.out)))); have n1_ := Aside0.mk (Kd.R_lower ho1 (below_size (by repeat (first | (with_reducible first | exact HB.out | apply below_alloc | apply pw_below_drewN | apply below_drew1 | refine below_set ?_ (IsS136.ge HI284.out)) | exact HB.out)))); have n2_ := Aside0.mk (hb); have n3_ := Aside0.mk (hi); clear HB; clear HI284; have HO287 := n0_; have HO290 := n1_; have HB := n2_; have HI284 := n3_; clear n0_ n1_ n2_ n3_; (try clear hb); (try clear hb2); (try clear hk); (try clear hi); (try clear ho0); (try clear ho1); obtain ⟨Ao8, co8, eo8⟩ := Kd.R_slice HO287.out; subst eo8; obtain ⟨Ao9, co9, eo9⟩ := Kd.R_slice HO290.out; subst eo9) | ((with_reducible refine gate_callee (f := 33) rfl ?_); refine goesL_ (some 17) rfl rfl Try.func33 (by kernel_rfl) rfl #[.slice Ao8 t285.length co8, .slice Ao9 t288.length co9] rfl (by (try simp only [List.map_toArray, List.map_cons, List.map_nil]); first | done | rfl | (simp only [List.length_drop, List.length_take]; rfl)) ?_; (with_reducible refine (spec_PiecesOf.calls k _ _ t285 _ _ t288 t293 _ ?side1 ?side2 ?side3 ?side4 A4.out).mono ?_); (case side1 => repeat (first | exact (Kd.R_reads' HO287.out).2.2 | (with_reducible refine Kd.C_alloc ?_ _) | (with_reducible refine Kd.C_drewN ?_ _) | (with_reducible refine Kd.C_drew ?_))); (case side2 => exact (Kd.R_reads' HO287.out).2.1); (case side3 => repeat (first | exact (Kd.R_reads' HO290.out).2.2 | (with_reducible refine Kd.C_alloc ?_ _) | (with_reducible refine Kd.C_drewN ?_ _) | (with_reducible refine Kd.C_drew ?_))); (case side4 => exact (Kd.R_reads' HO290.out).2.1); rintro e w10 ⟨v294, rfl, ho0, hb⟩; refine ⟨_, rfl, ?_⟩; have n0_ := Aside0.mk (Kd.R_below (by (with_reducible repeat (first | apply Kd.R_alloc | apply Kd.R_drewN | apply Kd.R_drew)); exact HO287.out) hb); have n1_ := Aside0.mk (Kd.R_below (by (with_reducible repeat (first | apply Kd.R_alloc | apply Kd.R_drewN | apply Kd.R_drew)); exact HO290.out) hb); have n2_ := Aside0.mk (Kd.S_lower (Kd.S_new' (Kd.S_new' ho0 (Kd.R_lt (by (with_reducible repeat (first | apply Kd.R_alloc | apply Kd.R_drewN | apply Kd.R_drew)); exact HO287.out))) (Kd.R_lt (by (with_reducible repeat (first | apply Kd.R_alloc | apply Kd.R_drewN | apply Kd.R_drew)); exact HO290.out))) (below_size (by repeat (first | (with_reducible first | exact HB.out | apply below_alloc | apply pw_below_drewN | apply below_drew1 | refine below_set ?_ (IsS136.ge HI284.out)) | exact HB.out)))); have n3_ := Aside0.mk (IsS136.below (by repeat (first | (with_reducible first | exact HI284.out | apply IsS136.alloc | apply IsS136.drewN | apply IsS136.drew | apply IsS136.set_1 | apply IsS136.set_2) | exact HI284.out)) hb); have n4_ := Aside0.mk (below_step (by repeat (first | (with_reducible first | exact HB.out | apply below_alloc | apply pw_below_drewN | apply below_drew1 | refine below_set ?_ (IsS136.ge HI284.out)) | exact HB.out)) hb); clear HO287; clear HO290; clear HI284; clear HB; have HO287 := n0_; have HO290 := n1_; have HO295 := n2_; have HI284 := n3_; have HB := n4_; clear n0_ n1_ n2_ n3_ n4_; (try clear hb); (try clear hb2); (try clear hk); (try clear hi); (try clear ho0)))
  (try simp only [Act.put, List.setIfInBounds_toArray, List.set_cons_zero, List.set_cons_succ])
  go_cut [24] (fun v24 wc => ∃ (kq : Nat) (x24_4 : Bool) (x285001_4 : Int) (x285002_4 : Int), v24 = .bool x24_4 ∧ Aside0 (spec_DrawApplyPieces.j0 kq t285 t293 x24_4 t281 x285001_4 x285002_4 = some (r1, r2)) ∧ Aside0 (kq ≤ k) ∧ Aside0 (Kd.R (Kd.int .i64) 3 wc w.heap.size (fun _ => True) (.slice Ao8 t285.length co8) t285) ∧ Aside0 (Kd.S k70 70 wc w.heap.size (fun k_ => some k_ ≠ ((.slice Ao8 t285.length co8) : Value).ownBlock) v294 t293) ∧ Aside0 (IsS136 w wc g284 t281 x285001_4 x285002_4) ∧ Aside0 (Below w.heap.size w wc))
  case first =>
    have H := HC5.out
    clear HC5
    by_cases c11 : (t293.length : Int) > 0
    · rw [if_pos c11] at H
      have c11b0 : decide (0 < (t293.length : Int)) = true := decide_eq_true c11
      have c11b1 : decide (0 < t293.length) = true := decide_eq_true (by omega)
      clear c11
      (first | rw [c11b0] | (simp only [i64_w, i32_w]; rw [c11b0]) | skip)
      replace H := Option.bind_eq_some_iff.mp H
      obtain ⟨⟨t296, t297, t298⟩, A120, H⟩ := H
      replace H : (spec_DrawApplyPieces.j0 k t285 t293 t296 t281 t297 t298) = some (r1, r2) := H
      have A12 := Aside0.mk A120
      clear A120
      have H' := Aside0.mk H
      clear H
      obtain ⟨Ao13, co13, eo13⟩ := Kd.S_slice HO295.out
      subst eo13
      go_wp2_with (first | (go_at_call 99; (with_reducible refine (spec_l1Once.calls g284 t281 t291 t292 3 t296 t297 t298 w _ ?side1 ?side2 A12.out).mono ?_); (case side1 => repeat (first | (with_reducible first | exact HI284.out | apply IsS136.alloc | apply IsS136.drewN | apply IsS136.drew | apply IsS136.set_1 | apply IsS136.set_2) | exact HI284.out)); (case side2 => repeat (first | (with_reducible first | exact HB.out | apply below_alloc | apply pw_below_drewN | apply below_drew1 | refine below_set ?_ (IsS136.ge HI284.out)) | exact HB.out)); rintro e w14 ⟨rfl, hi, hb, hk⟩; have n0_ := Aside0.mk (Kd.R_mono (Kd.R_keep (IsS136.apart (show IsS136 w _ g284 t281 t291 t292 from by repeat (first | (with_reducible first | exact HI284.out | apply IsS136.alloc | apply IsS136.drewN | apply IsS136.drew | apply IsS136.set_1 | apply IsS136.set_2) | exact HI284.out)) (by (with_reducible repeat (first | apply Kd.R_alloc | apply Kd.R_drewN | apply Kd.R_drew)); exact HO287.out) (by decide)) hk (fun _ h => h.2)) (fun _ h => h.1)); have n1_ := Aside0.mk (Kd.R_mono (Kd.R_keep (IsS136.apart (show IsS136 w _ g284 t281 t291 t292 from by repeat (first | (with_reducible first | exact HI284.out | apply IsS136.alloc | apply IsS136.drewN | apply IsS136.drew | apply IsS136.set_1 | apply IsS136.set_2) | exact HI284.out)) (by (with_reducible repeat (first | apply Kd.R_alloc | apply Kd.R_drewN | apply Kd.R_drew)); exact HO290.out) (by decide)) hk (fun _ h => h.2)) (fun _ h => h.1)); have n2_ := Aside0.mk (Kd.S_mono (Kd.S_keep (IsS136.apartS (show IsS136 w _ g284 t281 t291 t292 from by repeat (first | (with_reducible first | exact HI284.out | apply IsS136.alloc | apply IsS136.drewN | apply IsS136.drew | apply IsS136.set_1 | apply IsS136.set_2) | exact HI284.out)) (by (with_reducible repeat (first | apply Kd.S_alloc | apply Kd.S_drewN | apply Kd.S_drew)); exact HO295.out) (by decide)) hk (fun _ h => h.2)) (fun _ h => h.1)); have n3_ := Aside0.mk (hb); have n4_ := Aside0.mk (hi); clear HO287; clear HO290; clear HO295; clear HB; clear HI284; have HO287 := n0_; have HO290 := n1_; have HO295 := n2_; have HB := n3_; have HI284 := n4_; clear n0_ n1_ n2_ n3_ n4_; (try clear hb); (try clear hb2); (try clear hk); (try clear hi)))
      go_meet
      case rel => exact ⟨_, (t296), (t297), (t298), (by first | rfl | (simp; done) | (simp [*]; done)), H', ⟨by first | omega | exact Nat.le_refl _⟩, ⟨by (with_reducible repeat (first | apply Kd.R_alloc | apply Kd.R_drewN | apply Kd.R_drew)); exact Kd.R_mono HO287.out (fun _ hk => trivial)⟩, ⟨by (with_reducible repeat (first | apply Kd.S_alloc | apply Kd.S_drewN | apply Kd.S_drew)); exact Kd.S_mono HO295.out (fun _ hk => hk.1.2)⟩, ⟨by repeat (first | (with_reducible first | exact HI284.out | apply IsS136.alloc | apply IsS136.drewN | apply IsS136.drew | apply IsS136.set_1 | apply IsS136.set_2) | exact HI284.out)⟩, ⟨by repeat (first | (with_reducible first | exact HB.out | apply below_alloc | apply pw_below_drewN | apply below_drew1 | refine below_set ?_ (IsS136.ge HI284.out)) | exact HB.out)⟩⟩
    · rw [if_neg c11] at H
      have c11b0 : decide (0 < (t293.length : Int)) = false := decide_eq_false c11
      have c11b1 : decide (0 < t293.length) = false := decide_eq_false (by omega)
      clear c11
      (first | rw [c11b0] | (simp only [i64_w, i32_w]; rw [c11b0]) | skip)
      have H' := Aside0.mk H
      clear H
      obtain ⟨Ao15, co15, eo15⟩ := Kd.S_slice HO295.out
      subst eo15
      go_wp2
      go_meet
      case rel => exact ⟨_, (false), (t291), (t292), (by first | rfl | (simp; done) | (simp [*]; done)), H', ⟨by first | omega | exact Nat.le_refl _⟩, ⟨by (with_reducible repeat (first | apply Kd.R_alloc | apply Kd.R_drewN | apply Kd.R_drew)); exact Kd.R_mono HO287.out (fun _ hk => trivial)⟩, ⟨by (with_reducible repeat (first | apply Kd.S_alloc | apply Kd.S_drewN | apply Kd.S_drew)); exact Kd.S_mono HO295.out (fun _ hk => hk.1.2)⟩, ⟨by repeat (first | (with_reducible first | exact HI284.out | apply IsS136.alloc | apply IsS136.drewN | apply IsS136.drew | apply IsS136.set_1 | apply IsS136.set_2) | exact HI284.out)⟩, ⟨by repeat (first | (with_reducible first | exact HB.out | apply below_alloc | apply pw_below_drewN | apply below_drew1 | refine below_set ?_ (IsS136.ge HI284.out)) | exact HB.out)⟩⟩
  case rest =>
    clear HC5
    try clear c1
    try clear p2
    try clear c3
    try clear c5
    try clear c9
    try clear c11
    try clear c11b0
    try clear c11b1
    obtain ⟨kq, x24_4, x285001_4, x285002_4, rfl, HA, HJ4, HO_5, HO_7, HI284, HB⟩ := hcut
    cases kq with
    | zero => exact absurd HA.out (by simp [spec_DrawApplyPieces.j0])
    | succ kj4 =>
      have H := HA.out
      clear HA
      simp only [spec_DrawApplyPieces.j0] at H
      have HC16 := Aside0.mk H
      clear H
      go_upto_if 24 with (fail)
      go_cut [] (fun wc => ∃ (kq : Nat) (x7_15 : List (S70)) (x285001_15 : Int) (x285002_15 : Int), Aside0 (spec_DrawApplyPieces.j1 kq t285 x7_15 t281 x285001_15 x285002_15 = some (r1, r2)) ∧ Aside0 (kq ≤ kj4) ∧ Aside0 (Kd.R (Kd.int .i64) 3 wc w.heap.size (fun _ => True) (.slice Ao8 t285.length co8) t285) ∧ Aside0 (Kd.S k70 70 wc w.heap.size (fun k_ => some k_ ≠ ((.slice Ao8 t285.length co8) : Value).ownBlock) v294 x7_15) ∧ Aside0 (IsS136 w wc g284 t281 x285001_15 x285002_15) ∧ Aside0 (Below w.heap.size w wc))
      case first =>
        have H := HC16.out
        clear HC16
        by_cases c17 : x24_4 = true
        · subst c17
          have H1 : ((spec_l4Raw.f t281 x285001_4 x285002_4).bind fun bt299 => (if 0 < (t293.length : Int) then (spec_DrawApplyPieces.j1 kj4 t285 (t293.set (0 : Int).toNat (⟨bt299.1, (rd_T70 t293 0).f1, (rd_T70 t293 0).f2⟩ : S70)) t281 bt299.2.1 bt299.2.2) else (none))) = some (r1, r2) := by rw [if_pos rfl] at H; exact H
          clear H
          have H := H1
          clear H1
          replace H := Option.bind_eq_some_iff.mp H
          obtain ⟨⟨t299, t300, t301⟩, A180, H⟩ := H
          replace H : (if 0 < (t293.length : Int) then (spec_DrawApplyPieces.j1 kj4 t285 (t293.set (0 : Int).toNat (⟨t299, (rd_T70 t293 0).f1, (rd_T70 t293 0).f2⟩ : S70)) t281 t300 t301) else (none)) = some (r1, r2) := H
          have A18 := Aside0.mk A180
          clear A180
          by_cases c19 : 0 < (t293.length : Int)
          · rw [if_pos c19] at H
            have c19b0 : decide (0 < (t293.length : Int)) = true := decide_eq_true c19
            have c19b1 : decide (0 < t293.length) = true := decide_eq_true (by omega)
            clear c19
            (first | rw [c19b0] | (simp only [i64_w, i32_w]; rw [c19b0]) | skip)
            obtain ⟨y302, hy302⟩ : ∃ y_ : List (S70), y_ = (t293.set (0 : Int).toNat (⟨t299, (rd_T70 t293 0).f1, (rd_T70 t293 0).f2⟩ : S70)) := ⟨_, rfl⟩
            replace H : (spec_DrawApplyPieces.j1 kj4 t285 y302 t281 t300 t301) = some (r1, r2) := by first | (rw [hy302]; with_reducible exact H) | (have H2_ := (Option.bind_some _ _).symm.trans H; rw [hy302]; with_reducible exact H2_) | (have H2_ := (Option.bind_some _ _).symm.trans H; with_reducible exact H2_) | with_reducible exact H | (rw [hy302]; exact H) | exact H
            have Ny302 := Aside0.mk hy302
            clear hy302
            have H' := Aside0.mk H
            clear H
            go_wp2_with (first | ((with_reducible refine gate_callee (f := 100) rfl ?_); refine goesL_ (some 27) rfl rfl Try.func100 (by kernel_rfl) rfl #[.pointer (some ⟨g284, 0, none⟩)] rfl (by (try simp only [List.map_toArray, List.map_cons, List.map_nil]); first | done | rfl | (simp only [List.length_drop, List.length_take]; rfl)) ?_; (with_reducible refine (spec_l4Raw.calls g284 t281 x285001_4 x285002_4 t299 t300 t301 w _ ?side1 ?side2 A18.out).mono ?_); (case side1 => repeat (first | (with_reducible first | exact HI284.out | apply IsS136.alloc | apply IsS136.drewN | apply IsS136.drew | apply IsS136.set_1 | apply IsS136.set_2) | exact HI284.out)); (case side2 => repeat (first | (with_reducible first | exact HB.out | apply below_alloc | apply pw_below_drewN | apply below_drew1 | refine below_set ?_ (IsS136.ge HI284.out)) | exact HB.out)); rintro e w21 ⟨rfl, hi, hb, hk⟩; refine ⟨_, rfl, ?_⟩; have n0_ := Aside0.mk (Kd.R_mono (Kd.R_keep (IsS136.apart (show IsS136 w _ g284 t281 x285001_4 x285002_4 from by repeat (first | (with_reducible first | exact HI284.out | apply IsS136.alloc | apply IsS136.drewN | apply IsS136.drew | apply IsS136.set_1 | apply IsS136.set_2) | exact HI284.out)) (by (with_reducible repeat (first | apply Kd.R_alloc | apply Kd.R_drewN | apply Kd.R_drew)); exact HO_5.out) (by decide)) hk (fun _ h => h.2)) (fun _ h => h.1)); have n1_ := Aside0.mk (Kd.S_mono (Kd.S_keep (IsS136.apartS (show IsS136 w _ g284 t281 x285001_4 x285002_4 from by repeat (first | (with_reducible first | exact HI284.out | apply IsS136.alloc | apply IsS136.drewN | apply IsS136.drew | apply IsS136.set_1 | apply IsS136.set_2) | exact HI284.out)) (by (with_reducible repeat (first | apply Kd.S_alloc | apply Kd.S_drewN | apply Kd.S_drew)); exact HO_7.out) (by decide)) hk (fun _ h => h.2)) (fun _ h => h.1)); have n2_ := Aside0.mk (hb); have n3_ := Aside0.mk (hi); clear HO_5; clear HO_7; clear HB; clear HI284; have HO_5 := n0_; have HO_7 := n1_; have HB := n2_; have HI284 := n3_; clear n0_ n1_ n2_ n3_; (try clear hb); (try clear hb2); (try clear hk); (try clear hi); have p20 : 0 ≤ (0 : Int) := (by omega); have q20 : (0 : Int) < ((t293.length : Int) : Int) := of_decide_eq_true (by first | (with_reducible assumption) | assumption); have qi20 : (0 < t293.length) = True := eq_true (by omega); obtain ⟨go20, co20, eo20, gb20, gl20, cl20, HG20⟩ := Kd.S_form HO_7.out (by omega); (first | cases eo20 | (injection eo20 with ea_ en_ ec_; (first | subst ea_ | (injection ea_ with ea_; subst ea_)); subst ec_; clear en_)); have GB20 := Aside0.mk gb20; have GG20 := Aside0.mk HG20; clear gb20 gl20 HG20; obtain ⟨_, ce20, hcl20, hM20, hcc20, hfr20, _, _⟩ := Kd.S_elem HO_7.out z70 (0 : Int) p20 q20; obtain ⟨ve20_2, rfl, ge20_2⟩ := k70_openM hM20; have hx20_0 : w21.cell? ⟨go20, (0 : Int).toNat * 3, none⟩ = some (.int .i64 ((rd_T70 t293 0).f0)) := hcc20 0 _ rfl; have hx20_1 : w21.cell? ⟨go20, (0 : Int).toNat * 3 + 1, none⟩ = some (.int .i64 ((rd_T70 t293 0).f1)) := hcc20 1 _ rfl; have hx20_2 : w21.cell? ⟨go20, (0 : Int).toNat * 3 + 2, none⟩ = some (ve20_2) := hcc20 2 _ rfl; have hf20_0 : w21.frozen? ⟨go20, (0 : Int).toNat * 3, none⟩ = false := hfr20 0; have hf20_1 : w21.frozen? ⟨go20, (0 : Int).toNat * 3 + 1, none⟩ = false := hfr20 1; have hf20_2 : w21.frozen? ⟨go20, (0 : Int).toNat * 3 + 2, none⟩ = false := hfr20 2; clear hcl20 hcc20 hfr20 hM20; (try rw [show ((0 : Int)).toNat = 0 from rfl] at hx20_0); (try simp only [Nat.reduceMul, Nat.zero_mul, Nat.zero_add, Nat.reduceAdd] at hx20_0); (try rw [show ((0 : Int)).toNat = 0 from rfl] at hf20_0); (try simp only [Nat.reduceMul, Nat.zero_mul, Nat.zero_add, Nat.reduceAdd] at hf20_0); (try rw [show ((0 : Int)).toNat = 0 from rfl] at hx20_1); (try simp only [Nat.reduceMul, Nat.zero_mul, Nat.zero_add, Nat.reduceAdd] at hx20_1); (try rw [show ((0 : Int)).toNat = 0 from rfl] at hf20_1); (try simp only [Nat.reduceMul, Nat.zero_mul, Nat.zero_add, Nat.reduceAdd] at hf20_1); (try rw [show ((0 : Int)).toNat = 0 from rfl] at hx20_2); (try simp only [Nat.reduceMul, Nat.zero_mul, Nat.zero_add, Nat.reduceAdd] at hx20_2); (try rw [show ((0 : Int)).toNat = 0 from rfl] at hf20_2); (try simp only [Nat.reduceMul, Nat.zero_mul, Nat.zero_add, Nat.reduceAdd] at hf20_2); replace p20 := eq_true p20; replace q20 := eq_true q20; have HX22 := Aside0.mk (show Kd.S k70 70 w21 w.heap.size (fun k_ => ((fun k_ => some k_ ≠ (.slice Ao8 t285.length co8 : Value).ownBlock)) k_ ∧ ¬ ((fun _ => False)) k_) (.slice (some ⟨go20, 0, none⟩) t293.length co20) t293 from (by (with_reducible repeat (first | apply Kd.S_alloc | apply Kd.S_drewN | apply Kd.S_drew)); exact Kd.S_mono HO_7.out (fun k_ hk => ⟨hk, fun e_ => e_⟩))); obtain ⟨oki22, ce22, hcl22, hM22, hcc22, hfr22, hoki22, hH22⟩ := Kd.S_elem HX22.out z70 (0 : Int) (by omega) (by have h_ : (0 : Int) < ((t293.length : Int) : Int) := of_decide_eq_true (by first | (with_reducible assumption) | assumption); first | exact h_ | (have e_ := (Kd.S_reads' HO_7.out).1; omega) | simpa using h_); obtain ⟨ve22_2, rfl, ge22_2⟩ := k70_openM hM22; have HP22 := Kd.S_seg hH22 (by omega) (by have h_ : (0 : Int) < ((t293.length : Int) : Int) := of_decide_eq_true (by first | (with_reducible assumption) | assumption); first | exact h_ | (have e_ := (Kd.S_reads' HO_7.out).1; omega) | simpa using h_) (seg := [.int .i64 t299]) (j := 0) (show 1 ≤ 3 from by decide) (x' := (⟨t299, (rd_T70 t293 0).f1, (rd_T70 t293 0).f2⟩ : S70)) (k70_mkM _ _ _ (⟨t299, (rd_T70 t293 0).f1, (rd_T70 t293 0).f2⟩ : S70) (Kd.R_mono ge22_2 (fun _ h_ => Or.inl h_))) (fun _ hk => hk) (fun k_ hk_ => hk_.elim); have hx22_0 := hcc22 0 _ rfl; (try simp only [show (k70).sz = 3 from rfl, Nat.mul_one, Nat.add_zero] at hx22_0); (try rw [show ((0 : Int)).toNat = 0 from rfl] at hx22_0); (try simp only [Nat.reduceMul, Nat.zero_mul, Nat.zero_add, Nat.reduceAdd] at hx22_0); have hf22_0 := hfr22 0; (try simp only [show (k70).sz = 3 from rfl, Nat.mul_one, Nat.add_zero] at hf22_0); (try rw [show ((0 : Int)).toNat = 0 from rfl] at hf22_0); (try simp only [Nat.reduceMul, Nat.zero_mul, Nat.zero_add, Nat.reduceAdd] at hf22_0); clear hcl22 hcc22 hfr22 hM22 hoki22 hH22) | ((with_reducible refine gate_store (t := 3) (p := 29) rfl ?_); refine store_event (t := 3) (p := 29) (v := ?vo_w23) (w1 := (w21.setCell ⟨go20, 0, none⟩ (.int .i64 t299))) ?hg ?ho ?hn ?hr ?_; (case ho => rfl); (case hg => rfl); (case hn => rfl); (case hr => first | (go_simp; done) | (go_simp; rfl)); intro w23 hw; have hg : w21.grownBy w23 (some go20) := (by rw [hw]; exact HP22.2); have hp_ : Kd.S k70 70 w23 w.heap.size (fun k_ => some k_ ≠ (.slice Ao8 t285.length co8 : Value).ownBlock) (.slice (some ⟨go20, 0, none⟩) t293.length co20) y302 := (by rw [hw, Ny302.out]; exact HP22.1); clear HP22; have n0_ := Aside0.mk (Kd.R_over' (v := (.slice (some ⟨go20, 0, none⟩) t293.length co20)) (by (with_reducible repeat (first | apply Kd.R_alloc | apply Kd.R_drewN | apply Kd.R_drew)); exact HO_5.out) (Kd.S_typed HO_7.out) (by decide) hg); have n1_ := Aside0.mk (hp_); have n2_ := Aside0.mk (IsS136.grown (by repeat (first | (with_reducible first | exact HI284.out | apply IsS136.alloc | apply IsS136.drewN | apply IsS136.drew | apply IsS136.set_1 | apply IsS136.set_2) | exact HI284.out)) hg (IsS136.own_neS HI284.out HO_7.out (by decide))); have n3_ := Aside0.mk ((by rw [hw]; exact below_set (HB.out) GB20.out : Below w.heap.size w w23)); clear HO_5; clear HO_7; clear HI284; clear HB; have HO_5 := n0_; have HO_7 := n1_; have HI284 := n2_; have HB := n3_; clear n0_ n1_ n2_ n3_; clear hg hw hp_))
            go_meet
            case rel => exact ⟨_, (y302), (t300), (t301), H', ⟨by have := HJ4.out; first | omega | exact Nat.le_refl _⟩, ⟨by (with_reducible repeat (first | apply Kd.R_alloc | apply Kd.R_drewN | apply Kd.R_drew)); exact HO_5.out⟩, ⟨by (with_reducible repeat (first | apply Kd.S_alloc | apply Kd.S_drewN | apply Kd.S_drew)); exact HO_7.out⟩, ⟨by repeat (first | (with_reducible first | exact HI284.out | apply IsS136.alloc | apply IsS136.drewN | apply IsS136.drew | apply IsS136.set_1 | apply IsS136.set_2) | exact HI284.out)⟩, ⟨by repeat (first | (with_reducible first | exact HB.out | apply below_alloc | apply pw_below_drewN | apply below_drew1 | refine below_set ?_ (IsS136.ge HI284.out)) | exact HB.out)⟩⟩
          · rw [if_neg c19] at H
            exact absurd H (by simp)
        · replace c17 := Bool.eq_false_iff.mpr c17
          subst c17
          have H1 : (spec_DrawApplyPieces.j1 kj4 t285 t293 t281 x285001_4 x285002_4) = some (r1, r2) := by rw [if_neg (show ¬ (false = true) by decide)] at H; exact H
          clear H
          have H := H1
          clear H1
          have H' := Aside0.mk H
          clear H
          go_wp2
          go_meet
          case rel => exact ⟨_, (t293), (x285001_4), (x285002_4), H', ⟨by have := HJ4.out; first | omega | exact Nat.le_refl _⟩, ⟨by (with_reducible repeat (first | apply Kd.R_alloc | apply Kd.R_drewN | apply Kd.R_drew)); exact HO_5.out⟩, ⟨by (with_reducible repeat (first | apply Kd.S_alloc | apply Kd.S_drewN | apply Kd.S_drew)); exact HO_7.out⟩, ⟨by repeat (first | (with_reducible first | exact HI284.out | apply IsS136.alloc | apply IsS136.drewN | apply IsS136.drew | apply IsS136.set_1 | apply IsS136.set_2) | exact HI284.out)⟩, ⟨by repeat (first | (with_reducible first | exact HB.out | apply below_alloc | apply pw_below_drewN | apply below_drew1 | refine below_set ?_ (IsS136.ge HI284.out)) | exact HB.out)⟩⟩
      case rest =>
        clear HC16
        try clear c1
        try clear c2
        try clear p2
        try clear q2
        try clear hx2
        try clear qi2
        try clear hf2
        try clear c3
        try clear c5
        try clear c9
        try clear c10
        try clear c11
        try clear c11b0
        try clear c11b1
        try clear c17
        try clear c19
        try clear c19b0
        try clear c19b1
        try clear c20
        try clear p20
        try clear q20
        try clear hx20
        try clear qi20
        try clear hf20
        try clear c22
        try clear hx22
        try clear hf22
        try clear hx20_0
        try clear hx20_1
        try clear hx20_2
        try clear hx22_0
        try clear p2
        try clear p20
        try clear q20
        obtain ⟨kq, x7_15, x285001_15, x285002_15, HA, HJ15, HO_5, HO_7, HI284, HB⟩ := hcut
        cases kq with
        | zero => exact absurd HA.out (by simp [spec_DrawApplyPieces.j1])
        | succ kj15 =>
          have H := HA.out
          clear HA
          simp only [spec_DrawApplyPieces.j1] at H
          by_cases c24 : (x7_15.length : Int) > 0
          · rw [if_pos c24] at H
            have c24b0 : decide (0 < (x7_15.length : Int)) = true := decide_eq_true c24
            have c24b1 : decide (0 < x7_15.length) = true := decide_eq_true (by omega)
            clear c24
            replace H := Option.bind_eq_some_iff.mp H
            obtain ⟨⟨t303, t304, t305⟩, A250, H⟩ := H
            replace H : (if t303 = true then ((spec_l4Raw.f t281 t304 t305).bind fun bt306 => (if 1 < (x7_15.length : Int) then (some (t285, (x7_15.set (1 : Int).toNat (⟨(rd_T70 x7_15 1).f0, bt306.1, (rd_T70 x7_15 1).f2⟩ : S70)))) else (none))) else (some (t285, x7_15))) = some (r1, r2) := H
            have A25 := Aside0.mk A250
            clear A250
            by_cases c26 : t303 = true
            · subst c26
              have H1 : ((spec_l4Raw.f t281 t304 t305).bind fun bt306 => (if 1 < (x7_15.length : Int) then (some (t285, (x7_15.set (1 : Int).toNat (⟨(rd_T70 x7_15 1).f0, bt306.1, (rd_T70 x7_15 1).f2⟩ : S70)))) else (none))) = some (r1, r2) := by rw [if_pos rfl] at H; exact H
              clear H
              have H := H1
              clear H1
              replace H := Option.bind_eq_some_iff.mp H
              obtain ⟨⟨t306, t307, t308⟩, A270, H⟩ := H
              replace H : (if 1 < (x7_15.length : Int) then (some (t285, (x7_15.set (1 : Int).toNat (⟨(rd_T70 x7_15 1).f0, t306, (rd_T70 x7_15 1).f2⟩ : S70)))) else (none)) = some (r1, r2) := H
              have A27 := Aside0.mk A270
              clear A270
              by_cases c28 : 1 < (x7_15.length : Int)
              · rw [if_pos c28] at H
                have c28b0 : decide (1 < (x7_15.length : Int)) = true := decide_eq_true c28
                have c28b1 : decide (1 < x7_15.length) = true := decide_eq_true (by omega)
                clear c28
                obtain ⟨y309, hy309⟩ : ∃ y_ : List (S70), y_ = (x7_15.set (1 : Int).toNat (⟨(rd_T70 x7_15 1).f0, t306, (rd_T70 x7_15 1).f2⟩ : S70)) := ⟨_, rfl⟩
                replace H : (some (t285, y309)) = some (r1, r2) := by first | (rw [hy309]; with_reducible exact H) | (have H2_ := (Option.bind_some _ _).symm.trans H; rw [hy309]; with_reducible exact H2_) | (have H2_ := (Option.bind_some _ _).symm.trans H; with_reducible exact H2_) | with_reducible exact H | (rw [hy309]; exact H) | exact H
                have Ny309 := Aside0.mk hy309
                clear hy309
                simp only [Option.some.injEq, Prod.mk.injEq] at H
                obtain ⟨rfl, rfl⟩ := H
                obtain ⟨Ao30, co30, eo30⟩ := Kd.S_slice HO_7.out
                subst eo30
                go_wp2_with (first | (go_at_call 99; (with_reducible refine (spec_l1Once.calls g284 t281 x285001_15 x285002_15 3 true t304 t305 w _ ?side1 ?side2 A25.out).mono ?_); (case side1 => repeat (first | (with_reducible first | exact HI284.out | apply IsS136.alloc | apply IsS136.drewN | apply IsS136.drew | apply IsS136.set_1 | apply IsS136.set_2) | exact HI284.out)); (case side2 => repeat (first | (with_reducible first | exact HB.out | apply below_alloc | apply pw_below_drewN | apply below_drew1 | refine below_set ?_ (IsS136.ge HI284.out)) | exact HB.out)); rintro e w31 ⟨rfl, hi, hb, hk⟩; have n0_ := Aside0.mk (Kd.R_mono (Kd.R_keep (IsS136.apart (show IsS136 w _ g284 t281 x285001_15 x285002_15 from by repeat (first | (with_reducible first | exact HI284.out | apply IsS136.alloc | apply IsS136.drewN | apply IsS136.drew | apply IsS136.set_1 | apply IsS136.set_2) | exact HI284.out)) (by (with_reducible repeat (first | apply Kd.R_alloc | apply Kd.R_drewN | apply Kd.R_drew)); exact HO_5.out) (by decide)) hk (fun _ h => h.2)) (fun _ h => h.1)); have n1_ := Aside0.mk (Kd.S_mono (Kd.S_keep (IsS136.apartS (show IsS136 w _ g284 t281 x285001_15 x285002_15 from by repeat (first | (with_reducible first | exact HI284.out | apply IsS136.alloc | apply IsS136.drewN | apply IsS136.drew | apply IsS136.set_1 | apply IsS136.set_2) | exact HI284.out)) (by (with_reducible repeat (first | apply Kd.S_alloc | apply Kd.S_drewN | apply Kd.S_drew)); exact HO_7.out) (by decide)) hk (fun _ h => h.2)) (fun _ h => h.1)); have n2_ := Aside0.mk (hb); have n3_ := Aside0.mk (hi); clear HO_5; clear HO_7; clear HB; clear HI284; have HO_5 := n0_; have HO_7 := n1_; have HB := n2_; have HI284 := n3_; clear n0_ n1_ n2_ n3_; (try clear hb); (try clear hb2); (try clear hk); (try clear hi)) | ((with_reducible refine gate_callee (f := 100) rfl ?_); refine goesL_ (some 39) rfl rfl Try.func100 (by kernel_rfl) rfl #[.pointer (some ⟨g284, 0, none⟩)] rfl (by (try simp only [List.map_toArray, List.map_cons, List.map_nil]); first | done | rfl | (simp only [List.length_drop, List.length_take]; rfl)) ?_; (with_reducible refine (spec_l4Raw.calls g284 t281 t304 t305 t306 t307 t308 w _ ?side1 ?side2 A27.out).mono ?_); (case side1 => repeat (first | (with_reducible first | exact HI284.out | apply IsS136.alloc | apply IsS136.drewN | apply IsS136.drew | apply IsS136.set_1 | apply IsS136.set_2) | exact HI284.out)); (case side2 => repeat (first | (with_reducible first | exact HB.out | apply below_alloc | apply pw_below_drewN | apply below_drew1 | refine below_set ?_ (IsS136.ge HI284.out)) | exact HB.out)); rintro e w32 ⟨rfl, hi, hb, hk⟩; refine ⟨_, rfl, ?_⟩; have n0_ := Aside0.mk (Kd.R_mono (Kd.R_keep (IsS136.apart (show IsS136 w _ g284 t281 t304 t305 from by repeat (first | (with_reducible first | exact HI284.out | apply IsS136.alloc | apply IsS136.drewN | apply IsS136.drew | apply IsS136.set_1 | apply IsS136.set_2) | exact HI284.out)) (by (with_reducible repeat (first | apply Kd.R_alloc | apply Kd.R_drewN | apply Kd.R_drew)); exact HO_5.out) (by decide)) hk (fun _ h => h.2)) (fun _ h => h.1)); have n1_ := Aside0.mk (Kd.S_mono (Kd.S_keep (IsS136.apartS (show IsS136 w _ g284 t281 t304 t305 from by repeat (first | (with_reducible first | exact HI284.out | apply IsS136.alloc | apply IsS136.drewN | apply IsS136.drew | apply IsS136.set_1 | apply IsS136.set_2) | exact HI284.out)) (by (with_reducible repeat (first | apply Kd.S_alloc | apply Kd.S_drewN | apply Kd.S_drew)); exact HO_7.out) (by decide)) hk (fun _ h => h.2)) (fun _ h => h.1)); have n2_ := Aside0.mk (hb); have n3_ := Aside0.mk (hi); clear HO_5; clear HO_7; clear HB; clear HI284; have HO_5 := n0_; have HO_7 := n1_; have HB := n2_; have HI284 := n3_; clear n0_ n1_ n2_ n3_; (try clear hb); (try clear hb2); (try clear hk); (try clear hi); have p29 : 0 ≤ (1 : Int) := (by omega); have q29 : (1 : Int) < ((x7_15.length : Int) : Int) := of_decide_eq_true (by first | (with_reducible assumption) | assumption); have qi29 : (1 < x7_15.length) = True := eq_true (by omega); obtain ⟨go29, co29, eo29, gb29, gl29, cl29, HG29⟩ := Kd.S_form HO_7.out (by omega); (first | cases eo29 | (injection eo29 with ea_ en_ ec_; (first | subst ea_ | (injection ea_ with ea_; subst ea_)); subst ec_; clear en_)); have GB29 := Aside0.mk gb29; have GG29 := Aside0.mk HG29; clear gb29 gl29 HG29; obtain ⟨_, ce29, hcl29, hM29, hcc29, hfr29, _, _⟩ := Kd.S_elem HO_7.out z70 (1 : Int) p29 q29; obtain ⟨ve29_2, rfl, ge29_2⟩ := k70_openM hM29; have hx29_0 : w32.cell? ⟨go29, (1 : Int).toNat * 3, none⟩ = some (.int .i64 ((rd_T70 x7_15 1).f0)) := hcc29 0 _ rfl; have hx29_1 : w32.cell? ⟨go29, (1 : Int).toNat * 3 + 1, none⟩ = some (.int .i64 ((rd_T70 x7_15 1).f1)) := hcc29 1 _ rfl; have hx29_2 : w32.cell? ⟨go29, (1 : Int).toNat * 3 + 2, none⟩ = some (ve29_2) := hcc29 2 _ rfl; have hf29_0 : w32.frozen? ⟨go29, (1 : Int).toNat * 3, none⟩ = false := hfr29 0; have hf29_1 : w32.frozen? ⟨go29, (1 : Int).toNat * 3 + 1, none⟩ = false := hfr29 1; have hf29_2 : w32.frozen? ⟨go29, (1 : Int).toNat * 3 + 2, none⟩ = false := hfr29 2; clear hcl29 hcc29 hfr29 hM29; (try rw [show ((1 : Int)).toNat = 1 from rfl] at hx29_0); (try simp only [Nat.reduceMul, Nat.zero_mul, Nat.zero_add, Nat.reduceAdd] at hx29_0); (try rw [show ((1 : Int)).toNat = 1 from rfl] at hf29_0); (try simp only [Nat.reduceMul, Nat.zero_mul, Nat.zero_add, Nat.reduceAdd] at hf29_0); (try rw [show ((1 : Int)).toNat = 1 from rfl] at hx29_1); (try simp only [Nat.reduceMul, Nat.zero_mul, Nat.zero_add, Nat.reduceAdd] at hx29_1); (try rw [show ((1 : Int)).toNat = 1 from rfl] at hf29_1); (try simp only [Nat.reduceMul, Nat.zero_mul, Nat.zero_add, Nat.reduceAdd] at hf29_1); (try rw [show ((1 : Int)).toNat = 1 from rfl] at hx29_2); (try simp only [Nat.reduceMul, Nat.zero_mul, Nat.zero_add, Nat.reduceAdd] at hx29_2); (try rw [show ((1 : Int)).toNat = 1 from rfl] at hf29_2); (try simp only [Nat.reduceMul, Nat.zero_mul, Nat.zero_add, Nat.reduceAdd] at hf29_2); replace p29 := eq_true p29; replace q29 := eq_true q29; have HX33 := Aside0.mk (show Kd.S k70 70 w32 w.heap.size (fun k_ => ((fun k_ => some k_ ≠ (.slice Ao8 t285.length co8 : Value).ownBlock)) k_ ∧ ¬ ((fun _ => False)) k_) (.slice (some ⟨go29, 0, none⟩) x7_15.length co30) x7_15 from (by (with_reducible repeat (first | apply Kd.S_alloc | apply Kd.S_drewN | apply Kd.S_drew)); exact Kd.S_mono HO_7.out (fun k_ hk => ⟨hk, fun e_ => e_⟩))); obtain ⟨oki33, ce33, hcl33, hM33, hcc33, hfr33, hoki33, hH33⟩ := Kd.S_elem HX33.out z70 (1 : Int) (by omega) (by have h_ : (1 : Int) < ((x7_15.length : Int) : Int) := of_decide_eq_true (by first | (with_reducible assumption) | assumption); first | exact h_ | (have e_ := (Kd.S_reads' HO_7.out).1; omega) | simpa using h_); obtain ⟨ve33_2, rfl, ge33_2⟩ := k70_openM hM33; have HP33 := Kd.S_seg hH33 (by omega) (by have h_ : (1 : Int) < ((x7_15.length : Int) : Int) := of_decide_eq_true (by first | (with_reducible assumption) | assumption); first | exact h_ | (have e_ := (Kd.S_reads' HO_7.out).1; omega) | simpa using h_) (seg := [.int .i64 t306]) (j := 1) (show 2 ≤ 3 from by decide) (x' := (⟨(rd_T70 x7_15 1).f0, t306, (rd_T70 x7_15 1).f2⟩ : S70)) (k70_mkM _ _ _ (⟨(rd_T70 x7_15 1).f0, t306, (rd_T70 x7_15 1).f2⟩ : S70) (Kd.R_mono ge33_2 (fun _ h_ => Or.inl h_))) (fun _ hk => hk) (fun k_ hk_ => hk_.elim); have hx33_1 := hcc33 1 _ rfl; (try simp only [show (k70).sz = 3 from rfl, Nat.mul_one, Nat.add_zero] at hx33_1); (try rw [show ((1 : Int)).toNat = 1 from rfl] at hx33_1); (try simp only [Nat.reduceMul, Nat.zero_mul, Nat.zero_add, Nat.reduceAdd] at hx33_1); have hf33_1 := hfr33 1; (try simp only [show (k70).sz = 3 from rfl, Nat.mul_one, Nat.add_zero] at hf33_1); (try rw [show ((1 : Int)).toNat = 1 from rfl] at hf33_1); (try simp only [Nat.reduceMul, Nat.zero_mul, Nat.zero_add, Nat.reduceAdd] at hf33_1); clear hcl33 hcc33 hfr33 hM33 hoki33 hH33) | ((with_reducible refine gate_store (t := 3) (p := 41) rfl ?_); refine store_event (t := 3) (p := 41) (v := ?vo_w34) (w1 := (w32.setCell ⟨go29, 4, none⟩ (.int .i64 t306))) ?hg ?ho ?hn ?hr ?_; (case ho => rfl); (case hg => rfl); (case hn => rfl); (case hr => first | (go_simp; done) | (go_simp; rfl)); intro w34 hw; have hg : w32.grownBy w34 (some go29) := (by rw [hw]; exact HP33.2); have hp_ : Kd.S k70 70 w34 w.heap.size (fun k_ => some k_ ≠ (.slice Ao8 t285.length co8 : Value).ownBlock) (.slice (some ⟨go29, 0, none⟩) x7_15.length co30) y309 := (by rw [hw, Ny309.out]; exact HP33.1); clear HP33; have n0_ := Aside0.mk (Kd.R_over' (v := (.slice (some ⟨go29, 0, none⟩) x7_15.length co30)) (by (with_reducible repeat (first | apply Kd.R_alloc | apply Kd.R_drewN | apply Kd.R_drew)); exact HO_5.out) (Kd.S_typed HO_7.out) (by decide) hg); have n1_ := Aside0.mk (hp_); have n2_ := Aside0.mk (IsS136.grown (by repeat (first | (with_reducible first | exact HI284.out | apply IsS136.alloc | apply IsS136.drewN | apply IsS136.drew | apply IsS136.set_1 | apply IsS136.set_2) | exact HI284.out)) hg (IsS136.own_neS HI284.out HO_7.out (by decide))); have n3_ := Aside0.mk ((by rw [hw]; exact below_set (HB.out) GB29.out : Below w.heap.size w w34)); clear HO_5; clear HO_7; clear HI284; clear HB; have HO_5 := n0_; have HO_7 := n1_; have HI284 := n2_; have HB := n3_; clear n0_ n1_ n2_ n3_; clear hg hw hp_))
                go_ret2
                exact ⟨_, _, by first | rfl | (simp [errW_none, errW_some] <;> rfl) | (simp [*, errW_none, errW_some] <;> rfl), by (with_reducible repeat (first | apply Kd.R_alloc | apply Kd.R_drewN | apply Kd.R_drew)); exact HO_5.out, by (with_reducible repeat (first | apply Kd.S_alloc | apply Kd.S_drewN | apply Kd.S_drew)); exact HO_7.out, by repeat (first | (with_reducible first | exact HB.out | apply below_alloc | apply pw_below_drewN | apply below_drew1 | refine below_set ?_ (IsS136.ge HI284.out)) | exact HB.out)⟩
              · rw [if_neg c28] at H
                exact absurd H (by simp)
            · replace c26 := Bool.eq_false_iff.mpr c26
              subst c26
              have H1 : (some (t285, x7_15)) = some (r1, r2) := by rw [if_neg (show ¬ (false = true) by decide)] at H; exact H
              clear H
              have H := H1
              clear H1
              simp only [Option.some.injEq, Prod.mk.injEq] at H
              obtain ⟨rfl, rfl⟩ := H
              obtain ⟨Ao35, co35, eo35⟩ := Kd.S_slice HO_7.out
              subst eo35
              go_wp2_with (first | (go_at_call 99; (with_reducible refine (spec_l1Once.calls g284 t281 x285001_15 x285002_15 3 false t304 t305 w _ ?side1 ?side2 A25.out).mono ?_); (case side1 => repeat (first | (with_reducible first | exact HI284.out | apply IsS136.alloc | apply IsS136.drewN | apply IsS136.drew | apply IsS136.set_1 | apply IsS136.set_2) | exact HI284.out)); (case side2 => repeat (first | (with_reducible first | exact HB.out | apply below_alloc | apply pw_below_drewN | apply below_drew1 | refine below_set ?_ (IsS136.ge HI284.out)) | exact HB.out)); rintro e w36 ⟨rfl, hi, hb, hk⟩; have n0_ := Aside0.mk (Kd.R_mono (Kd.R_keep (IsS136.apart (show IsS136 w _ g284 t281 x285001_15 x285002_15 from by repeat (first | (with_reducible first | exact HI284.out | apply IsS136.alloc | apply IsS136.drewN | apply IsS136.drew | apply IsS136.set_1 | apply IsS136.set_2) | exact HI284.out)) (by (with_reducible repeat (first | apply Kd.R_alloc | apply Kd.R_drewN | apply Kd.R_drew)); exact HO_5.out) (by decide)) hk (fun _ h => h.2)) (fun _ h => h.1)); have n1_ := Aside0.mk (Kd.S_mono (Kd.S_keep (IsS136.apartS (show IsS136 w _ g284 t281 x285001_15 x285002_15 from by repeat (first | (with_reducible first | exact HI284.out | apply IsS136.alloc | apply IsS136.drewN | apply IsS136.drew | apply IsS136.set_1 | apply IsS136.set_2) | exact HI284.out)) (by (with_reducible repeat (first | apply Kd.S_alloc | apply Kd.S_drewN | apply Kd.S_drew)); exact HO_7.out) (by decide)) hk (fun _ h => h.2)) (fun _ h => h.1)); have n2_ := Aside0.mk (hb); have n3_ := Aside0.mk (hi); clear HO_5; clear HO_7; clear HB; clear HI284; have HO_5 := n0_; have HO_7 := n1_; have HB := n2_; have HI284 := n3_; clear n0_ n1_ n2_ n3_; (try clear hb); (try clear hb2); (try clear hk); (try clear hi)))
              go_ret2
              exact ⟨_, _, by first | rfl | (simp [errW_none, errW_some] <;> rfl) | (simp [*, errW_none, errW_some] <;> rfl), by (with_reducible repeat (first | apply Kd.R_alloc | apply Kd.R_drewN | apply Kd.R_drew)); exact HO_5.out, by (with_reducible repeat (first | apply Kd.S_alloc | apply Kd.S_drewN | apply Kd.S_drew)); exact HO_7.out, by repeat (first | (with_reducible first | exact HB.out | apply below_alloc | apply pw_below_drewN | apply below_drew1 | refine below_set ?_ (IsS136.ge HI284.out)) | exact HB.out)⟩
          · rw [if_neg c24] at H
            have c24b0 : decide (0 < (x7_15.length : Int)) = false := decide_eq_false c24
            have c24b1 : decide (0 < x7_15.length) = false := decide_eq_false (by omega)
            clear c24
            simp only [Option.some.injEq, Prod.mk.injEq] at H
            obtain ⟨rfl, rfl⟩ := H
            obtain ⟨Ao37, co37, eo37⟩ := Kd.S_slice HO_7.out
            subst eo37
            go_wp2
            go_ret2
            exact ⟨_, _, by first | rfl | (simp [errW_none, errW_some] <;> rfl) | (simp [*, errW_none, errW_some] <;> rfl), by (with_reducible repeat (first | apply Kd.R_alloc | apply Kd.R_drewN | apply Kd.R_drew)); exact HO_5.out, by (with_reducible repeat (first | apply Kd.S_alloc | apply Kd.S_drewN | apply Kd.S_drew)); exact HO_7.out, by repeat (first | (with_reducible first | exact HB.out | apply below_alloc | apply pw_below_drewN | apply below_drew1 | refine below_set ?_ (IsS136.ge HI284.out)) | exact HB.out)⟩

end Go.Proofs.Ytgcidlnhgpjdpac.QFnPieces
