/- The Go functions that the law FnExactPutPart comes to, each as a Lean function, with a proof that the call does what it says; written by a program of this session over the print of the kit. No conditions. -/
import Derived.Test.YtlpfobakbgipbaaQFnExactPutPartx0
import Derived.Test.YtlpfobakbgipbaaQFnExactPutPartx9
namespace Go.Proofs.Ytlpfobakbgipbaa.QFnExactPutPart
open Go.RowKit Go.Proofs.YtlpfobakbgipbaaW.PrintWords Go.Proofs.YtlpfobakbgipbaaW.PrintLast Go.Proofs.YtlpfobakbgipbaaW.PrintMore
attribute [local go_sem] max2_int min2_int max_two min_two max_three min_three max_four min_four   -- for this text's walks alone
set_option linter.unusedVariables false
set_option linter.unusedSimpArgs false

/-! ### laws_heldPartS: function 16 -/
def laws_heldPartS.l0 : Nat → List (S63) → Int → Int → Option (Int)
  | 0, _, _, _ => none
  | k + 1, x0, x1, x5 => if x5 < (x0.length : Int) then (if 0 ≤ x5 then (if ((rd_T63 x0 x5).f0) = x1 then (if ((rd_T63 x0 x5).f1.f0) = (wrap64 (x1 + 1)) then ((laws_heldIntS.f k ((rd_T63 x0 x5).f1.f1) (wrap64 ((wrap64 (x1 + 1)) + 1))).bind fun t373 => (if t373 < 0 then (some (-1)) else (if ((rd_T63 x0 x5).f1.f2.f0) = t373 then (if ((rd_T63 x0 x5).f1.f2.f1) = (wrap64 (t373 + 1)) then (if ((rd_T63 x0 x5).f1.f2.f2) = (wrap64 ((wrap64 (t373 + 1)) + 1)) then (if ((rd_T63 x0 x5).f2) = (wrap64 ((wrap64 ((wrap64 (t373 + 1)) + 1)) + 1)) then (laws_heldPartS.l0 k x0 (wrap64 ((wrap64 ((wrap64 ((wrap64 (t373 + 1)) + 1)) + 1)) + 1)) (wrap64 (x5 + 1))) else (some (-1))) else (some (-1))) else (some (-1))) else (some (-1))))) else (some (-1))) else (some (-1))) else (none)) else (some x1)
def laws_heldPartS.f (k : Nat) (l0 : List (S63)) (a1 : Int) : Option (Int) := laws_heldPartS.l0 k l0 a1 0
theorem laws_heldPartS.mono_l : ∀ k, (∀ y0 y1 y2, LeO (laws_heldPartS.l0 k y0 y1 y2) (laws_heldPartS.l0 (k + 1) y0 y1 y2))
  | 0 => fun _ _ _ r h => by simp [laws_heldPartS.l0] at h
  | k + 1 => by
    have ih0 := laws_heldPartS.mono_l k
    · intro y0 y1 y2
      unfold laws_heldPartS.l0
      repeat' first
      | (with_reducible exact ih0 _ _ _)
      | (with_reducible exact laws_heldIntS.mono _ _ _)
      | (with_reducible exact LeO.refl _)
      | (with_reducible exact LeO.none _)
      | (with_reducible refine LeO.ite ?_ ?_)
      | (with_reducible refine LeO.bind ?_ (fun _ => ?_))
      | exact ih0 _ _ _
      | exact laws_heldIntS.mono _ _ _
      | exact LeO.none _
      | refine LeO.ite ?_ ?_
      | refine LeO.bind ?_ (fun _ => ?_)
theorem laws_heldPartS.mono : ∀ a0 a1 k, LeO (laws_heldPartS.f k a0 a1) (laws_heldPartS.f (k + 1) a0 a1) := by
  intro a0 a1 k
  have ih0 := laws_heldPartS.mono_l k
  unfold laws_heldPartS.f
  repeat' first
      | (with_reducible exact ih0 _ _ _)
      | (with_reducible exact laws_heldIntS.mono _ _ _)
      | (with_reducible exact LeO.refl _)
      | (with_reducible exact LeO.none _)
      | (with_reducible refine LeO.ite ?_ ?_)
      | (with_reducible refine LeO.bind ?_ (fun _ => ?_))
      | exact ih0 _ _ _
      | exact laws_heldIntS.mono _ _ _
      | exact LeO.none _
      | refine LeO.ite ?_ ?_
      | refine LeO.bind ?_ (fun _ => ?_)
set_option maxHeartbeats 8000000 in
set_option maxRecDepth 100000 in
theorem laws_heldPartS.calls (k : Nat) (A0 : Option Addr) (c0 : Nat) (l0 : List (S63)) (a1 : Int) (r : Int) (w : World) (hr0 : Kd.C k63 w A0 l0.length l0) (hc0 : l0.length ≤ c0) (h : laws_heldPartS.f k l0 a1 = some r) :
    Calls Try.prog 16 #[.slice A0 l0.length c0, .int .i64 a1] w fun e w' => e = .returned (.int .i64 r) ∧ Drawn0 w w' := by
  have HR0 := Aside0.mk hr0
  have HC0 := Aside0.mk hc0
  clear hr0 hc0
  have H : (laws_heldPartS.l0 k l0 a1 0) = some r := h
  clear h
  have H' := Aside0.mk H
  clear H
  go_enter Try.func16, Try.ntmps16
  go_wp2
  go_loopg [1, 5] k (fun kq v1 v5 w' => ∃ (x1_1 : Int) (x5_1 : Int), v1 = .int .i64 x1_1 ∧ v5 = .int .i64 x5_1 ∧ Aside0 (laws_heldPartS.l0 kq l0 x1_1 x5_1 = some r) ∧ Aside0 (kq ≤ k) ∧ Drawn0 w w')
  case atStart => exact ⟨(a1), (0), (by first | rfl | (simp; done) | (simp [*]; done)), (by first | rfl | (simp; done) | (simp [*]; done)), H', ⟨Nat.le_refl _⟩, by repeat (first | exact Drawn0.refl _ | apply Drawn0.step)⟩
  case round =>
    clear H'
    try clear c1
    try clear p2
    obtain ⟨x1_1, x5_1, rfl, rfl, HA, HK1, ⟨m1, rfl⟩⟩ := hrel
    cases gk with
    | zero => exact absurd HA.out (by simp [laws_heldPartS.l0])
    | succ k1 =>
      have H := HA.out
      clear HA
      simp only [laws_heldPartS.l0] at H
      by_cases c3 : x5_1 < (l0.length : Int)
      · rw [if_pos c3] at H
        have c3b0 : decide (x5_1 < (l0.length : Int)) = true := decide_eq_true c3
        clear c3
        by_cases c4 : 0 ≤ x5_1
        · rw [if_pos c4] at H
          have c4b0 : decide (0 ≤ x5_1) = true := decide_eq_true c4
          clear c4
          by_cases c5 : ((rd_T63 l0 x5_1).f0) = x1_1
          · rw [if_pos c5] at H
            have c5b0 : (((rd_T63 l0 x5_1).f0) == x1_1) = true := beq_iff_eq.mpr c5
            have c5b1 : (((rd_T63 l0 x5_1).f0) != x1_1) = false := bne_eq_false_iff_eq.mpr c5
            clear c5
            by_cases c6 : ((rd_T63 l0 x5_1).f1.f0) = (wrap64 (x1_1 + 1))
            · rw [if_pos c6] at H
              have c6b0 : (((rd_T63 l0 x5_1).f1.f0) == (wrap64 (x1_1 + 1))) = true := beq_iff_eq.mpr c6
              have c6b1 : (((rd_T63 l0 x5_1).f1.f0) != (wrap64 (x1_1 + 1))) = false := bne_eq_false_iff_eq.mpr c6
              clear c6
              replace H := Option.bind_eq_some_iff.mp H
              obtain ⟨t373, A70, H⟩ := H
              replace H : (if t373 < 0 then (some (-1)) else (if ((rd_T63 l0 x5_1).f1.f2.f0) = t373 then (if ((rd_T63 l0 x5_1).f1.f2.f1) = (wrap64 (t373 + 1)) then (if ((rd_T63 l0 x5_1).f1.f2.f2) = (wrap64 ((wrap64 (t373 + 1)) + 1)) then (if ((rd_T63 l0 x5_1).f2) = (wrap64 ((wrap64 ((wrap64 (t373 + 1)) + 1)) + 1)) then (laws_heldPartS.l0 k1 l0 (wrap64 ((wrap64 ((wrap64 ((wrap64 (t373 + 1)) + 1)) + 1)) + 1)) (wrap64 (x5_1 + 1))) else (some (-1))) else (some (-1))) else (some (-1))) else (some (-1)))) = some r := H
              have A7 := Aside0.mk A70
              clear A70
              by_cases c8 : t373 < 0
              · rw [if_pos c8] at H
                have c8b0 : decide (t373 < 0) = true := decide_eq_true c8
                clear c8
                obtain rfl := Option.some.inj H
                have p370 : 0 ≤ (x5_1 : Int) := of_decide_eq_true (by first | (with_reducible assumption) | assumption)
                have q370 : x5_1 < (l0.length : Int) := of_decide_eq_true (by first | (with_reducible assumption) | assumption)
                obtain ⟨ad370, A370_2, c370_2, e370, hx370_0, hx370_1, hx370_2, hx370_3, hx370_4, hx370_5, hx370_6, hl370_2, hi370_2⟩ := at_T63 HR0.out x5_1 p370 q370
                cases e370
                have HR370_2 := Aside0.mk hi370_2
                have HC370_2 := Aside0.mk hl370_2
                clear hi370_2 hl370_2
                replace p370 := eq_true p370
                replace q370 := eq_true q370
                have p371 : 0 ≤ (x5_1 : Int) := of_decide_eq_true (by first | (with_reducible assumption) | assumption)
                have q371 : x5_1 < (l0.length : Int) := of_decide_eq_true (by first | (with_reducible assumption) | assumption)
                obtain ⟨ad371, A371_2, c371_2, e371, hx371_0, hx371_1, hx371_2, hx371_3, hx371_4, hx371_5, hx371_6, hl371_2, hi371_2⟩ := at_T63 HR0.out x5_1 p371 q371
                obtain rfl : ad370 = ad371 := (by injection e371)
                have HR371_2 := Aside0.mk hi371_2
                have HC371_2 := Aside0.mk hl371_2
                clear hi371_2 hl371_2
                replace p371 := eq_true p371
                replace q371 := eq_true q371
                have ea_ := Option.some.inj (hx370_2.symm.trans hx371_2)
                injection ea_ with ea_ en_ ec_
                subst ea_
                subst ec_
                clear en_
                have p372 : 0 ≤ (x5_1 : Int) := of_decide_eq_true (by first | (with_reducible assumption) | assumption)
                have q372 : x5_1 < (l0.length : Int) := of_decide_eq_true (by first | (with_reducible assumption) | assumption)
                obtain ⟨ad372, A372_2, c372_2, e372, hx372_0, hx372_1, hx372_2, hx372_3, hx372_4, hx372_5, hx372_6, hl372_2, hi372_2⟩ := at_T63 HR0.out x5_1 p372 q372
                obtain rfl : ad370 = ad372 := (by injection e372)
                have HR372_2 := Aside0.mk hi372_2
                have HC372_2 := Aside0.mk hl372_2
                clear hi372_2 hl372_2
                replace p372 := eq_true p372
                replace q372 := eq_true q372
                have ea_ := Option.some.inj (hx370_2.symm.trans hx372_2)
                injection ea_ with ea_ en_ ec_
                subst ea_
                subst ec_
                clear en_
                go_wp2_with (first | ((with_reducible refine gate_callee (f := 49) rfl ?_); refine goesL_ (some 38) rfl rfl Try.func49 (by kernel_rfl) rfl #[.slice A370_2 ((rd_T63 l0 x5_1).f1.f1).length c370_2, .int .i64 (wrap64 ((wrap64 (x1_1 + 1)) + 1))] rfl (by (try simp only [List.map_toArray, List.map_cons, List.map_nil]); first | done | rfl | (simp only [List.length_drop, List.length_take]; rfl)) ?_; (with_reducible refine (laws_heldIntS.calls k1 _ _ ((rd_T63 l0 x5_1).f1.f1) (wrap64 ((wrap64 (x1_1 + 1)) + 1)) t373 _ ?side1 ?side2 A7.out).mono ?_); (case side1 => repeat (first | exact HR372_2.out | (with_reducible refine Kd.C_alloc ?_ _) | (with_reducible refine Kd.C_drewN ?_ _) | (with_reducible refine Kd.C_drew ?_))); (case side2 => exact HC372_2.out); rintro e w' ⟨rfl, ⟨nd, rfl⟩⟩; refine ⟨_, rfl, ?_⟩))
                go_ret
                exact ⟨by first | rfl | (simp; done) | (simp [*]; done), by repeat (first | exact Drawn0.refl _ | apply Drawn0.step)⟩
              · rw [if_neg c8] at H
                have c8b0 : decide (t373 < 0) = false := decide_eq_false c8
                clear c8
                by_cases c9 : ((rd_T63 l0 x5_1).f1.f2.f0) = t373
                · rw [if_pos c9] at H
                  have c9b0 : (((rd_T63 l0 x5_1).f1.f2.f0) == t373) = true := beq_iff_eq.mpr c9
                  have c9b1 : (((rd_T63 l0 x5_1).f1.f2.f0) != t373) = false := bne_eq_false_iff_eq.mpr c9
                  clear c9
                  by_cases c10 : ((rd_T63 l0 x5_1).f1.f2.f1) = (wrap64 (t373 + 1))
                  · rw [if_pos c10] at H
                    have c10b0 : (((rd_T63 l0 x5_1).f1.f2.f1) == (wrap64 (t373 + 1))) = true := beq_iff_eq.mpr c10
                    have c10b1 : (((rd_T63 l0 x5_1).f1.f2.f1) != (wrap64 (t373 + 1))) = false := bne_eq_false_iff_eq.mpr c10
                    clear c10
                    by_cases c11 : ((rd_T63 l0 x5_1).f1.f2.f2) = (wrap64 ((wrap64 (t373 + 1)) + 1))
                    · rw [if_pos c11] at H
                      have c11b0 : (((rd_T63 l0 x5_1).f1.f2.f2) == (wrap64 ((wrap64 (t373 + 1)) + 1))) = true := beq_iff_eq.mpr c11
                      have c11b1 : (((rd_T63 l0 x5_1).f1.f2.f2) != (wrap64 ((wrap64 (t373 + 1)) + 1))) = false := bne_eq_false_iff_eq.mpr c11
                      clear c11
                      by_cases c12 : ((rd_T63 l0 x5_1).f2) = (wrap64 ((wrap64 ((wrap64 (t373 + 1)) + 1)) + 1))
                      · rw [if_pos c12] at H
                        have c12b0 : (((rd_T63 l0 x5_1).f2) == (wrap64 ((wrap64 ((wrap64 (t373 + 1)) + 1)) + 1))) = true := beq_iff_eq.mpr c12
                        have c12b1 : (((rd_T63 l0 x5_1).f2) != (wrap64 ((wrap64 ((wrap64 (t373 + 1)) + 1)) + 1))) = false := bne_eq_false_iff_eq.mpr c12
                        clear c12
                        have H' := Aside0.mk H
                        clear H
                        have p370 : 0 ≤ (x5_1 : Int) := of_decide_eq_true (by first | (with_reducible assumption) | assumption)
                        have q370 : x5_1 < (l0.length : Int) := of_decide_eq_true (by first | (with_reducible assumption) | assumption)
                        obtain ⟨ad370, A370_2, c370_2, e370, hx370_0, hx370_1, hx370_2, hx370_3, hx370_4, hx370_5, hx370_6, hl370_2, hi370_2⟩ := at_T63 HR0.out x5_1 p370 q370
                        cases e370
                        have HR370_2 := Aside0.mk hi370_2
                        have HC370_2 := Aside0.mk hl370_2
                        clear hi370_2 hl370_2
                        replace p370 := eq_true p370
                        replace q370 := eq_true q370
                        have p371 : 0 ≤ (x5_1 : Int) := of_decide_eq_true (by first | (with_reducible assumption) | assumption)
                        have q371 : x5_1 < (l0.length : Int) := of_decide_eq_true (by first | (with_reducible assumption) | assumption)
                        obtain ⟨ad371, A371_2, c371_2, e371, hx371_0, hx371_1, hx371_2, hx371_3, hx371_4, hx371_5, hx371_6, hl371_2, hi371_2⟩ := at_T63 HR0.out x5_1 p371 q371
                        obtain rfl : ad370 = ad371 := (by injection e371)
                        have HR371_2 := Aside0.mk hi371_2
                        have HC371_2 := Aside0.mk hl371_2
                        clear hi371_2 hl371_2
                        replace p371 := eq_true p371
                        replace q371 := eq_true q371
                        have ea_ := Option.some.inj (hx370_2.symm.trans hx371_2)
                        injection ea_ with ea_ en_ ec_
                        subst ea_
                        subst ec_
                        clear en_
                        have p372 : 0 ≤ (x5_1 : Int) := of_decide_eq_true (by first | (with_reducible assumption) | assumption)
                        have q372 : x5_1 < (l0.length : Int) := of_decide_eq_true (by first | (with_reducible assumption) | assumption)
                        obtain ⟨ad372, A372_2, c372_2, e372, hx372_0, hx372_1, hx372_2, hx372_3, hx372_4, hx372_5, hx372_6, hl372_2, hi372_2⟩ := at_T63 HR0.out x5_1 p372 q372
                        obtain rfl : ad370 = ad372 := (by injection e372)
                        have HR372_2 := Aside0.mk hi372_2
                        have HC372_2 := Aside0.mk hl372_2
                        clear hi372_2 hl372_2
                        replace p372 := eq_true p372
                        replace q372 := eq_true q372
                        have ea_ := Option.some.inj (hx370_2.symm.trans hx372_2)
                        injection ea_ with ea_ en_ ec_
                        subst ea_
                        subst ec_
                        clear en_
                        go_wp2_with (first | ((with_reducible refine gate_callee (f := 49) rfl ?_); refine goesL_ (some 38) rfl rfl Try.func49 (by kernel_rfl) rfl #[.slice A370_2 ((rd_T63 l0 x5_1).f1.f1).length c370_2, .int .i64 (wrap64 ((wrap64 (x1_1 + 1)) + 1))] rfl (by (try simp only [List.map_toArray, List.map_cons, List.map_nil]); first | done | rfl | (simp only [List.length_drop, List.length_take]; rfl)) ?_; (with_reducible refine (laws_heldIntS.calls k1 _ _ ((rd_T63 l0 x5_1).f1.f1) (wrap64 ((wrap64 (x1_1 + 1)) + 1)) t373 _ ?side1 ?side2 A7.out).mono ?_); (case side1 => repeat (first | exact HR372_2.out | (with_reducible refine Kd.C_alloc ?_ _) | (with_reducible refine Kd.C_drewN ?_ _) | (with_reducible refine Kd.C_drew ?_))); (case side2 => exact HC372_2.out); rintro e w' ⟨rfl, ⟨nd, rfl⟩⟩; refine ⟨_, rfl, ?_⟩; have p374 : 0 ≤ (x5_1 : Int) := of_decide_eq_true (by first | (with_reducible assumption) | assumption); have q374 : x5_1 < (l0.length : Int) := of_decide_eq_true (by first | (with_reducible assumption) | assumption); obtain ⟨ad374, A374_2, c374_2, e374, hx374_0, hx374_1, hx374_2, hx374_3, hx374_4, hx374_5, hx374_6, hl374_2, hi374_2⟩ := at_T63 HR0.out x5_1 p374 q374; obtain rfl : ad370 = ad374 := (by injection e374); have HR374_2 := Aside0.mk hi374_2; have HC374_2 := Aside0.mk hl374_2; clear hi374_2 hl374_2; replace p374 := eq_true p374; replace q374 := eq_true q374; have ea_ := Option.some.inj (hx370_2.symm.trans hx374_2); injection ea_ with ea_ en_ ec_; subst ea_; subst ec_; clear en_; have p375 : 0 ≤ (x5_1 : Int) := of_decide_eq_true (by first | (with_reducible assumption) | assumption); have q375 : x5_1 < (l0.length : Int) := of_decide_eq_true (by first | (with_reducible assumption) | assumption); obtain ⟨ad375, A375_2, c375_2, e375, hx375_0, hx375_1, hx375_2, hx375_3, hx375_4, hx375_5, hx375_6, hl375_2, hi375_2⟩ := at_T63 HR0.out x5_1 p375 q375; obtain rfl : ad370 = ad375 := (by injection e375); have HR375_2 := Aside0.mk hi375_2; have HC375_2 := Aside0.mk hl375_2; clear hi375_2 hl375_2; replace p375 := eq_true p375; replace q375 := eq_true q375; have ea_ := Option.some.inj (hx370_2.symm.trans hx375_2); injection ea_ with ea_ en_ ec_; subst ea_; subst ec_; clear en_; have p376 : 0 ≤ (x5_1 : Int) := of_decide_eq_true (by first | (with_reducible assumption) | assumption); have q376 : x5_1 < (l0.length : Int) := of_decide_eq_true (by first | (with_reducible assumption) | assumption); obtain ⟨ad376, A376_2, c376_2, e376, hx376_0, hx376_1, hx376_2, hx376_3, hx376_4, hx376_5, hx376_6, hl376_2, hi376_2⟩ := at_T63 HR0.out x5_1 p376 q376; obtain rfl : ad370 = ad376 := (by injection e376); have HR376_2 := Aside0.mk hi376_2; have HC376_2 := Aside0.mk hl376_2; clear hi376_2 hl376_2; replace p376 := eq_true p376; replace q376 := eq_true q376; have ea_ := Option.some.inj (hx370_2.symm.trans hx376_2); injection ea_ with ea_ en_ ec_; subst ea_; subst ec_; clear en_; have p377 : 0 ≤ (x5_1 : Int) := of_decide_eq_true (by first | (with_reducible assumption) | assumption); have q377 : x5_1 < (l0.length : Int) := of_decide_eq_true (by first | (with_reducible assumption) | assumption); obtain ⟨ad377, A377_2, c377_2, e377, hx377_0, hx377_1, hx377_2, hx377_3, hx377_4, hx377_5, hx377_6, hl377_2, hi377_2⟩ := at_T63 HR0.out x5_1 p377 q377; obtain rfl : ad370 = ad377 := (by injection e377); have HR377_2 := Aside0.mk hi377_2; have HC377_2 := Aside0.mk hl377_2; clear hi377_2 hl377_2; replace p377 := eq_true p377; replace q377 := eq_true q377; have ea_ := Option.some.inj (hx370_2.symm.trans hx377_2); injection ea_ with ea_ en_ ec_; subst ea_; subst ec_; clear en_))
                        go_roundg k1
                        case measure => have := HK1.out; omega
                        case rel => exact ⟨(wrap64 ((wrap64 ((wrap64 ((wrap64 (t373 + 1)) + 1)) + 1)) + 1)), (wrap64 (x5_1 + 1)), (by first | rfl | (simp; done) | (simp [*]; done)), (by first | rfl | (simp; done) | (simp [*]; done)), H', ⟨by have := HK1.out; omega⟩, by repeat (first | exact Drawn0.refl _ | apply Drawn0.step)⟩
                      · rw [if_neg c12] at H
                        have c12b0 : (((rd_T63 l0 x5_1).f2) == (wrap64 ((wrap64 ((wrap64 (t373 + 1)) + 1)) + 1))) = false := beq_eq_false_iff_ne.mpr c12
                        have c12b1 : (((rd_T63 l0 x5_1).f2) != (wrap64 ((wrap64 ((wrap64 (t373 + 1)) + 1)) + 1))) = true := bne_iff_ne.mpr c12
                        obtain rfl := Option.some.inj H
                        have p370 : 0 ≤ (x5_1 : Int) := of_decide_eq_true (by first | (with_reducible assumption) | assumption)
                        have q370 : x5_1 < (l0.length : Int) := of_decide_eq_true (by first | (with_reducible assumption) | assumption)
                        obtain ⟨ad370, A370_2, c370_2, e370, hx370_0, hx370_1, hx370_2, hx370_3, hx370_4, hx370_5, hx370_6, hl370_2, hi370_2⟩ := at_T63 HR0.out x5_1 p370 q370
                        cases e370
                        have HR370_2 := Aside0.mk hi370_2
                        have HC370_2 := Aside0.mk hl370_2
                        clear hi370_2 hl370_2
                        replace p370 := eq_true p370
                        replace q370 := eq_true q370
                        have p371 : 0 ≤ (x5_1 : Int) := of_decide_eq_true (by first | (with_reducible assumption) | assumption)
                        have q371 : x5_1 < (l0.length : Int) := of_decide_eq_true (by first | (with_reducible assumption) | assumption)
                        obtain ⟨ad371, A371_2, c371_2, e371, hx371_0, hx371_1, hx371_2, hx371_3, hx371_4, hx371_5, hx371_6, hl371_2, hi371_2⟩ := at_T63 HR0.out x5_1 p371 q371
                        obtain rfl : ad370 = ad371 := (by injection e371)
                        have HR371_2 := Aside0.mk hi371_2
                        have HC371_2 := Aside0.mk hl371_2
                        clear hi371_2 hl371_2
                        replace p371 := eq_true p371
                        replace q371 := eq_true q371
                        have ea_ := Option.some.inj (hx370_2.symm.trans hx371_2)
                        injection ea_ with ea_ en_ ec_
                        subst ea_
                        subst ec_
                        clear en_
                        have p372 : 0 ≤ (x5_1 : Int) := of_decide_eq_true (by first | (with_reducible assumption) | assumption)
                        have q372 : x5_1 < (l0.length : Int) := of_decide_eq_true (by first | (with_reducible assumption) | assumption)
                        obtain ⟨ad372, A372_2, c372_2, e372, hx372_0, hx372_1, hx372_2, hx372_3, hx372_4, hx372_5, hx372_6, hl372_2, hi372_2⟩ := at_T63 HR0.out x5_1 p372 q372
                        obtain rfl : ad370 = ad372 := (by injection e372)
                        have HR372_2 := Aside0.mk hi372_2
                        have HC372_2 := Aside0.mk hl372_2
                        clear hi372_2 hl372_2
                        replace p372 := eq_true p372
                        replace q372 := eq_true q372
                        have ea_ := Option.some.inj (hx370_2.symm.trans hx372_2)
                        injection ea_ with ea_ en_ ec_
                        subst ea_
                        subst ec_
                        clear en_
                        go_wp2_with (first | ((with_reducible refine gate_callee (f := 49) rfl ?_); refine goesL_ (some 38) rfl rfl Try.func49 (by kernel_rfl) rfl #[.slice A370_2 ((rd_T63 l0 x5_1).f1.f1).length c370_2, .int .i64 (wrap64 ((wrap64 (x1_1 + 1)) + 1))] rfl (by (try simp only [List.map_toArray, List.map_cons, List.map_nil]); first | done | rfl | (simp only [List.length_drop, List.length_take]; rfl)) ?_; (with_reducible refine (laws_heldIntS.calls k1 _ _ ((rd_T63 l0 x5_1).f1.f1) (wrap64 ((wrap64 (x1_1 + 1)) + 1)) t373 _ ?side1 ?side2 A7.out).mono ?_); (case side1 => repeat (first | exact HR372_2.out | (with_reducible refine Kd.C_alloc ?_ _) | (with_reducible refine Kd.C_drewN ?_ _) | (with_reducible refine Kd.C_drew ?_))); (case side2 => exact HC372_2.out); rintro e w' ⟨rfl, ⟨nd, rfl⟩⟩; refine ⟨_, rfl, ?_⟩; have p374 : 0 ≤ (x5_1 : Int) := of_decide_eq_true (by first | (with_reducible assumption) | assumption); have q374 : x5_1 < (l0.length : Int) := of_decide_eq_true (by first | (with_reducible assumption) | assumption); obtain ⟨ad374, A374_2, c374_2, e374, hx374_0, hx374_1, hx374_2, hx374_3, hx374_4, hx374_5, hx374_6, hl374_2, hi374_2⟩ := at_T63 HR0.out x5_1 p374 q374; obtain rfl : ad370 = ad374 := (by injection e374); have HR374_2 := Aside0.mk hi374_2; have HC374_2 := Aside0.mk hl374_2; clear hi374_2 hl374_2; replace p374 := eq_true p374; replace q374 := eq_true q374; have ea_ := Option.some.inj (hx370_2.symm.trans hx374_2); injection ea_ with ea_ en_ ec_; subst ea_; subst ec_; clear en_; have p375 : 0 ≤ (x5_1 : Int) := of_decide_eq_true (by first | (with_reducible assumption) | assumption); have q375 : x5_1 < (l0.length : Int) := of_decide_eq_true (by first | (with_reducible assumption) | assumption); obtain ⟨ad375, A375_2, c375_2, e375, hx375_0, hx375_1, hx375_2, hx375_3, hx375_4, hx375_5, hx375_6, hl375_2, hi375_2⟩ := at_T63 HR0.out x5_1 p375 q375; obtain rfl : ad370 = ad375 := (by injection e375); have HR375_2 := Aside0.mk hi375_2; have HC375_2 := Aside0.mk hl375_2; clear hi375_2 hl375_2; replace p375 := eq_true p375; replace q375 := eq_true q375; have ea_ := Option.some.inj (hx370_2.symm.trans hx375_2); injection ea_ with ea_ en_ ec_; subst ea_; subst ec_; clear en_; have p376 : 0 ≤ (x5_1 : Int) := of_decide_eq_true (by first | (with_reducible assumption) | assumption); have q376 : x5_1 < (l0.length : Int) := of_decide_eq_true (by first | (with_reducible assumption) | assumption); obtain ⟨ad376, A376_2, c376_2, e376, hx376_0, hx376_1, hx376_2, hx376_3, hx376_4, hx376_5, hx376_6, hl376_2, hi376_2⟩ := at_T63 HR0.out x5_1 p376 q376; obtain rfl : ad370 = ad376 := (by injection e376); have HR376_2 := Aside0.mk hi376_2; have HC376_2 := Aside0.mk hl376_2; clear hi376_2 hl376_2; replace p376 := eq_true p376; replace q376 := eq_true q376; have ea_ := Option.some.inj (hx370_2.symm.trans hx376_2); injection ea_ with ea_ en_ ec_; subst ea_; subst ec_; clear en_; have p377 : 0 ≤ (x5_1 : Int) := of_decide_eq_true (by first | (with_reducible assumption) | assumption); have q377 : x5_1 < (l0.length : Int) := of_decide_eq_true (by first | (with_reducible assumption) | assumption); obtain ⟨ad377, A377_2, c377_2, e377, hx377_0, hx377_1, hx377_2, hx377_3, hx377_4, hx377_5, hx377_6, hl377_2, hi377_2⟩ := at_T63 HR0.out x5_1 p377 q377; obtain rfl : ad370 = ad377 := (by injection e377); have HR377_2 := Aside0.mk hi377_2; have HC377_2 := Aside0.mk hl377_2; clear hi377_2 hl377_2; replace p377 := eq_true p377; replace q377 := eq_true q377; have ea_ := Option.some.inj (hx370_2.symm.trans hx377_2); injection ea_ with ea_ en_ ec_; subst ea_; subst ec_; clear en_))
                        go_ret
                        exact ⟨by first | rfl | (simp; done) | (simp [*]; done), by repeat (first | exact Drawn0.refl _ | apply Drawn0.step)⟩
                    · rw [if_neg c11] at H
                      have c11b0 : (((rd_T63 l0 x5_1).f1.f2.f2) == (wrap64 ((wrap64 (t373 + 1)) + 1))) = false := beq_eq_false_iff_ne.mpr c11
                      have c11b1 : (((rd_T63 l0 x5_1).f1.f2.f2) != (wrap64 ((wrap64 (t373 + 1)) + 1))) = true := bne_iff_ne.mpr c11
                      obtain rfl := Option.some.inj H
                      have p370 : 0 ≤ (x5_1 : Int) := of_decide_eq_true (by first | (with_reducible assumption) | assumption)
                      have q370 : x5_1 < (l0.length : Int) := of_decide_eq_true (by first | (with_reducible assumption) | assumption)
                      obtain ⟨ad370, A370_2, c370_2, e370, hx370_0, hx370_1, hx370_2, hx370_3, hx370_4, hx370_5, hx370_6, hl370_2, hi370_2⟩ := at_T63 HR0.out x5_1 p370 q370
                      cases e370
                      have HR370_2 := Aside0.mk hi370_2
                      have HC370_2 := Aside0.mk hl370_2
                      clear hi370_2 hl370_2
                      replace p370 := eq_true p370
                      replace q370 := eq_true q370
                      have p371 : 0 ≤ (x5_1 : Int) := of_decide_eq_true (by first | (with_reducible assumption) | assumption)
                      have q371 : x5_1 < (l0.length : Int) := of_decide_eq_true (by first | (with_reducible assumption) | assumption)
                      obtain ⟨ad371, A371_2, c371_2, e371, hx371_0, hx371_1, hx371_2, hx371_3, hx371_4, hx371_5, hx371_6, hl371_2, hi371_2⟩ := at_T63 HR0.out x5_1 p371 q371
                      obtain rfl : ad370 = ad371 := (by injection e371)
                      have HR371_2 := Aside0.mk hi371_2
                      have HC371_2 := Aside0.mk hl371_2
                      clear hi371_2 hl371_2
                      replace p371 := eq_true p371
                      replace q371 := eq_true q371
                      have ea_ := Option.some.inj (hx370_2.symm.trans hx371_2)
                      injection ea_ with ea_ en_ ec_
                      subst ea_
                      subst ec_
                      clear en_
                      have p372 : 0 ≤ (x5_1 : Int) := of_decide_eq_true (by first | (with_reducible assumption) | assumption)
                      have q372 : x5_1 < (l0.length : Int) := of_decide_eq_true (by first | (with_reducible assumption) | assumption)
                      obtain ⟨ad372, A372_2, c372_2, e372, hx372_0, hx372_1, hx372_2, hx372_3, hx372_4, hx372_5, hx372_6, hl372_2, hi372_2⟩ := at_T63 HR0.out x5_1 p372 q372
                      obtain rfl : ad370 = ad372 := (by injection e372)
                      have HR372_2 := Aside0.mk hi372_2
                      have HC372_2 := Aside0.mk hl372_2
                      clear hi372_2 hl372_2
                      replace p372 := eq_true p372
                      replace q372 := eq_true q372
                      have ea_ := Option.some.inj (hx370_2.symm.trans hx372_2)
                      injection ea_ with ea_ en_ ec_
                      subst ea_
                      subst ec_
                      clear en_
                      go_wp2_with (first | ((with_reducible refine gate_callee (f := 49) rfl ?_); refine goesL_ (some 38) rfl rfl Try.func49 (by kernel_rfl) rfl #[.slice A370_2 ((rd_T63 l0 x5_1).f1.f1).length c370_2, .int .i64 (wrap64 ((wrap64 (x1_1 + 1)) + 1))] rfl (by (try simp only [List.map_toArray, List.map_cons, List.map_nil]); first | done | rfl | (simp only [List.length_drop, List.length_take]; rfl)) ?_; (with_reducible refine (laws_heldIntS.calls k1 _ _ ((rd_T63 l0 x5_1).f1.f1) (wrap64 ((wrap64 (x1_1 + 1)) + 1)) t373 _ ?side1 ?side2 A7.out).mono ?_); (case side1 => repeat (first | exact HR372_2.out | (with_reducible refine Kd.C_alloc ?_ _) | (with_reducible refine Kd.C_drewN ?_ _) | (with_reducible refine Kd.C_drew ?_))); (case side2 => exact HC372_2.out); rintro e w' ⟨rfl, ⟨nd, rfl⟩⟩; refine ⟨_, rfl, ?_⟩; have p374 : 0 ≤ (x5_1 : Int) := of_decide_eq_true (by first | (with_reducible assumption) | assumption); have q374 : x5_1 < (l0.length : Int) := of_decide_eq_true (by first | (with_reducible assumption) | assumption); obtain ⟨ad374, A374_2, c374_2, e374, hx374_0, hx374_1, hx374_2, hx374_3, hx374_4, hx374_5, hx374_6, hl374_2, hi374_2⟩ := at_T63 HR0.out x5_1 p374 q374; obtain rfl : ad370 = ad374 := (by injection e374); have HR374_2 := Aside0.mk hi374_2; have HC374_2 := Aside0.mk hl374_2; clear hi374_2 hl374_2; replace p374 := eq_true p374; replace q374 := eq_true q374; have ea_ := Option.some.inj (hx370_2.symm.trans hx374_2); injection ea_ with ea_ en_ ec_; subst ea_; subst ec_; clear en_; have p375 : 0 ≤ (x5_1 : Int) := of_decide_eq_true (by first | (with_reducible assumption) | assumption); have q375 : x5_1 < (l0.length : Int) := of_decide_eq_true (by first | (with_reducible assumption) | assumption); obtain ⟨ad375, A375_2, c375_2, e375, hx375_0, hx375_1, hx375_2, hx375_3, hx375_4, hx375_5, hx375_6, hl375_2, hi375_2⟩ := at_T63 HR0.out x5_1 p375 q375; obtain rfl : ad370 = ad375 := (by injection e375); have HR375_2 := Aside0.mk hi375_2; have HC375_2 := Aside0.mk hl375_2; clear hi375_2 hl375_2; replace p375 := eq_true p375; replace q375 := eq_true q375; have ea_ := Option.some.inj (hx370_2.symm.trans hx375_2); injection ea_ with ea_ en_ ec_; subst ea_; subst ec_; clear en_; have p376 : 0 ≤ (x5_1 : Int) := of_decide_eq_true (by first | (with_reducible assumption) | assumption); have q376 : x5_1 < (l0.length : Int) := of_decide_eq_true (by first | (with_reducible assumption) | assumption); obtain ⟨ad376, A376_2, c376_2, e376, hx376_0, hx376_1, hx376_2, hx376_3, hx376_4, hx376_5, hx376_6, hl376_2, hi376_2⟩ := at_T63 HR0.out x5_1 p376 q376; obtain rfl : ad370 = ad376 := (by injection e376); have HR376_2 := Aside0.mk hi376_2; have HC376_2 := Aside0.mk hl376_2; clear hi376_2 hl376_2; replace p376 := eq_true p376; replace q376 := eq_true q376; have ea_ := Option.some.inj (hx370_2.symm.trans hx376_2); injection ea_ with ea_ en_ ec_; subst ea_; subst ec_; clear en_))
                      go_ret
                      exact ⟨by first | rfl | (simp; done) | (simp [*]; done), by repeat (first | exact Drawn0.refl _ | apply Drawn0.step)⟩
                  · rw [if_neg c10] at H
                    have c10b0 : (((rd_T63 l0 x5_1).f1.f2.f1) == (wrap64 (t373 + 1))) = false := beq_eq_false_iff_ne.mpr c10
                    have c10b1 : (((rd_T63 l0 x5_1).f1.f2.f1) != (wrap64 (t373 + 1))) = true := bne_iff_ne.mpr c10
                    obtain rfl := Option.some.inj H
                    have p370 : 0 ≤ (x5_1 : Int) := of_decide_eq_true (by first | (with_reducible assumption) | assumption)
                    have q370 : x5_1 < (l0.length : Int) := of_decide_eq_true (by first | (with_reducible assumption) | assumption)
                    obtain ⟨ad370, A370_2, c370_2, e370, hx370_0, hx370_1, hx370_2, hx370_3, hx370_4, hx370_5, hx370_6, hl370_2, hi370_2⟩ := at_T63 HR0.out x5_1 p370 q370
                    cases e370
                    have HR370_2 := Aside0.mk hi370_2
                    have HC370_2 := Aside0.mk hl370_2
                    clear hi370_2 hl370_2
                    replace p370 := eq_true p370
                    replace q370 := eq_true q370
                    have p371 : 0 ≤ (x5_1 : Int) := of_decide_eq_true (by first | (with_reducible assumption) | assumption)
                    have q371 : x5_1 < (l0.length : Int) := of_decide_eq_true (by first | (with_reducible assumption) | assumption)
                    obtain ⟨ad371, A371_2, c371_2, e371, hx371_0, hx371_1, hx371_2, hx371_3, hx371_4, hx371_5, hx371_6, hl371_2, hi371_2⟩ := at_T63 HR0.out x5_1 p371 q371
                    obtain rfl : ad370 = ad371 := (by injection e371)
                    have HR371_2 := Aside0.mk hi371_2
                    have HC371_2 := Aside0.mk hl371_2
                    clear hi371_2 hl371_2
                    replace p371 := eq_true p371
                    replace q371 := eq_true q371
                    have ea_ := Option.some.inj (hx370_2.symm.trans hx371_2)
                    injection ea_ with ea_ en_ ec_
                    subst ea_
                    subst ec_
                    clear en_
                    have p372 : 0 ≤ (x5_1 : Int) := of_decide_eq_true (by first | (with_reducible assumption) | assumption)
                    have q372 : x5_1 < (l0.length : Int) := of_decide_eq_true (by first | (with_reducible assumption) | assumption)
                    obtain ⟨ad372, A372_2, c372_2, e372, hx372_0, hx372_1, hx372_2, hx372_3, hx372_4, hx372_5, hx372_6, hl372_2, hi372_2⟩ := at_T63 HR0.out x5_1 p372 q372
                    obtain rfl : ad370 = ad372 := (by injection e372)
                    have HR372_2 := Aside0.mk hi372_2
                    have HC372_2 := Aside0.mk hl372_2
                    clear hi372_2 hl372_2
                    replace p372 := eq_true p372
                    replace q372 := eq_true q372
                    have ea_ := Option.some.inj (hx370_2.symm.trans hx372_2)
                    injection ea_ with ea_ en_ ec_
                    subst ea_
                    subst ec_
                    clear en_
                    go_wp2_with (first | ((with_reducible refine gate_callee (f := 49) rfl ?_); refine goesL_ (some 38) rfl rfl Try.func49 (by kernel_rfl) rfl #[.slice A370_2 ((rd_T63 l0 x5_1).f1.f1).length c370_2, .int .i64 (wrap64 ((wrap64 (x1_1 + 1)) + 1))] rfl (by (try simp only [List.map_toArray, List.map_cons, List.map_nil]); first | done | rfl | (simp only [List.length_drop, List.length_take]; rfl)) ?_; (with_reducible refine (laws_heldIntS.calls k1 _ _ ((rd_T63 l0 x5_1).f1.f1) (wrap64 ((wrap64 (x1_1 + 1)) + 1)) t373 _ ?side1 ?side2 A7.out).mono ?_); (case side1 => repeat (first | exact HR372_2.out | (with_reducible refine Kd.C_alloc ?_ _) | (with_reducible refine Kd.C_drewN ?_ _) | (with_reducible refine Kd.C_drew ?_))); (case side2 => exact HC372_2.out); rintro e w' ⟨rfl, ⟨nd, rfl⟩⟩; refine ⟨_, rfl, ?_⟩; have p374 : 0 ≤ (x5_1 : Int) := of_decide_eq_true (by first | (with_reducible assumption) | assumption); have q374 : x5_1 < (l0.length : Int) := of_decide_eq_true (by first | (with_reducible assumption) | assumption); obtain ⟨ad374, A374_2, c374_2, e374, hx374_0, hx374_1, hx374_2, hx374_3, hx374_4, hx374_5, hx374_6, hl374_2, hi374_2⟩ := at_T63 HR0.out x5_1 p374 q374; obtain rfl : ad370 = ad374 := (by injection e374); have HR374_2 := Aside0.mk hi374_2; have HC374_2 := Aside0.mk hl374_2; clear hi374_2 hl374_2; replace p374 := eq_true p374; replace q374 := eq_true q374; have ea_ := Option.some.inj (hx370_2.symm.trans hx374_2); injection ea_ with ea_ en_ ec_; subst ea_; subst ec_; clear en_; have p375 : 0 ≤ (x5_1 : Int) := of_decide_eq_true (by first | (with_reducible assumption) | assumption); have q375 : x5_1 < (l0.length : Int) := of_decide_eq_true (by first | (with_reducible assumption) | assumption); obtain ⟨ad375, A375_2, c375_2, e375, hx375_0, hx375_1, hx375_2, hx375_3, hx375_4, hx375_5, hx375_6, hl375_2, hi375_2⟩ := at_T63 HR0.out x5_1 p375 q375; obtain rfl : ad370 = ad375 := (by injection e375); have HR375_2 := Aside0.mk hi375_2; have HC375_2 := Aside0.mk hl375_2; clear hi375_2 hl375_2; replace p375 := eq_true p375; replace q375 := eq_true q375; have ea_ := Option.some.inj (hx370_2.symm.trans hx375_2); injection ea_ with ea_ en_ ec_; subst ea_; subst ec_; clear en_))
                    go_ret
                    exact ⟨by first | rfl | (simp; done) | (simp [*]; done), by repeat (first | exact Drawn0.refl _ | apply Drawn0.step)⟩
                · rw [if_neg c9] at H
                  have c9b0 : (((rd_T63 l0 x5_1).f1.f2.f0) == t373) = false := beq_eq_false_iff_ne.mpr c9
                  have c9b1 : (((rd_T63 l0 x5_1).f1.f2.f0) != t373) = true := bne_iff_ne.mpr c9
                  obtain rfl := Option.some.inj H
                  have p370 : 0 ≤ (x5_1 : Int) := of_decide_eq_true (by first | (with_reducible assumption) | assumption)
                  have q370 : x5_1 < (l0.length : Int) := of_decide_eq_true (by first | (with_reducible assumption) | assumption)
                  obtain ⟨ad370, A370_2, c370_2, e370, hx370_0, hx370_1, hx370_2, hx370_3, hx370_4, hx370_5, hx370_6, hl370_2, hi370_2⟩ := at_T63 HR0.out x5_1 p370 q370
                  cases e370
                  have HR370_2 := Aside0.mk hi370_2
                  have HC370_2 := Aside0.mk hl370_2
                  clear hi370_2 hl370_2
                  replace p370 := eq_true p370
                  replace q370 := eq_true q370
                  have p371 : 0 ≤ (x5_1 : Int) := of_decide_eq_true (by first | (with_reducible assumption) | assumption)
                  have q371 : x5_1 < (l0.length : Int) := of_decide_eq_true (by first | (with_reducible assumption) | assumption)
                  obtain ⟨ad371, A371_2, c371_2, e371, hx371_0, hx371_1, hx371_2, hx371_3, hx371_4, hx371_5, hx371_6, hl371_2, hi371_2⟩ := at_T63 HR0.out x5_1 p371 q371
                  obtain rfl : ad370 = ad371 := (by injection e371)
                  have HR371_2 := Aside0.mk hi371_2
                  have HC371_2 := Aside0.mk hl371_2
                  clear hi371_2 hl371_2
                  replace p371 := eq_true p371
                  replace q371 := eq_true q371
                  have ea_ := Option.some.inj (hx370_2.symm.trans hx371_2)
                  injection ea_ with ea_ en_ ec_
                  subst ea_
                  subst ec_
                  clear en_
                  have p372 : 0 ≤ (x5_1 : Int) := of_decide_eq_true (by first | (with_reducible assumption) | assumption)
                  have q372 : x5_1 < (l0.length : Int) := of_decide_eq_true (by first | (with_reducible assumption) | assumption)
                  obtain ⟨ad372, A372_2, c372_2, e372, hx372_0, hx372_1, hx372_2, hx372_3, hx372_4, hx372_5, hx372_6, hl372_2, hi372_2⟩ := at_T63 HR0.out x5_1 p372 q372
                  obtain rfl : ad370 = ad372 := (by injection e372)
                  have HR372_2 := Aside0.mk hi372_2
                  have HC372_2 := Aside0.mk hl372_2
                  clear hi372_2 hl372_2
                  replace p372 := eq_true p372
                  replace q372 := eq_true q372
                  have ea_ := Option.some.inj (hx370_2.symm.trans hx372_2)
                  injection ea_ with ea_ en_ ec_
                  subst ea_
                  subst ec_
                  clear en_
                  go_wp2_with (first | ((with_reducible refine gate_callee (f := 49) rfl ?_); refine goesL_ (some 38) rfl rfl Try.func49 (by kernel_rfl) rfl #[.slice A370_2 ((rd_T63 l0 x5_1).f1.f1).length c370_2, .int .i64 (wrap64 ((wrap64 (x1_1 + 1)) + 1))] rfl (by (try simp only [List.map_toArray, List.map_cons, List.map_nil]); first | done | rfl | (simp only [List.length_drop, List.length_take]; rfl)) ?_; (with_reducible refine (laws_heldIntS.calls k1 _ _ ((rd_T63 l0 x5_1).f1.f1) (wrap64 ((wrap64 (x1_1 + 1)) + 1)) t373 _ ?side1 ?side2 A7.out).mono ?_); (case side1 => repeat (first | exact HR372_2.out | (with_reducible refine Kd.C_alloc ?_ _) | (with_reducible refine Kd.C_drewN ?_ _) | (with_reducible refine Kd.C_drew ?_))); (case side2 => exact HC372_2.out); rintro e w' ⟨rfl, ⟨nd, rfl⟩⟩; refine ⟨_, rfl, ?_⟩; have p374 : 0 ≤ (x5_1 : Int) := of_decide_eq_true (by first | (with_reducible assumption) | assumption); have q374 : x5_1 < (l0.length : Int) := of_decide_eq_true (by first | (with_reducible assumption) | assumption); obtain ⟨ad374, A374_2, c374_2, e374, hx374_0, hx374_1, hx374_2, hx374_3, hx374_4, hx374_5, hx374_6, hl374_2, hi374_2⟩ := at_T63 HR0.out x5_1 p374 q374; obtain rfl : ad370 = ad374 := (by injection e374); have HR374_2 := Aside0.mk hi374_2; have HC374_2 := Aside0.mk hl374_2; clear hi374_2 hl374_2; replace p374 := eq_true p374; replace q374 := eq_true q374; have ea_ := Option.some.inj (hx370_2.symm.trans hx374_2); injection ea_ with ea_ en_ ec_; subst ea_; subst ec_; clear en_))
                  go_ret
                  exact ⟨by first | rfl | (simp; done) | (simp [*]; done), by repeat (first | exact Drawn0.refl _ | apply Drawn0.step)⟩
            · rw [if_neg c6] at H
              have c6b0 : (((rd_T63 l0 x5_1).f1.f0) == (wrap64 (x1_1 + 1))) = false := beq_eq_false_iff_ne.mpr c6
              have c6b1 : (((rd_T63 l0 x5_1).f1.f0) != (wrap64 (x1_1 + 1))) = true := bne_iff_ne.mpr c6
              obtain rfl := Option.some.inj H
              have p370 : 0 ≤ (x5_1 : Int) := of_decide_eq_true (by first | (with_reducible assumption) | assumption)
              have q370 : x5_1 < (l0.length : Int) := of_decide_eq_true (by first | (with_reducible assumption) | assumption)
              obtain ⟨ad370, A370_2, c370_2, e370, hx370_0, hx370_1, hx370_2, hx370_3, hx370_4, hx370_5, hx370_6, hl370_2, hi370_2⟩ := at_T63 HR0.out x5_1 p370 q370
              cases e370
              have HR370_2 := Aside0.mk hi370_2
              have HC370_2 := Aside0.mk hl370_2
              clear hi370_2 hl370_2
              replace p370 := eq_true p370
              replace q370 := eq_true q370
              have p371 : 0 ≤ (x5_1 : Int) := of_decide_eq_true (by first | (with_reducible assumption) | assumption)
              have q371 : x5_1 < (l0.length : Int) := of_decide_eq_true (by first | (with_reducible assumption) | assumption)
              obtain ⟨ad371, A371_2, c371_2, e371, hx371_0, hx371_1, hx371_2, hx371_3, hx371_4, hx371_5, hx371_6, hl371_2, hi371_2⟩ := at_T63 HR0.out x5_1 p371 q371
              obtain rfl : ad370 = ad371 := (by injection e371)
              have HR371_2 := Aside0.mk hi371_2
              have HC371_2 := Aside0.mk hl371_2
              clear hi371_2 hl371_2
              replace p371 := eq_true p371
              replace q371 := eq_true q371
              have ea_ := Option.some.inj (hx370_2.symm.trans hx371_2)
              injection ea_ with ea_ en_ ec_
              subst ea_
              subst ec_
              clear en_
              go_wp2
              go_ret
              exact ⟨by first | rfl | (simp; done) | (simp [*]; done), by repeat (first | exact Drawn0.refl _ | apply Drawn0.step)⟩
          · rw [if_neg c5] at H
            have c5b0 : (((rd_T63 l0 x5_1).f0) == x1_1) = false := beq_eq_false_iff_ne.mpr c5
            have c5b1 : (((rd_T63 l0 x5_1).f0) != x1_1) = true := bne_iff_ne.mpr c5
            obtain rfl := Option.some.inj H
            have p370 : 0 ≤ (x5_1 : Int) := of_decide_eq_true (by first | (with_reducible assumption) | assumption)
            have q370 : x5_1 < (l0.length : Int) := of_decide_eq_true (by first | (with_reducible assumption) | assumption)
            obtain ⟨ad370, A370_2, c370_2, e370, hx370_0, hx370_1, hx370_2, hx370_3, hx370_4, hx370_5, hx370_6, hl370_2, hi370_2⟩ := at_T63 HR0.out x5_1 p370 q370
            cases e370
            have HR370_2 := Aside0.mk hi370_2
            have HC370_2 := Aside0.mk hl370_2
            clear hi370_2 hl370_2
            replace p370 := eq_true p370
            replace q370 := eq_true q370
            go_wp2
            go_ret
            exact ⟨by first | rfl | (simp; done) | (simp [*]; done), by repeat (first | exact Drawn0.refl _ | apply Drawn0.step)⟩
        · rw [if_neg c4] at H
          exact absurd H (by simp)
      · rw [if_neg c3] at H
        have c3b0 : decide (x5_1 < (l0.length : Int)) = false := decide_eq_false c3
        clear c3
        obtain rfl := Option.some.inj H
        go_wp2
        go_ret
        exact ⟨by first | rfl | (simp; done) | (simp [*]; done), by repeat (first | exact Drawn0.refl _ | apply Drawn0.step)⟩

end Go.Proofs.Ytlpfobakbgipbaa.QFnExactPutPart
