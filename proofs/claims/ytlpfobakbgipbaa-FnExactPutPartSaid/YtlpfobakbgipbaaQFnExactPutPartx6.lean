/- The Go functions that the law FnExactPutPart comes to, each as a Lean function, with a proof that the call does what it says; written by a program of this session over the print of the kit. No conditions. -/
import Derived.Test.YtlpfobakbgipbaaQFnExactPutPartx0
import Derived.Test.YtlpfobakbgipbaaQFnExactPutPartx1
import Derived.Test.YtlpfobakbgipbaaQFnExactPutPartx5
namespace Go.Proofs.Ytlpfobakbgipbaa.QFnExactPutPart
open Go.RowKit Go.Proofs.YtlpfobakbgipbaaW.PrintWords Go.Proofs.YtlpfobakbgipbaaW.PrintLast Go.Proofs.YtlpfobakbgipbaaW.PrintMore
attribute [local go_sem] max2_int min2_int max_two min_two max_three min_three max_four min_four   -- for this text's walks alone
set_option linter.unusedVariables false
set_option linter.unusedSimpArgs false

attribute [local go_sem high] eqA34
/-! ### impl_IsResource: function 62 -/
def impl_IsResource.j0 : Nat → Int → Bool → Int → List Int → Int → Int → Int → Option (Bool)
  | 0, _, _, _, _, _, _, _ => none
  | k + 1, x4, x5, x272000, x272001, x272002, x272003, x272004 => if x5 = true then (if (x272001.length : Int) ≤ 6 then ((impl_allIn.f k x272001 0 255).bind fun t272 => (if t272 = true then (some (x272002 == 0 && (x272003 == 0 && (x272004 == 0)))) else (some false))) else (some false)) else (if x4 = 3 then (if (x272001.length : Int) = 0 then ((impl_IsAddress.f x272002 x272003 x272004).bind fun t273 => (some t273)) else (some false)) else (if x4 = 4 then (if (x272001.length : Int) = 0 then (some (x272002 == 0 && (x272003 == 0 && (x272004 == 0)))) else (some false)) else (some false)))
def impl_IsResource.f (k : Nat) (a0_0 : Int) (l0_1 : List Int) (a0_2 : Int) (a0_3 : Int) (a0_4 : Int) : Option (Bool) := if a0_0 = 1 then (impl_IsResource.j0 k a0_0 (a0_0 == 1) a0_0 l0_1 a0_2 a0_3 a0_4) else (impl_IsResource.j0 k a0_0 (a0_0 == 2) a0_0 l0_1 a0_2 a0_3 a0_4)
theorem impl_IsResource.mono_l : ∀ k, (∀ y0 y1 y2 y3 y4 y5 y6, LeO (impl_IsResource.j0 k y0 y1 y2 y3 y4 y5 y6) (impl_IsResource.j0 (k + 1) y0 y1 y2 y3 y4 y5 y6))
  | 0 => fun _ _ _ _ _ _ _ r h => by simp [impl_IsResource.j0] at h
  | k + 1 => by
    have ih0 := impl_IsResource.mono_l k
    · intro y0 y1 y2 y3 y4 y5 y6
      unfold impl_IsResource.j0
      repeat' first
      | (with_reducible exact ih0 _ _ _ _ _ _ _)
      | (with_reducible exact impl_allIn.mono _ _ _ _)
      | (with_reducible exact LeO.refl _)
      | (with_reducible exact LeO.none _)
      | (with_reducible refine LeO.ite ?_ ?_)
      | (with_reducible refine LeO.bind ?_ (fun _ => ?_))
      | exact ih0 _ _ _ _ _ _ _
      | exact impl_allIn.mono _ _ _ _
      | exact LeO.none _
      | refine LeO.ite ?_ ?_
      | refine LeO.bind ?_ (fun _ => ?_)
theorem impl_IsResource.mono : ∀ a0 a1 a2 a3 a4 k, LeO (impl_IsResource.f k a0 a1 a2 a3 a4) (impl_IsResource.f (k + 1) a0 a1 a2 a3 a4) := by
  intro a0 a1 a2 a3 a4 k
  have ih0 := impl_IsResource.mono_l k
  unfold impl_IsResource.f
  repeat' first
      | (with_reducible exact ih0 _ _ _ _ _ _ _)
      | (with_reducible exact impl_allIn.mono _ _ _ _)
      | (with_reducible exact LeO.refl _)
      | (with_reducible exact LeO.none _)
      | (with_reducible refine LeO.ite ?_ ?_)
      | (with_reducible refine LeO.bind ?_ (fun _ => ?_))
      | exact ih0 _ _ _ _ _ _ _
      | exact impl_allIn.mono _ _ _ _
      | exact LeO.none _
      | refine LeO.ite ?_ ?_
      | refine LeO.bind ?_ (fun _ => ?_)
set_option maxHeartbeats 8000000 in
set_option maxRecDepth 100000 in
theorem impl_IsResource.calls (k : Nat) (a0_0 : Int) (A0_1 : Option Addr) (c0_1 : Nat) (l0_1 : List Int) (a0_2 : Int) (a0_3 : Int) (a0_4 : Int) (r : Bool) (w : World) (hr0_1 : Kd.C (Kd.int .i64) w A0_1 l0_1.length l0_1) (hc0_1 : l0_1.length ≤ c0_1) (h : impl_IsResource.f k a0_0 l0_1 a0_2 a0_3 a0_4 = some r) :
    Calls Try.prog 62 #[.agg #[.int .i64 a0_0, .slice A0_1 l0_1.length c0_1, .int .i64 a0_2, .int .i64 a0_3, .int .i64 a0_4]] w fun e w' => e = .returned (.bool r) ∧ Below w.heap.size w w' := by
  have hu36 := Try.underlying36
  have hu34 := Try.underlying34
  have HR0_1 := Aside0.mk hr0_1
  have HC0_1 := Aside0.mk hc0_1
  clear hr0_1 hc0_1
  have HB := Aside0.mk (Below.refl w.heap.size w)
  have H : (if a0_0 = 1 then (impl_IsResource.j0 k a0_0 (a0_0 == 1) a0_0 l0_1 a0_2 a0_3 a0_4) else (impl_IsResource.j0 k a0_0 (a0_0 == 2) a0_0 l0_1 a0_2 a0_3 a0_4)) = some r := h
  clear h
  have HC2 := Aside0.mk H
  clear H
  go_enter Try.func62, Try.ntmps62
  go_upto_if 5 with (first | ((with_reducible refine gate_dst (N := 1) rfl ?_); refine box_event ?hg (N := 1) ?hd (cs := #[.int .i64 a0_0, .slice A0_1 l0_1.length c0_1, .int .i64 a0_2, .int .i64 a0_3, .int .i64 a0_4]) (t := 36) ?hr ?_; (case hd => rfl); (case hg => rfl); (case hr => first | (go_simp; done) | (go_simp; rfl)); intro gb271 hg w3 hbox hb; have n0_ := Aside0.mk (below_step (by repeat (first | (with_reducible first | exact HB.out | apply below_alloc | apply pw_below_drewN | apply below_drew1) | exact HB.out)) hb); have n1_ := Aside0.mk (hbox); have n2_ := Aside0.mk ((by rw [hg]; exact (below_size (by repeat (first | (with_reducible first | exact HB.out | apply below_alloc | apply pw_below_drewN | apply below_drew1) | exact HB.out))) : w.heap.size ≤ gb271)); have n3_ := Aside0.mk ((by rw [hg]; exact (below_size (by repeat (first | (with_reducible first | exact HB.out | apply below_alloc | apply pw_below_drewN | apply below_drew1) | exact HB.out))) : w.heap.size ≤ gb271)); clear HB; have HB := n0_; have BK271 := n1_; have GW271 := n2_; have GE271 := n3_; clear n0_ n1_ n2_ n3_; clear hb hbox hg; have hcz4_0 : w3.cell? ⟨gb271, 0, none⟩ = some (.int .i64 a0_0) := (blk_cell BK271.out 0).trans rfl; have hcz4_1 : w3.cell? ⟨gb271, 1, none⟩ = some (.slice A0_1 l0_1.length c0_1) := (blk_cell BK271.out 1).trans rfl; have hcz4_2 : w3.cell? ⟨gb271, 2, none⟩ = some (.int .i64 a0_2) := (blk_cell BK271.out 2).trans rfl; have hcz4_3 : w3.cell? ⟨gb271, 3, none⟩ = some (.int .i64 a0_3) := (blk_cell BK271.out 3).trans rfl; have hcz4_4 : w3.cell? ⟨gb271, 4, none⟩ = some (.int .i64 a0_4) := (blk_cell BK271.out 4).trans rfl; have hfz4_0 := blk_frozen BK271.out 0; have hfz4_1 := blk_frozen BK271.out 1; have hfz4_2 := blk_frozen BK271.out 2; have hfz4_3 := blk_frozen BK271.out 3; have hfz4_4 := blk_frozen BK271.out 4))
  (try simp only [Act.put, List.setIfInBounds_toArray, List.set_cons_zero, List.set_cons_succ])
  go_cut [5] (fun v5 wc => ∃ (kq : Nat) (x5_1 : Bool), v5 = .bool x5_1 ∧ Aside0 (impl_IsResource.j0 kq a0_0 x5_1 a0_0 l0_1 a0_2 a0_3 a0_4 = some r) ∧ Aside0 (kq ≤ k) ∧ Aside0 (wc.heap[gb271]? = some (.cells #[.int .i64 a0_0, (.slice A0_1 l0_1.length c0_1), .int .i64 a0_2, .int .i64 a0_3, .int .i64 a0_4] 36 (0, 0))) ∧ Aside0 (Below w.heap.size w wc))
  case first =>
    have H := HC2.out
    clear HC2
    by_cases c5 : a0_0 = 1
    · rw [if_pos c5] at H
      have c5b0 : (a0_0 == 1) = true := beq_iff_eq.mpr c5
      have c5b1 : (a0_0 != 1) = false := bne_eq_false_iff_eq.mpr c5
      clear c5
      (first | rw [c5b0] | (simp only [i64_w, i32_w]; rw [c5b0]) | skip)
      have H' := Aside0.mk H
      clear H
      go_wp2
      go_meet
      case rel => exact ⟨_, ((a0_0 == 1)), (by first | rfl | (simp; done) | (simp [*]; done)), H', ⟨by first | omega | exact Nat.le_refl _⟩, ⟨by (with_reducible repeat (first | refine blk_drewN ?_ _ | refine blk_drew ?_ | refine blk_alloc ?_ _)); exact BK271.out⟩, ⟨by repeat (first | (with_reducible first | exact HB.out | apply below_alloc | apply pw_below_drewN | apply below_drew1 | refine below_set ?_ GE271.out) | exact HB.out)⟩⟩
    · rw [if_neg c5] at H
      have c5b0 : (a0_0 == 1) = false := beq_eq_false_iff_ne.mpr c5
      have c5b1 : (a0_0 != 1) = true := bne_iff_ne.mpr c5
      (first | rw [c5b0] | (simp only [i64_w, i32_w]; rw [c5b0]) | skip)
      have H' := Aside0.mk H
      clear H
      go_wp2
      go_meet
      case rel => exact ⟨_, ((a0_0 == 2)), (by first | rfl | (simp; done) | (simp [*]; done)), H', ⟨by first | omega | exact Nat.le_refl _⟩, ⟨by (with_reducible repeat (first | refine blk_drewN ?_ _ | refine blk_drew ?_ | refine blk_alloc ?_ _)); exact BK271.out⟩, ⟨by repeat (first | (with_reducible first | exact HB.out | apply below_alloc | apply pw_below_drewN | apply below_drew1 | refine below_set ?_ GE271.out) | exact HB.out)⟩⟩
  case rest =>
    clear HC2
    try clear p2
    try clear c5
    try clear c5b0
    try clear c5b1
    try clear hcz4_0
    try clear hcz4_1
    try clear hcz4_2
    try clear hcz4_3
    try clear hcz4_4
    try clear hfz4_0
    try clear hfz4_1
    try clear hfz4_2
    try clear hfz4_3
    try clear hfz4_4
    obtain ⟨kq, x5_1, rfl, HA, HJ1, BK271, HB⟩ := hcut
    cases kq with
    | zero => exact absurd HA.out (by simp [impl_IsResource.j0])
    | succ kj1 =>
      have H := HA.out
      clear HA
      simp only [impl_IsResource.j0] at H
      by_cases c6 : x5_1 = true
      · subst c6
        have H1 : (if (l0_1.length : Int) ≤ 6 then ((impl_allIn.f kj1 l0_1 0 255).bind fun t272 => (if t272 = true then (some (a0_2 == 0 && (a0_3 == 0 && (a0_4 == 0)))) else (some false))) else (some false)) = some r := by rw [if_pos rfl] at H; exact H
        clear H
        have H := H1
        clear H1
        by_cases c7 : (l0_1.length : Int) ≤ 6
        · rw [if_pos c7] at H
          have c7b0 : decide ((l0_1.length : Int) ≤ 6) = true := decide_eq_true c7
          have c7b1 : decide (l0_1.length ≤ 6) = true := decide_eq_true (by omega)
          clear c7
          replace H := Option.bind_eq_some_iff.mp H
          obtain ⟨t272, A80, H⟩ := H
          replace H : (if t272 = true then (some (a0_2 == 0 && (a0_3 == 0 && (a0_4 == 0)))) else (some false)) = some r := H
          have A8 := Aside0.mk A80
          clear A80
          by_cases c9 : t272 = true
          · subst c9
            have H1 : (some (a0_2 == 0 && (a0_3 == 0 && (a0_4 == 0)))) = some r := by rw [if_pos rfl] at H; exact H
            clear H
            have H := H1
            clear H1
            obtain rfl := Option.some.inj H
            have hcz10_0 : wc.cell? ⟨gb271, 0, none⟩ = some (.int .i64 a0_0) := (blk_cell BK271.out 0).trans rfl
            have hcz10_1 : wc.cell? ⟨gb271, 1, none⟩ = some (.slice A0_1 l0_1.length c0_1) := (blk_cell BK271.out 1).trans rfl
            have hcz10_2 : wc.cell? ⟨gb271, 2, none⟩ = some (.int .i64 a0_2) := (blk_cell BK271.out 2).trans rfl
            have hcz10_3 : wc.cell? ⟨gb271, 3, none⟩ = some (.int .i64 a0_3) := (blk_cell BK271.out 3).trans rfl
            have hcz10_4 : wc.cell? ⟨gb271, 4, none⟩ = some (.int .i64 a0_4) := (blk_cell BK271.out 4).trans rfl
            have hfz10_0 := blk_frozen BK271.out 0
            have hfz10_1 := blk_frozen BK271.out 1
            have hfz10_2 := blk_frozen BK271.out 2
            have hfz10_3 := blk_frozen BK271.out 3
            have hfz10_4 := blk_frozen BK271.out 4
            go_wp2_with (first | (go_at_call 80; (with_reducible refine (impl_allIn.calls kj1 _ _ l0_1 0 255 true _ ?side1 ?side2 A8.out).mono ?_); (case side1 => repeat (first | exact (Kd.C_below HR0_1.out HB.out) | (with_reducible refine Kd.C_alloc ?_ _) | (with_reducible refine Kd.C_drewN ?_ _) | (with_reducible refine Kd.C_drew ?_))); (case side2 => exact HC0_1.out); rintro e w' ⟨rfl, ⟨nd, rfl⟩⟩))
            go_ret
            exact ⟨by first | rfl | (simp [errW_none, errW_some] <;> rfl) | (simp [*, errW_none, errW_some] <;> rfl), by repeat (first | (with_reducible first | exact HB.out | apply below_alloc | apply pw_below_drewN | apply below_drew1 | refine below_set ?_ GE271.out) | exact HB.out)⟩
          · replace c9 := Bool.eq_false_iff.mpr c9
            subst c9
            have H1 : (some false) = some r := by rw [if_neg (show ¬ (false = true) by decide)] at H; exact H
            clear H
            have H := H1
            clear H1
            obtain rfl := Option.some.inj H
            have hcz11_0 : wc.cell? ⟨gb271, 0, none⟩ = some (.int .i64 a0_0) := (blk_cell BK271.out 0).trans rfl
            have hcz11_1 : wc.cell? ⟨gb271, 1, none⟩ = some (.slice A0_1 l0_1.length c0_1) := (blk_cell BK271.out 1).trans rfl
            have hcz11_2 : wc.cell? ⟨gb271, 2, none⟩ = some (.int .i64 a0_2) := (blk_cell BK271.out 2).trans rfl
            have hcz11_3 : wc.cell? ⟨gb271, 3, none⟩ = some (.int .i64 a0_3) := (blk_cell BK271.out 3).trans rfl
            have hcz11_4 : wc.cell? ⟨gb271, 4, none⟩ = some (.int .i64 a0_4) := (blk_cell BK271.out 4).trans rfl
            have hfz11_0 := blk_frozen BK271.out 0
            have hfz11_1 := blk_frozen BK271.out 1
            have hfz11_2 := blk_frozen BK271.out 2
            have hfz11_3 := blk_frozen BK271.out 3
            have hfz11_4 := blk_frozen BK271.out 4
            go_wp2_with (first | (go_at_call 80; (with_reducible refine (impl_allIn.calls kj1 _ _ l0_1 0 255 false _ ?side1 ?side2 A8.out).mono ?_); (case side1 => repeat (first | exact (Kd.C_below HR0_1.out HB.out) | (with_reducible refine Kd.C_alloc ?_ _) | (with_reducible refine Kd.C_drewN ?_ _) | (with_reducible refine Kd.C_drew ?_))); (case side2 => exact HC0_1.out); rintro e w' ⟨rfl, ⟨nd, rfl⟩⟩))
            go_ret
            exact ⟨by first | rfl | (simp [errW_none, errW_some] <;> rfl) | (simp [*, errW_none, errW_some] <;> rfl), by repeat (first | (with_reducible first | exact HB.out | apply below_alloc | apply pw_below_drewN | apply below_drew1 | refine below_set ?_ GE271.out) | exact HB.out)⟩
        · rw [if_neg c7] at H
          have c7b0 : decide ((l0_1.length : Int) ≤ 6) = false := decide_eq_false c7
          have c7b1 : decide (l0_1.length ≤ 6) = false := decide_eq_false (by omega)
          clear c7
          obtain rfl := Option.some.inj H
          have hcz12_0 : wc.cell? ⟨gb271, 0, none⟩ = some (.int .i64 a0_0) := (blk_cell BK271.out 0).trans rfl
          have hcz12_1 : wc.cell? ⟨gb271, 1, none⟩ = some (.slice A0_1 l0_1.length c0_1) := (blk_cell BK271.out 1).trans rfl
          have hcz12_2 : wc.cell? ⟨gb271, 2, none⟩ = some (.int .i64 a0_2) := (blk_cell BK271.out 2).trans rfl
          have hcz12_3 : wc.cell? ⟨gb271, 3, none⟩ = some (.int .i64 a0_3) := (blk_cell BK271.out 3).trans rfl
          have hcz12_4 : wc.cell? ⟨gb271, 4, none⟩ = some (.int .i64 a0_4) := (blk_cell BK271.out 4).trans rfl
          have hfz12_0 := blk_frozen BK271.out 0
          have hfz12_1 := blk_frozen BK271.out 1
          have hfz12_2 := blk_frozen BK271.out 2
          have hfz12_3 := blk_frozen BK271.out 3
          have hfz12_4 := blk_frozen BK271.out 4
          go_wp2
          go_ret
          exact ⟨by first | rfl | (simp [errW_none, errW_some] <;> rfl) | (simp [*, errW_none, errW_some] <;> rfl), by repeat (first | (with_reducible first | exact HB.out | apply below_alloc | apply pw_below_drewN | apply below_drew1 | refine below_set ?_ GE271.out) | exact HB.out)⟩
      · replace c6 := Bool.eq_false_iff.mpr c6
        subst c6
        have H1 : (if a0_0 = 3 then (if (l0_1.length : Int) = 0 then ((impl_IsAddress.f a0_2 a0_3 a0_4).bind fun t273 => (some t273)) else (some false)) else (if a0_0 = 4 then (if (l0_1.length : Int) = 0 then (some (a0_2 == 0 && (a0_3 == 0 && (a0_4 == 0)))) else (some false)) else (some false))) = some r := by rw [if_neg (show ¬ (false = true) by decide)] at H; exact H
        clear H
        have H := H1
        clear H1
        by_cases c13 : a0_0 = 3
        · rw [if_pos c13] at H
          have c13b0 : (a0_0 == 3) = true := beq_iff_eq.mpr c13
          have c13b1 : (a0_0 != 3) = false := bne_eq_false_iff_eq.mpr c13
          clear c13
          by_cases c14 : (l0_1.length : Int) = 0
          · rw [if_pos c14] at H
            have c14b0 : ((l0_1.length : Int) == 0) = true := beq_iff_eq.mpr c14
            have c14b1 : ((l0_1.length : Int) != 0) = false := bne_eq_false_iff_eq.mpr c14
            clear c14
            replace H := Option.bind_eq_some_iff.mp H
            obtain ⟨t273, A150, H⟩ := H
            replace H : (some t273) = some r := H
            have A15 := Aside0.mk A150
            clear A150
            obtain rfl := Option.some.inj H
            have hcz16_0 : wc.cell? ⟨gb271, 0, none⟩ = some (.int .i64 a0_0) := (blk_cell BK271.out 0).trans rfl
            have hcz16_1 : wc.cell? ⟨gb271, 1, none⟩ = some (.slice A0_1 l0_1.length c0_1) := (blk_cell BK271.out 1).trans rfl
            have hcz16_2 : wc.cell? ⟨gb271, 2, none⟩ = some (.int .i64 a0_2) := (blk_cell BK271.out 2).trans rfl
            have hcz16_3 : wc.cell? ⟨gb271, 3, none⟩ = some (.int .i64 a0_3) := (blk_cell BK271.out 3).trans rfl
            have hcz16_4 : wc.cell? ⟨gb271, 4, none⟩ = some (.int .i64 a0_4) := (blk_cell BK271.out 4).trans rfl
            have hfz16_0 := blk_frozen BK271.out 0
            have hfz16_1 := blk_frozen BK271.out 1
            have hfz16_2 := blk_frozen BK271.out 2
            have hfz16_3 := blk_frozen BK271.out 3
            have hfz16_4 := blk_frozen BK271.out 4
            go_wp2_with (first | (go_at_call 81; (with_reducible refine (impl_IsAddress.calls a0_2 a0_3 a0_4 t273 _ A15.out).mono ?_); rintro e w17 ⟨rfl, hb⟩; have n0_ := Aside0.mk (blk_below (g := gb271) (o := .cells #[.int .i64 a0_0, .slice A0_1 l0_1.length c0_1, .int .i64 a0_2, .int .i64 a0_3, .int .i64 a0_4] 36 (0, 0)) (by (with_reducible repeat (first | refine blk_drewN ?_ _ | refine blk_drew ?_ | refine blk_alloc ?_ _)); exact BK271.out) hb); have n1_ := Aside0.mk (below_step (by repeat (first | (with_reducible first | exact HB.out | apply below_alloc | apply pw_below_drewN | apply below_drew1 | refine below_set ?_ GE271.out) | exact HB.out)) hb); clear BK271; clear HB; have BK271 := n0_; have HB := n1_; clear n0_ n1_; (try clear hb); (try clear hb2); (try clear hk); (try clear hi)))
            go_ret
            exact ⟨by first | rfl | (simp [errW_none, errW_some] <;> rfl) | (simp [*, errW_none, errW_some] <;> rfl), by repeat (first | (with_reducible first | exact HB.out | apply below_alloc | apply pw_below_drewN | apply below_drew1 | refine below_set ?_ GE271.out) | exact HB.out)⟩
          · rw [if_neg c14] at H
            have c14b0 : ((l0_1.length : Int) == 0) = false := beq_eq_false_iff_ne.mpr c14
            have c14b1 : ((l0_1.length : Int) != 0) = true := bne_iff_ne.mpr c14
            have c14b2 : ¬ (l0_1 = []) := fun h_ => c14 (by rw [h_]; rfl)
            obtain rfl := Option.some.inj H
            have hcz18_0 : wc.cell? ⟨gb271, 0, none⟩ = some (.int .i64 a0_0) := (blk_cell BK271.out 0).trans rfl
            have hcz18_1 : wc.cell? ⟨gb271, 1, none⟩ = some (.slice A0_1 l0_1.length c0_1) := (blk_cell BK271.out 1).trans rfl
            have hcz18_2 : wc.cell? ⟨gb271, 2, none⟩ = some (.int .i64 a0_2) := (blk_cell BK271.out 2).trans rfl
            have hcz18_3 : wc.cell? ⟨gb271, 3, none⟩ = some (.int .i64 a0_3) := (blk_cell BK271.out 3).trans rfl
            have hcz18_4 : wc.cell? ⟨gb271, 4, none⟩ = some (.int .i64 a0_4) := (blk_cell BK271.out 4).trans rfl
            have hfz18_0 := blk_frozen BK271.out 0
            have hfz18_1 := blk_frozen BK271.out 1
            have hfz18_2 := blk_frozen BK271.out 2
            have hfz18_3 := blk_frozen BK271.out 3
            have hfz18_4 := blk_frozen BK271.out 4
            go_wp2
            go_ret
            exact ⟨by first | rfl | (simp [errW_none, errW_some] <;> rfl) | (simp [*, errW_none, errW_some] <;> rfl), by repeat (first | (with_reducible first | exact HB.out | apply below_alloc | apply pw_below_drewN | apply below_drew1 | refine below_set ?_ GE271.out) | exact HB.out)⟩
        · rw [if_neg c13] at H
          have c13b0 : (a0_0 == 3) = false := beq_eq_false_iff_ne.mpr c13
          have c13b1 : (a0_0 != 3) = true := bne_iff_ne.mpr c13
          by_cases c19 : a0_0 = 4
          · rw [if_pos c19] at H
            have c19b0 : (a0_0 == 4) = true := beq_iff_eq.mpr c19
            have c19b1 : (a0_0 != 4) = false := bne_eq_false_iff_eq.mpr c19
            clear c19
            by_cases c20 : (l0_1.length : Int) = 0
            · rw [if_pos c20] at H
              have c20b0 : ((l0_1.length : Int) == 0) = true := beq_iff_eq.mpr c20
              have c20b1 : ((l0_1.length : Int) != 0) = false := bne_eq_false_iff_eq.mpr c20
              clear c20
              obtain rfl := Option.some.inj H
              have hcz21_0 : wc.cell? ⟨gb271, 0, none⟩ = some (.int .i64 a0_0) := (blk_cell BK271.out 0).trans rfl
              have hcz21_1 : wc.cell? ⟨gb271, 1, none⟩ = some (.slice A0_1 l0_1.length c0_1) := (blk_cell BK271.out 1).trans rfl
              have hcz21_2 : wc.cell? ⟨gb271, 2, none⟩ = some (.int .i64 a0_2) := (blk_cell BK271.out 2).trans rfl
              have hcz21_3 : wc.cell? ⟨gb271, 3, none⟩ = some (.int .i64 a0_3) := (blk_cell BK271.out 3).trans rfl
              have hcz21_4 : wc.cell? ⟨gb271, 4, none⟩ = some (.int .i64 a0_4) := (blk_cell BK271.out 4).trans rfl
              have hfz21_0 := blk_frozen BK271.out 0
              have hfz21_1 := blk_frozen BK271.out 1
              have hfz21_2 := blk_frozen BK271.out 2
              have hfz21_3 := blk_frozen BK271.out 3
              have hfz21_4 := blk_frozen BK271.out 4
              go_wp2
              go_ret
              exact ⟨by first | rfl | (simp [errW_none, errW_some] <;> rfl) | (simp [*, errW_none, errW_some] <;> rfl), by repeat (first | (with_reducible first | exact HB.out | apply below_alloc | apply pw_below_drewN | apply below_drew1 | refine below_set ?_ GE271.out) | exact HB.out)⟩
            · rw [if_neg c20] at H
              have c20b0 : ((l0_1.length : Int) == 0) = false := beq_eq_false_iff_ne.mpr c20
              have c20b1 : ((l0_1.length : Int) != 0) = true := bne_iff_ne.mpr c20
              have c20b2 : ¬ (l0_1 = []) := fun h_ => c20 (by rw [h_]; rfl)
              obtain rfl := Option.some.inj H
              have hcz22_0 : wc.cell? ⟨gb271, 0, none⟩ = some (.int .i64 a0_0) := (blk_cell BK271.out 0).trans rfl
              have hcz22_1 : wc.cell? ⟨gb271, 1, none⟩ = some (.slice A0_1 l0_1.length c0_1) := (blk_cell BK271.out 1).trans rfl
              have hcz22_2 : wc.cell? ⟨gb271, 2, none⟩ = some (.int .i64 a0_2) := (blk_cell BK271.out 2).trans rfl
              have hcz22_3 : wc.cell? ⟨gb271, 3, none⟩ = some (.int .i64 a0_3) := (blk_cell BK271.out 3).trans rfl
              have hcz22_4 : wc.cell? ⟨gb271, 4, none⟩ = some (.int .i64 a0_4) := (blk_cell BK271.out 4).trans rfl
              have hfz22_0 := blk_frozen BK271.out 0
              have hfz22_1 := blk_frozen BK271.out 1
              have hfz22_2 := blk_frozen BK271.out 2
              have hfz22_3 := blk_frozen BK271.out 3
              have hfz22_4 := blk_frozen BK271.out 4
              go_wp2
              go_ret
              exact ⟨by first | rfl | (simp [errW_none, errW_some] <;> rfl) | (simp [*, errW_none, errW_some] <;> rfl), by repeat (first | (with_reducible first | exact HB.out | apply below_alloc | apply pw_below_drewN | apply below_drew1 | refine below_set ?_ GE271.out) | exact HB.out)⟩
          · rw [if_neg c19] at H
            have c19b0 : (a0_0 == 4) = false := beq_eq_false_iff_ne.mpr c19
            have c19b1 : (a0_0 != 4) = true := bne_iff_ne.mpr c19
            obtain rfl := Option.some.inj H
            go_wp2
            go_ret
            exact ⟨by first | rfl | (simp [errW_none, errW_some] <;> rfl) | (simp [*, errW_none, errW_some] <;> rfl), by repeat (first | (with_reducible first | exact HB.out | apply below_alloc | apply pw_below_drewN | apply below_drew1 | refine below_set ?_ GE271.out) | exact HB.out)⟩

/-! ### impl_IsStore: function 25 -/
def impl_IsStore.l0 : Nat → List (S63) → List (S63) → Int → Int → Option (Bool)
  | 0, _, _, _, _ => none
  | k + 1, x0, x8, x9, x10 => if x10 < x9 then (if 0 ≤ x10 then (if x10 < (x8.length : Int) then (if x10 > 0 then (if 0 ≤ (wrap64 (x10 - 1)) then (if (wrap64 (x10 - 1)) < (x0.length : Int) then (if ((rd_T63 x0 (wrap64 (x10 - 1))).f0) ≥ ((rd_T63 x8 x10).f0) then (some false) else ((impl_IsResource.f k ((rd_T63 x8 x10).f1.f0) ((rd_T63 x8 x10).f1.f1) ((rd_T63 x8 x10).f1.f2.f0) ((rd_T63 x8 x10).f1.f2.f1) ((rd_T63 x8 x10).f1.f2.f2)).bind fun t277 => (if t277 = true then ((impl_DigestOf.f k ((rd_T63 x8 x10).f1.f0) ((rd_T63 x8 x10).f1.f1) ((rd_T63 x8 x10).f1.f2.f0) ((rd_T63 x8 x10).f1.f2.f1) ((rd_T63 x8 x10).f1.f2.f2)).bind fun t278 => (if t278 = ((rd_T63 x8 x10).f0) then ((impl_InRange.f ((rd_T63 x8 x10).f2) 1 1000).bind fun t279 => (if t279 = true then (impl_IsStore.l0 k x0 x8 x9 (wrap64 (x10 + 1))) else (some false))) else (some false))) else (some false)))) else (none)) else (none)) else ((impl_IsResource.f k ((rd_T63 x8 x10).f1.f0) ((rd_T63 x8 x10).f1.f1) ((rd_T63 x8 x10).f1.f2.f0) ((rd_T63 x8 x10).f1.f2.f1) ((rd_T63 x8 x10).f1.f2.f2)).bind fun t280 => (if t280 = true then ((impl_DigestOf.f k ((rd_T63 x8 x10).f1.f0) ((rd_T63 x8 x10).f1.f1) ((rd_T63 x8 x10).f1.f2.f0) ((rd_T63 x8 x10).f1.f2.f1) ((rd_T63 x8 x10).f1.f2.f2)).bind fun t281 => (if t281 = ((rd_T63 x8 x10).f0) then ((impl_InRange.f ((rd_T63 x8 x10).f2) 1 1000).bind fun t282 => (if t282 = true then (impl_IsStore.l0 k x0 x8 x9 (wrap64 (x10 + 1))) else (some false))) else (some false))) else (some false)))) else (none)) else (none)) else (some true)
def impl_IsStore.f (k : Nat) (l0 : List (S63)) : Option (Bool) := if (l0.length : Int) > 30 then (some false) else (impl_IsStore.l0 k l0 l0 (l0.length : Int) 0)
theorem impl_IsStore.mono_l : ∀ k, (∀ y0 y1 y2 y3, LeO (impl_IsStore.l0 k y0 y1 y2 y3) (impl_IsStore.l0 (k + 1) y0 y1 y2 y3))
  | 0 => fun _ _ _ _ r h => by simp [impl_IsStore.l0] at h
  | k + 1 => by
    have ih0 := impl_IsStore.mono_l k
    · intro y0 y1 y2 y3
      unfold impl_IsStore.l0
      repeat' first
      | (with_reducible exact ih0 _ _ _ _)
      | (with_reducible exact impl_DigestOf.mono _ _ _ _ _ _)
      | (with_reducible exact impl_IsResource.mono _ _ _ _ _ _)
      | (with_reducible exact LeO.refl _)
      | (with_reducible exact LeO.none _)
      | (with_reducible refine LeO.ite ?_ ?_)
      | (with_reducible refine LeO.bind ?_ (fun _ => ?_))
      | exact ih0 _ _ _ _
      | exact impl_DigestOf.mono _ _ _ _ _ _
      | exact impl_IsResource.mono _ _ _ _ _ _
      | exact LeO.none _
      | refine LeO.ite ?_ ?_
      | refine LeO.bind ?_ (fun _ => ?_)
theorem impl_IsStore.mono : ∀ a0 k, LeO (impl_IsStore.f k a0) (impl_IsStore.f (k + 1) a0) := by
  intro a0 k
  have ih0 := impl_IsStore.mono_l k
  unfold impl_IsStore.f
  repeat' first
      | (with_reducible exact ih0 _ _ _ _)
      | (with_reducible exact impl_DigestOf.mono _ _ _ _ _ _)
      | (with_reducible exact impl_IsResource.mono _ _ _ _ _ _)
      | (with_reducible exact LeO.refl _)
      | (with_reducible exact LeO.none _)
      | (with_reducible refine LeO.ite ?_ ?_)
      | (with_reducible refine LeO.bind ?_ (fun _ => ?_))
      | exact ih0 _ _ _ _
      | exact impl_DigestOf.mono _ _ _ _ _ _
      | exact impl_IsResource.mono _ _ _ _ _ _
      | exact LeO.none _
      | refine LeO.ite ?_ ?_
      | refine LeO.bind ?_ (fun _ => ?_)
def impl_IsStore.T6 : Bool × List (List Nat × List Nat) := (true, [([], []), ([0], [0]), ([1], [1]), ([2], [2]), ([2], [2]), ([4, 2], [2, 4]), ([3, 5, 2], [2, 3, 5]), ([6, 2], [2, 6]), ([7, 2], [2, 7]), ([2], [2]), ([9, 2], [2, 9]), ([8, 10, 2], [2, 8, 10]), ([2, 11], [2, 11]), ([12, 2], [12]), ([13], [13]), ([14, 13], [13, 14]), ([15, 13, 13], [13, 15]), ([16, 13], [13, 16]), ([13, 17], [13, 17]), ([18, 16], [18]), ([19], [19]), ([20, 19], [19, 20]), ([21, 19, 19], [19, 21]), ([19], [19]), ([23, 19], [19, 23]), ([22, 24, 19], [19, 22, 24]), ([19, 25], [19, 25]), ([26, 22], [26]), ([27], [27]), ([28, 27], [27, 28]), ([29, 27, 27], [27, 29]), ([30, 27], [27, 30]), ([27, 31], [27, 31])])
def impl_IsStore.B6 : List Nat := [0, 1, 3, 7, 7, 23, 63, 127, 255, 7, 519, 2047, 4095, 8191, 16383, 32767, 65535, 131071, 262143, 524287, 1048575, 2097151, 4194303, 1048575, 9437183, 33554431, 67108863, 134217727, 268435455, 536870911, 1073741823, 2147483647, 4294967295]
theorem impl_IsStore.tab6 : rtab .any (opsOf Try.f25 6) = impl_IsStore.T6 := by kernel_rfl
theorem impl_IsStore.bits6 : waitsOk impl_IsStore.T6.2 impl_IsStore.B6 = true := by kernel_rfl
set_option maxHeartbeats 8000000 in
set_option maxRecDepth 100000 in
theorem impl_IsStore.calls (k : Nat) (A0 : Option Addr) (c0 : Nat) (l0 : List (S63)) (r : Bool) (w : World) (hr0 : Kd.C k63 w A0 l0.length l0) (hc0 : l0.length ≤ c0) (h : impl_IsStore.f k l0 = some r) :
    Calls Try.prog 25 #[.slice A0 l0.length c0] w fun e w' => e = .returned (.bool r) ∧ Below w.heap.size w w' := by
  have hu63 := Try.underlying63
  have hu36 := Try.underlying36
  have HR0 := Aside0.mk hr0
  clear hr0 hc0
  have HB := Aside0.mk (Below.refl w.heap.size w)
  have H : (if (l0.length : Int) > 30 then (some false) else (impl_IsStore.l0 k l0 l0 (l0.length : Int) 0)) = some r := h
  clear h
  by_cases c2 : (l0.length : Int) > 30
  · rw [if_pos c2] at H
    have c2b0 : decide (30 < (l0.length : Int)) = true := decide_eq_true c2
    have c2b1 : decide (30 < l0.length) = true := decide_eq_true (by omega)
    clear c2
    obtain rfl := Option.some.inj H
    go_enter Try.func25, Try.ntmps25
    go_wp2
    go_ret
    exact ⟨(by first | rfl | (simp [errW_none, errW_some] <;> rfl) | (simp [*, errW_none, errW_some] <;> rfl)), (by repeat (first | (with_reducible first | exact HB.out | apply below_alloc | apply pw_below_drewN | apply below_drew1) | exact HB.out))⟩
  · rw [if_neg c2] at H
    have c2b0 : decide (30 < (l0.length : Int)) = false := decide_eq_false c2
    have c2b1 : decide (30 < l0.length) = false := decide_eq_false (by omega)
    have H' := Aside0.mk H
    clear H
    go_enter Try.func25, Try.ntmps25
    go_wp2
    go_loopg [10] k (fun kq v10 w' => ∃ (x10_1 : Int), v10 = .int .i64 x10_1 ∧ Aside0 (impl_IsStore.l0 kq l0 l0 (l0.length : Int) x10_1 = some r) ∧ Aside0 (kq ≤ k) ∧ Aside0 (Below w.heap.size w w'))
    case atStart => exact ⟨0, (by first | rfl | (simp; done)), H', ⟨Nat.le_refl _⟩, HB⟩
    case round =>
      clear H' HB c2 c2b0 c2b1
      try clear p2
      obtain ⟨i, rfl, HA, HK1, HB⟩ := hrel
      cases gk with
      | zero => exact absurd HA.out (by simp [impl_IsStore.l0])
      | succ k1 =>
        have H := HA.out
        clear HA
        simp only [impl_IsStore.l0] at H
        by_cases c3 : i < (l0.length : Int)
        · rw [if_pos c3] at H
          by_cases c4 : 0 ≤ i
          · rw [if_pos c4, if_pos c3] at H
            have c3b0 : decide (i < (l0.length : Int)) = true := decide_eq_true c3
            obtain ⟨ad, A2, c2, e2, hx0, hx1, hx2, hx3, hx4, hx5, hx6, hl2, hi2⟩ := at_T63 HR0.out i c4 c3
            cases e2
            obtain ⟨⟨d, ⟨kd, bd, ⟨ho, pa, qu⟩⟩, us⟩, hx⟩ : ∃ x, rd_T63 l0 i = x := ⟨_, rfl⟩
            simp only [hx] at H hx0 hx1 hx2 hx3 hx4 hx5 hx6 hi2 hl2
            have hxs := cells7 HB.out hx0 hx1 hx2 hx3 hx4 hx5 hx6
            have HR2 := Aside0.mk hi2
            have HC2 := Aside0.mk hl2
            have HH := Aside0.mk H
            clear hi2 hl2 hx H hx0 hx1 hx2 hx3 hx4 hx5 hx6
            have c4b := eq_true c4
            have c3b := eq_true c3
            go_wp2_with (first | ((with_reducible refine gate_dst (N := 4) rfl ?_); refine box_event ?hg (N := 4) ?hd (cs := #[.int .i64 0, .int .i64 0, .slice none 0 0, .int .i64 0, .int .i64 0, .int .i64 0, .int .i64 0]) (t := 63) ?hr ?_; (case hd => rfl); (case hg => rfl); (case hr => first | (go_simp; done) | (go_simp; rfl)); intro gb hg w11 hbox hb; have n0_ := Aside0.mk (below_step (by repeat (first | (with_reducible first | exact HB.out | apply below_alloc | apply pw_below_drewN | apply below_drew1) | exact HB.out)) hb); have n2_ := Aside0.mk ((by rw [hg]; exact (below_size (by repeat (first | (with_reducible first | exact HB.out | apply below_alloc | apply pw_below_drewN | apply below_drew1) | exact HB.out)))) : w.heap.size ≤ gb); have BK := Aside0.mk hbox; clear HB; have HB := n0_; have GW := n2_; clear n0_ n2_ hb hg; have hz := box7z hbox; clear hbox))
            obtain ⟨w13, e13, hbk, hbb⟩ := box7 BK.out (.int .i64 d) (.int .i64 kd) (.slice A2 bd.length c2) (.int .i64 ho) (.int .i64 pa) (.int .i64 qu) (.int .i64 us) HB.out GW.out
            rw [← e13]
            clear HB BK e13 hz hxs
            have HB := Aside0.mk (below_drew1 hbb)
            have BK := Aside0.mk (blk_drew hbk)
            clear hbb hbk GW
            have H := HH.out
            clear HH
            by_cases c6 : i > 0
            · rw [if_pos c6] at H
              have c6b0 : decide (0 < i) = true := decide_eq_true c6
              clear c6
              obtain ⟨j, hj⟩ : ∃ j, wrap64 (i - 1) = j := ⟨_, rfl⟩
              rw [hj] at H
              have hjw : IntKind.i64.wrap (i - 1) = j := (i64_w _).trans hj
              by_cases c8 : 0 ≤ j
              · rw [if_pos c8] at H
                by_cases c9 : j < (l0.length : Int)
                · rw [if_pos c9] at H
                  obtain ⟨ad1, _, _, e2, hy, _, _, _, _, _, _, _, _⟩ := at_T63 HR0.out j c8 c9
                  obtain rfl : ad = ad1 := by injection e2
                  obtain ⟨dj, hdj⟩ : ∃ x, (rd_T63 l0 j).f0 = x := ⟨_, rfl⟩
                  rw [hdj] at H hy
                  clear e2 hj hdj
                  replace c8 := eq_true c8
                  replace c9 := eq_true c9
                  have PF := Aside0.mk (fun w' (b : w'.heap[gb]? = some (.cells #[.int .i64 d, .int .i64 kd, .slice A2 bd.length c2, .int .i64 ho, .int .i64 pa, .int .i64 qu, .int .i64 us] 63 (0, 0))) (hb : Below w.heap.size w w') => (show w'.cell? ⟨gb, 0, none⟩ = some (.int .i64 d) ∧ w'.cell? ⟨gb, 1, none⟩ = some (.int .i64 kd) ∧ w'.cell? ⟨gb, 2, none⟩ = some (.slice A2 bd.length c2) ∧ w'.cell? ⟨gb, 3, none⟩ = some (.int .i64 ho) ∧ w'.cell? ⟨gb, 4, none⟩ = some (.int .i64 pa) ∧ w'.cell? ⟨gb, 5, none⟩ = some (.int .i64 qu) ∧ w'.cell? ⟨gb, 6, none⟩ = some (.int .i64 us) ∧ w'.cell? (ad.add (j.toNat * 7)) = some (.int .i64 dj) from by obtain ⟨⟨h0, h1, h2, h3, h4, h5, h6⟩, _⟩ := box7z b; exact ⟨h0, h1, h2, h3, h4, h5, h6, cell_on hb hy⟩))
                  clear hy
                  by_cases c10 : dj ≥ d
                  · rw [if_pos c10] at H
                    have c10b : decide (d ≤ dj) = true := decide_eq_true c10
                    obtain rfl := Option.some.inj H
                    clear H
                    refine start_ (n := 33) (S := fun w' => w'.cell? ⟨gb, 0, none⟩ = some (.int .i64 d) ∧ w'.cell? ⟨gb, 1, none⟩ = some (.int .i64 kd) ∧ w'.cell? ⟨gb, 2, none⟩ = some (.slice A2 bd.length c2) ∧ w'.cell? ⟨gb, 3, none⟩ = some (.int .i64 ho) ∧ w'.cell? ⟨gb, 4, none⟩ = some (.int .i64 pa) ∧ w'.cell? ⟨gb, 5, none⟩ = some (.int .i64 qu) ∧ w'.cell? ⟨gb, 6, none⟩ = some (.int .i64 us) ∧ w'.cell? (ad.add (j.toNat * 7)) = some (.int .i64 dj)) (ds := []) (mk 33 0) (by kernel_rfl) rfl rfl (PF.out _ BK.out HB.out) (fun hHeld => ?_)
                    refine with_tabW impl_IsStore.tab6 impl_IsStore.bits6 (fun HT_ HW_ => ?_)
                    refine on_ 0 15 (mk 33 0x1) ?_
                    refine on_ 1 16 (mk 33 0x3) ?_
                    refine on_ 2 17 (mk 33 0x7) ?_
                    refine on_ 3 18 (mk 33 0xF) ?_
                    refine on_ 4 19 (mk 33 0x1F) ?_
                    refine on_ 5 20 (mk 33 0x3F) ?_
                    refine on_ 6 21 (mk 33 0x7F) ?_
                    refine on_ 7 22 (mk 33 0xFF) ?_
                    refine on_ 9 24 (mk 33 0x2FF) ?_
                    refine rd_ 8 23 (mk 33 0x3FF) ?_
                    refine rd_ 10 25 (mk 33 0x7FF) ?_
                    refine on_ 11 26 (mk 33 0xFFF) ?_
                    refine on_ 12 27 (mk 33 0x1FFF) ?_
                    refine on_ 13 28 (mk 33 0x3FFF) ?_
                    refine of_ 14 29 (mk 33 0x7FFF) ?_
                    refine of_ 15 30 (mk 33 0xFFFF) ?_
                    refine of_ 16 31 (mk 33 0x1FFFF) ?_
                    refine of_ 17 32 (mk 33 0x3FFFF) ?_
                    refine on_ 18 33 (mk 33 0x7FFFF) ?_
                    refine on_ 19 34 (mk 33 0xFFFFF) ?_
                    refine of_ 20 35 (mk 33 0x1FFFFF) ?_
                    refine of_ 21 36 (mk 33 0x3FFFFF) ?_
                    refine of_ 22 37 (mk 33 0x7FFFFF) ?_
                    refine of_ 23 38 (mk 33 0xFFFFFF) ?_
                    refine of_ 24 39 (mk 33 0x1FFFFFF) ?_
                    refine of_ 25 40 (mk 33 0x3FFFFFF) ?_
                    refine on_ 26 41 (mk 33 0x7FFFFFF) ?_
                    refine on_ 27 42 (mk 33 0xFFFFFFF) ?_
                    refine of_ 28 43 (mk 33 0x1FFFFFFF) ?_
                    refine of_ 29 44 (mk 33 0x3FFFFFFF) ?_
                    refine of_ 30 45 (mk 33 0x7FFFFFFF) ?_
                    refine of_ 31 46 (mk 33 0xFFFFFFFF) ?_
                    refine on_ 32 47 (mk 33 0x1FFFFFFFF) ?_
                    refine dn_ ?_
                    go_wp2
                    go_ret
                    exact ⟨(by first | rfl | (simp [errW_none, errW_some] <;> rfl) | (simp [*, errW_none, errW_some] <;> rfl)), (by repeat (first | (with_reducible first | exact HB.out | apply below_alloc | apply pw_below_drewN | apply below_drew1) | exact HB.out))⟩
                  · rw [if_neg c10] at H
                    have c10b : decide (d ≤ dj) = false := decide_eq_false c10
                    refine start_ (n := 33) (S := fun w' => w'.cell? ⟨gb, 0, none⟩ = some (.int .i64 d) ∧ w'.cell? ⟨gb, 1, none⟩ = some (.int .i64 kd) ∧ w'.cell? ⟨gb, 2, none⟩ = some (.slice A2 bd.length c2) ∧ w'.cell? ⟨gb, 3, none⟩ = some (.int .i64 ho) ∧ w'.cell? ⟨gb, 4, none⟩ = some (.int .i64 pa) ∧ w'.cell? ⟨gb, 5, none⟩ = some (.int .i64 qu) ∧ w'.cell? ⟨gb, 6, none⟩ = some (.int .i64 us) ∧ w'.cell? (ad.add (j.toNat * 7)) = some (.int .i64 dj)) (ds := []) (mk 33 0) (by kernel_rfl) rfl rfl (PF.out _ BK.out HB.out) (fun hHeld => ?_)
                    refine with_tabW impl_IsStore.tab6 impl_IsStore.bits6 (fun HT_ HW_ => ?_)
                    refine on_ 0 15 (mk 33 0x1) ?_
                    refine on_ 1 16 (mk 33 0x3) ?_
                    refine on_ 2 17 (mk 33 0x7) ?_
                    refine on_ 3 18 (mk 33 0xF) ?_
                    refine on_ 4 19 (mk 33 0x1F) ?_
                    refine on_ 5 20 (mk 33 0x3F) ?_
                    refine on_ 6 21 (mk 33 0x7F) ?_
                    refine on_ 7 22 (mk 33 0xFF) ?_
                    refine on_ 9 24 (mk 33 0x2FF) ?_
                    refine rd_ 8 23 (mk 33 0x3FF) ?_
                    refine rd_ 10 25 (mk 33 0x7FF) ?_
                    refine on_ 11 26 (mk 33 0xFFF) ?_
                    refine on_ 12 27 (mk 33 0x1FFF) ?_
                    refine on_ 13 28 (mk 33 0x3FFF) ?_
                    replace H := Option.bind_eq_some_iff.mp H
                    obtain ⟨t1, A15, H⟩ := H
                    have A15 := Aside0.mk A15
                    refine on_ 14 29 (mk 33 0x7FFF) ?_
                    refine rd_ 15 30 (mk 33 0xFFFF) ?_
                    refine cl_ 16 31 (mk 33 0x1FFFF) Try.func62 #[.agg #[.int .i64 kd, .slice A2 bd.length c2, .int .i64 ho, .int .i64 pa, .int .i64 qu]] ?_
                    refine (impl_IsResource.calls k1 kd _ _ bd ho pa qu _ _ (Kd.C_below HR2.out HB.out) HC2.out A15.out).mono ?_
                    rintro e w25 ⟨rfl, hb⟩
                    have n0_ := Aside0.mk (below_step HB.out hb)
                    have n1_ := Aside0.mk (blk_below BK.out hb)
                    clear HB BK
                    have HB := n0_
                    have BK := n1_
                    clear n0_ n1_
                    refine ⟨_, rfl, PF.out _ BK.out HB.out, fun hHeld => nm_ ?_⟩
                    by_cases c1 : t1 = true
                    · rw [if_pos c1] at H
                      subst c1
                      replace H := Option.bind_eq_some_iff.mp H
                      obtain ⟨t2, A17, H⟩ := H
                      have A17 := Aside0.mk A17
                      refine on_ 17 32 (mk 33 0x3FFFF) ?_
                      refine on_ 18 33 (mk 33 0x7FFFF) ?_
                      refine on_ 19 34 (mk 33 0xFFFFF) ?_
                      refine on_ 20 35 (mk 33 0x1FFFFF) ?_
                      refine on_ 23 38 (mk 33 0x9FFFFF) ?_
                      refine rd_ 21 36 (mk 33 0xBFFFFF) ?_
                      refine rd_ 24 39 (mk 33 0x1BFFFFF) ?_
                      refine cl_ 22 37 (mk 33 0x1FFFFFF) Try.func20 #[.agg #[.int .i64 kd, .slice A2 bd.length c2, .int .i64 ho, .int .i64 pa, .int .i64 qu]] ?_
                      refine (impl_DigestOf.calls k1 kd _ _ bd ho pa qu _ _ (Kd.C_below HR2.out HB.out) HC2.out A17.out).mono ?_
                      rintro e w26 ⟨rfl, hb⟩
                      have n0_ := Aside0.mk (below_step HB.out hb)
                      have n1_ := Aside0.mk (blk_below BK.out hb)
                      clear HB BK
                      have HB := n0_
                      have BK := n1_
                      clear n0_ n1_
                      refine ⟨_, rfl, PF.out _ BK.out HB.out, fun hHeld => nm_ ?_⟩
                      by_cases c5 : t2 = d
                      · rw [if_pos c5] at H
                        have c2b : (t2 != d) = false := bne_eq_false_iff_eq.mpr c5
                        replace H := Option.bind_eq_some_iff.mp H
                        obtain ⟨t3, A19, H⟩ := H
                        have A19 := Aside0.mk A19
                        refine on_ 25 40 (mk 33 0x3FFFFFF) ?_
                        refine on_ 26 41 (mk 33 0x7FFFFFF) ?_
                        refine on_ 27 42 (mk 33 0xFFFFFFF) ?_
                        refine on_ 28 43 (mk 33 0x1FFFFFFF) ?_
                        refine rd_ 29 44 (mk 33 0x3FFFFFFF) ?_
                        refine cl_ 30 45 (mk 33 0x7FFFFFFF) Try.func63 #[.int .i64 us, .int .i64 1, .int .i64 1000] ?_
                        refine (impl_InRange.calls us 1 1000 _ _ A19.out).mono ?_
                        rintro e w27 ⟨rfl, nd, rfl⟩
                        have n0_ := Aside0.mk (pw_below_drewN HB.out nd)
                        have n1_ := Aside0.mk (blk_drewN BK.out nd)
                        clear HB BK
                        have HB := n0_
                        have BK := n1_
                        clear n0_ n1_
                        refine ⟨_, rfl, PF.out _ BK.out HB.out, fun hHeld => nm_ ?_⟩
                        refine on_ 31 46 (mk 33 0xFFFFFFFF) ?_
                        refine on_ 32 47 (mk 33 0x1FFFFFFFF) ?_
                        refine dn_ ?_
                        by_cases c7 : t3 = true
                        · rw [if_pos c7] at H
                          subst c7
                          have H' := Aside0.mk H
                          clear H
                          go_wp2
                          go_roundg k1
                          case measure => have := HK1.out; omega
                          case rel => exact ⟨wrap64 (i + 1), (by first | rfl | (simp; done) | (simp [*]; done)), H', ⟨by have := HK1.out; omega⟩, ⟨(by repeat (first | (with_reducible first | exact HB.out | apply below_alloc | apply pw_below_drewN | apply below_drew1) | exact HB.out))⟩⟩
                        · rw [if_neg c7] at H
                          replace c7 := Bool.eq_false_iff.mpr c7
                          subst c7
                          obtain rfl := Option.some.inj H
                          clear H
                          go_wp2
                          go_ret
                          exact ⟨(by first | rfl | (simp [errW_none, errW_some] <;> rfl) | (simp [*, errW_none, errW_some] <;> rfl)), (by repeat (first | (with_reducible first | exact HB.out | apply below_alloc | apply pw_below_drewN | apply below_drew1) | exact HB.out))⟩
                      · rw [if_neg c5] at H
                        have c2b : (t2 != d) = true := bne_iff_ne.mpr c5
                        obtain rfl := Option.some.inj H
                        clear H
                        refine on_ 25 40 (mk 33 0x3FFFFFF) ?_
                        refine on_ 26 41 (mk 33 0x7FFFFFF) ?_
                        refine on_ 27 42 (mk 33 0xFFFFFFF) ?_
                        refine of_ 28 43 (mk 33 0x1FFFFFFF) ?_
                        refine of_ 29 44 (mk 33 0x3FFFFFFF) ?_
                        refine of_ 30 45 (mk 33 0x7FFFFFFF) ?_
                        refine of_ 31 46 (mk 33 0xFFFFFFFF) ?_
                        refine on_ 32 47 (mk 33 0x1FFFFFFFF) ?_
                        refine dn_ ?_
                        go_wp2
                        go_ret
                        exact ⟨(by first | rfl | (simp [errW_none, errW_some] <;> rfl) | (simp [*, errW_none, errW_some] <;> rfl)), (by repeat (first | (with_reducible first | exact HB.out | apply below_alloc | apply pw_below_drewN | apply below_drew1) | exact HB.out))⟩
                    · rw [if_neg c1] at H
                      replace c1 := Bool.eq_false_iff.mpr c1
                      subst c1
                      obtain rfl := Option.some.inj H
                      clear H
                      refine on_ 17 32 (mk 33 0x3FFFF) ?_
                      refine on_ 18 33 (mk 33 0x7FFFF) ?_
                      refine on_ 19 34 (mk 33 0xFFFFF) ?_
                      refine of_ 20 35 (mk 33 0x1FFFFF) ?_
                      refine of_ 21 36 (mk 33 0x3FFFFF) ?_
                      refine of_ 22 37 (mk 33 0x7FFFFF) ?_
                      refine of_ 23 38 (mk 33 0xFFFFFF) ?_
                      refine of_ 24 39 (mk 33 0x1FFFFFF) ?_
                      refine of_ 25 40 (mk 33 0x3FFFFFF) ?_
                      refine on_ 26 41 (mk 33 0x7FFFFFF) ?_
                      refine on_ 27 42 (mk 33 0xFFFFFFF) ?_
                      refine of_ 28 43 (mk 33 0x1FFFFFFF) ?_
                      refine of_ 29 44 (mk 33 0x3FFFFFFF) ?_
                      refine of_ 30 45 (mk 33 0x7FFFFFFF) ?_
                      refine of_ 31 46 (mk 33 0xFFFFFFFF) ?_
                      refine on_ 32 47 (mk 33 0x1FFFFFFFF) ?_
                      refine dn_ ?_
                      go_wp2
                      go_ret
                      exact ⟨(by first | rfl | (simp [errW_none, errW_some] <;> rfl) | (simp [*, errW_none, errW_some] <;> rfl)), (by repeat (first | (with_reducible first | exact HB.out | apply below_alloc | apply pw_below_drewN | apply below_drew1) | exact HB.out))⟩
                · rw [if_neg c9] at H
                  exact absurd H (by simp)
              · rw [if_neg c8] at H
                exact absurd H (by simp)
            · rw [if_neg c6] at H
              have c6b0 : decide (0 < i) = false := decide_eq_false c6
              clear c6
              have PF := Aside0.mk (fun w' (b : w'.heap[gb]? = some (.cells #[.int .i64 d, .int .i64 kd, .slice A2 bd.length c2, .int .i64 ho, .int .i64 pa, .int .i64 qu, .int .i64 us] 63 (0, 0))) (hb : Below w.heap.size w w') => (show w'.cell? ⟨gb, 0, none⟩ = some (.int .i64 d) ∧ w'.cell? ⟨gb, 1, none⟩ = some (.int .i64 kd) ∧ w'.cell? ⟨gb, 2, none⟩ = some (.slice A2 bd.length c2) ∧ w'.cell? ⟨gb, 3, none⟩ = some (.int .i64 ho) ∧ w'.cell? ⟨gb, 4, none⟩ = some (.int .i64 pa) ∧ w'.cell? ⟨gb, 5, none⟩ = some (.int .i64 qu) ∧ w'.cell? ⟨gb, 6, none⟩ = some (.int .i64 us) from by obtain ⟨⟨h0, h1, h2, h3, h4, h5, h6⟩, _⟩ := box7z b; exact ⟨h0, h1, h2, h3, h4, h5, h6⟩))
              refine start_ (n := 33) (S := fun w' => w'.cell? ⟨gb, 0, none⟩ = some (.int .i64 d) ∧ w'.cell? ⟨gb, 1, none⟩ = some (.int .i64 kd) ∧ w'.cell? ⟨gb, 2, none⟩ = some (.slice A2 bd.length c2) ∧ w'.cell? ⟨gb, 3, none⟩ = some (.int .i64 ho) ∧ w'.cell? ⟨gb, 4, none⟩ = some (.int .i64 pa) ∧ w'.cell? ⟨gb, 5, none⟩ = some (.int .i64 qu) ∧ w'.cell? ⟨gb, 6, none⟩ = some (.int .i64 us)) (ds := []) (mk 33 0) (by kernel_rfl) rfl rfl (PF.out _ BK.out HB.out) (fun hHeld => ?_)
              refine with_tabW impl_IsStore.tab6 impl_IsStore.bits6 (fun HT_ HW_ => ?_)
              refine on_ 0 15 (mk 33 0x1) ?_
              refine on_ 1 16 (mk 33 0x3) ?_
              refine on_ 2 17 (mk 33 0x7) ?_
              refine of_ 3 18 (mk 33 0xF) ?_
              refine of_ 4 19 (mk 33 0x1F) ?_
              refine of_ 5 20 (mk 33 0x3F) ?_
              refine of_ 6 21 (mk 33 0x7F) ?_
              refine of_ 7 22 (mk 33 0xFF) ?_
              refine of_ 8 23 (mk 33 0x1FF) ?_
              refine of_ 9 24 (mk 33 0x3FF) ?_
              refine of_ 10 25 (mk 33 0x7FF) ?_
              refine of_ 11 26 (mk 33 0xFFF) ?_
              refine on_ 12 27 (mk 33 0x1FFF) ?_
              refine on_ 13 28 (mk 33 0x3FFF) ?_
              replace H := Option.bind_eq_some_iff.mp H
              obtain ⟨t1, A15, H⟩ := H
              have A15 := Aside0.mk A15
              refine on_ 14 29 (mk 33 0x7FFF) ?_
              refine rd_ 15 30 (mk 33 0xFFFF) ?_
              refine cl_ 16 31 (mk 33 0x1FFFF) Try.func62 #[.agg #[.int .i64 kd, .slice A2 bd.length c2, .int .i64 ho, .int .i64 pa, .int .i64 qu]] ?_
              refine (impl_IsResource.calls k1 kd _ _ bd ho pa qu _ _ (Kd.C_below HR2.out HB.out) HC2.out A15.out).mono ?_
              rintro e w25 ⟨rfl, hb⟩
              have n0_ := Aside0.mk (below_step HB.out hb)
              have n1_ := Aside0.mk (blk_below BK.out hb)
              clear HB BK
              have HB := n0_
              have BK := n1_
              clear n0_ n1_
              refine ⟨_, rfl, PF.out _ BK.out HB.out, fun hHeld => nm_ ?_⟩
              by_cases c1 : t1 = true
              · rw [if_pos c1] at H
                subst c1
                replace H := Option.bind_eq_some_iff.mp H
                obtain ⟨t2, A17, H⟩ := H
                have A17 := Aside0.mk A17
                refine on_ 17 32 (mk 33 0x3FFFF) ?_
                refine on_ 18 33 (mk 33 0x7FFFF) ?_
                refine on_ 19 34 (mk 33 0xFFFFF) ?_
                refine on_ 20 35 (mk 33 0x1FFFFF) ?_
                refine on_ 23 38 (mk 33 0x9FFFFF) ?_
                refine rd_ 21 36 (mk 33 0xBFFFFF) ?_
                refine rd_ 24 39 (mk 33 0x1BFFFFF) ?_
                refine cl_ 22 37 (mk 33 0x1FFFFFF) Try.func20 #[.agg #[.int .i64 kd, .slice A2 bd.length c2, .int .i64 ho, .int .i64 pa, .int .i64 qu]] ?_
                refine (impl_DigestOf.calls k1 kd _ _ bd ho pa qu _ _ (Kd.C_below HR2.out HB.out) HC2.out A17.out).mono ?_
                rintro e w26 ⟨rfl, hb⟩
                have n0_ := Aside0.mk (below_step HB.out hb)
                have n1_ := Aside0.mk (blk_below BK.out hb)
                clear HB BK
                have HB := n0_
                have BK := n1_
                clear n0_ n1_
                refine ⟨_, rfl, PF.out _ BK.out HB.out, fun hHeld => nm_ ?_⟩
                by_cases c5 : t2 = d
                · rw [if_pos c5] at H
                  have c2b : (t2 != d) = false := bne_eq_false_iff_eq.mpr c5
                  replace H := Option.bind_eq_some_iff.mp H
                  obtain ⟨t3, A19, H⟩ := H
                  have A19 := Aside0.mk A19
                  refine on_ 25 40 (mk 33 0x3FFFFFF) ?_
                  refine on_ 26 41 (mk 33 0x7FFFFFF) ?_
                  refine on_ 27 42 (mk 33 0xFFFFFFF) ?_
                  refine on_ 28 43 (mk 33 0x1FFFFFFF) ?_
                  refine rd_ 29 44 (mk 33 0x3FFFFFFF) ?_
                  refine cl_ 30 45 (mk 33 0x7FFFFFFF) Try.func63 #[.int .i64 us, .int .i64 1, .int .i64 1000] ?_
                  refine (impl_InRange.calls us 1 1000 _ _ A19.out).mono ?_
                  rintro e w27 ⟨rfl, nd, rfl⟩
                  have n0_ := Aside0.mk (pw_below_drewN HB.out nd)
                  have n1_ := Aside0.mk (blk_drewN BK.out nd)
                  clear HB BK
                  have HB := n0_
                  have BK := n1_
                  clear n0_ n1_
                  refine ⟨_, rfl, PF.out _ BK.out HB.out, fun hHeld => nm_ ?_⟩
                  refine on_ 31 46 (mk 33 0xFFFFFFFF) ?_
                  refine on_ 32 47 (mk 33 0x1FFFFFFFF) ?_
                  refine dn_ ?_
                  by_cases c7 : t3 = true
                  · rw [if_pos c7] at H
                    subst c7
                    have H' := Aside0.mk H
                    clear H
                    go_wp2
                    go_roundg k1
                    case measure => have := HK1.out; omega
                    case rel => exact ⟨wrap64 (i + 1), (by first | rfl | (simp; done) | (simp [*]; done)), H', ⟨by have := HK1.out; omega⟩, ⟨(by repeat (first | (with_reducible first | exact HB.out | apply below_alloc | apply pw_below_drewN | apply below_drew1) | exact HB.out))⟩⟩
                  · rw [if_neg c7] at H
                    replace c7 := Bool.eq_false_iff.mpr c7
                    subst c7
                    obtain rfl := Option.some.inj H
                    clear H
                    go_wp2
                    go_ret
                    exact ⟨(by first | rfl | (simp [errW_none, errW_some] <;> rfl) | (simp [*, errW_none, errW_some] <;> rfl)), (by repeat (first | (with_reducible first | exact HB.out | apply below_alloc | apply pw_below_drewN | apply below_drew1) | exact HB.out))⟩
                · rw [if_neg c5] at H
                  have c2b : (t2 != d) = true := bne_iff_ne.mpr c5
                  obtain rfl := Option.some.inj H
                  clear H
                  refine on_ 25 40 (mk 33 0x3FFFFFF) ?_
                  refine on_ 26 41 (mk 33 0x7FFFFFF) ?_
                  refine on_ 27 42 (mk 33 0xFFFFFFF) ?_
                  refine of_ 28 43 (mk 33 0x1FFFFFFF) ?_
                  refine of_ 29 44 (mk 33 0x3FFFFFFF) ?_
                  refine of_ 30 45 (mk 33 0x7FFFFFFF) ?_
                  refine of_ 31 46 (mk 33 0xFFFFFFFF) ?_
                  refine on_ 32 47 (mk 33 0x1FFFFFFFF) ?_
                  refine dn_ ?_
                  go_wp2
                  go_ret
                  exact ⟨(by first | rfl | (simp [errW_none, errW_some] <;> rfl) | (simp [*, errW_none, errW_some] <;> rfl)), (by repeat (first | (with_reducible first | exact HB.out | apply below_alloc | apply pw_below_drewN | apply below_drew1) | exact HB.out))⟩
              · rw [if_neg c1] at H
                replace c1 := Bool.eq_false_iff.mpr c1
                subst c1
                obtain rfl := Option.some.inj H
                clear H
                refine on_ 17 32 (mk 33 0x3FFFF) ?_
                refine on_ 18 33 (mk 33 0x7FFFF) ?_
                refine on_ 19 34 (mk 33 0xFFFFF) ?_
                refine of_ 20 35 (mk 33 0x1FFFFF) ?_
                refine of_ 21 36 (mk 33 0x3FFFFF) ?_
                refine of_ 22 37 (mk 33 0x7FFFFF) ?_
                refine of_ 23 38 (mk 33 0xFFFFFF) ?_
                refine of_ 24 39 (mk 33 0x1FFFFFF) ?_
                refine of_ 25 40 (mk 33 0x3FFFFFF) ?_
                refine on_ 26 41 (mk 33 0x7FFFFFF) ?_
                refine on_ 27 42 (mk 33 0xFFFFFFF) ?_
                refine of_ 28 43 (mk 33 0x1FFFFFFF) ?_
                refine of_ 29 44 (mk 33 0x3FFFFFFF) ?_
                refine of_ 30 45 (mk 33 0x7FFFFFFF) ?_
                refine of_ 31 46 (mk 33 0xFFFFFFFF) ?_
                refine on_ 32 47 (mk 33 0x1FFFFFFFF) ?_
                refine dn_ ?_
                go_wp2
                go_ret
                exact ⟨(by first | rfl | (simp [errW_none, errW_some] <;> rfl) | (simp [*, errW_none, errW_some] <;> rfl)), (by repeat (first | (with_reducible first | exact HB.out | apply below_alloc | apply pw_below_drewN | apply below_drew1) | exact HB.out))⟩
          · rw [if_neg c4] at H
            exact absurd H (by simp)
        · rw [if_neg c3] at H
          have c3b0 : decide (i < (l0.length : Int)) = false := decide_eq_false c3
          obtain rfl := Option.some.inj H
          clear c3 H
          go_wp2
          go_ret
          exact ⟨(by first | rfl | (simp [errW_none, errW_some] <;> rfl) | (simp [*, errW_none, errW_some] <;> rfl)), (by repeat (first | (with_reducible first | exact HB.out | apply below_alloc | apply pw_below_drewN | apply below_drew1) | exact HB.out))⟩

/-! ### slices_Clone_int_int: function 72 -/
def slices_Clone_int_int.f (l0 : List Int) : Option (List Int) := (some (([] : List Int) : List Int)).bind fun y283 => (if y283.length + l0.length < 17592186044416 then (some (y283 ++ l0)) else (none))
set_option maxHeartbeats 8000000 in
set_option maxRecDepth 100000 in
theorem slices_Clone_int_int.calls (A0 : Option Addr) (c0 : Nat) (l0 : List Int) (r : List Int) (w : World) (hr0 : Kd.C (Kd.int .i64) w A0 l0.length l0) (hc0 : l0.length ≤ c0) (h : slices_Clone_int_int.f l0 = some r) :
    Calls Try.prog 72 #[.slice A0 l0.length c0] w fun e w' => ∃ v0_ : Value, e = .returned (v0_) ∧ Kd.R (Kd.int .i64) 3 w' w.heap.size (fun _ => True) v0_ r ∧ Below w.heap.size w w' := by
  have HR0 := Aside0.mk hr0
  have HC0 := Aside0.mk hc0
  clear hr0 hc0
  have HB := Aside0.mk (Below.refl w.heap.size w)
  have H : ((some (([] : List Int) : List Int)).bind fun y283 => (if y283.length + l0.length < 17592186044416 then (some (y283 ++ l0)) else (none))) = some r := h
  clear h
  obtain ⟨y283, hy283⟩ : ∃ y_ : List Int, y_ = (([] : List Int)) := ⟨_, rfl⟩
  replace H : (if y283.length + l0.length < 17592186044416 then (some (y283 ++ l0)) else (none)) = some r := by first | (rw [hy283]; with_reducible exact H) | (have H2_ := (Option.bind_some _ _).symm.trans H; rw [hy283]; with_reducible exact H2_) | (have H2_ := (Option.bind_some _ _).symm.trans H; with_reducible exact H2_) | with_reducible exact H | (rw [hy283]; exact H) | exact H
  have Ny283 := Aside0.mk hy283
  clear hy283
  by_cases c2 : y283.length + l0.length < 17592186044416
  · rw [if_pos c2] at H
    have LMc2 := Aside0.mk c2
    clear c2
    obtain ⟨y286, hy286⟩ : ∃ y_ : List Int, y_ = (y283 ++ l0) := ⟨_, rfl⟩
    replace H : (some y286) = some r := by first | (rw [hy286]; with_reducible exact H) | (have H2_ := (Option.bind_some _ _).symm.trans H; rw [hy286]; with_reducible exact H2_) | (have H2_ := (Option.bind_some _ _).symm.trans H; with_reducible exact H2_) | with_reducible exact H | (rw [hy286]; exact H) | exact H
    have Ny286 := Aside0.mk hy286
    clear hy286
    obtain rfl := Option.some.inj H
    rcases A0 with _ | ad0
    · have hl0 : l0 = [] := by
        rcases Nat.eq_zero_or_pos l0.length with h0 | hp
        · exact List.eq_nil_of_length_eq_zero h0
        · obtain ⟨ad, e, _⟩ := HR0.out.2.2 hp
          cases e
      have he : y286 = [] := by rw [Ny286.out, Ny283.out, hl0]; rfl
      have HE := Aside0.mk he
      clear he
      have heq : ∀ (c : Nat) (W : World), (binOp .eql 23 (.slice none 0 c) (.slice none 0 0)).run Try.prog W = .ok (.bool true) W := fun c W => by rfl
      subst hl0
      go_enter Try.func72, Try.ntmps72
      go_wp2
      go_ret
      exact ⟨_, by first | rfl | (simp; done) | (simp [*]; done), by rw [HE.out]; exact Kd.R_nil _ _ _ _ _, by repeat (first | exact HB.out | apply below_alloc | apply pw_below_drewN | apply below_drew1)⟩
    · have hne : ∀ (ad : Addr) (n c : Nat) (W : World), (binOp .eql 23 (.slice (some ad) n c) (.slice none 0 0)).run Try.prog W = .ok (.bool false) W := fun ad n c W => by rfl
      go_enter Try.func72, Try.ntmps72
      go_wp2_with (first | ((with_reducible refine gate_dst (N := 5) rfl ?_); refine Kd.R_lit (Kd.int .i64) _ 3 ?hg (N := 5) ?hd (xs := ([] : List Int)) (inner := []) (ok := fun _ => True) (okp := fun _ => True) ?hr ?hp (fun _ hk => hk) trivial (Below.refl _ _) (Nat.le_refl _) (by simp) ?_; (case hd => rfl); (case hg => rfl); (case hr => first | (go_simp; done) | (go_simp; rfl)); (case hp => exact (Reps.none _ _)); intro v284 w3 ho4 hb hg_ hnew_; clear hg_ hnew_; (first | rw [← Ny283.out] at ho4 | (simp only [Int.reduceToNat] at ho4; rw [← Ny283.out] at ho4)); have n0_ := Aside0.mk (Kd.R_lower ho4 (below_size (by repeat (first | (with_reducible first | exact HB.out | apply below_alloc | apply pw_below_drewN | apply below_drew1) | exact HB.out)))); have n1_ := Aside0.mk (below_step (by repeat (first | (with_reducible first | exact HB.out | apply below_alloc | apply pw_below_drewN | apply below_drew1) | exact HB.out)) hb); clear HB; have HO285 := n0_; have HB := n1_; clear n0_ n1_; clear hb ho4) | ((with_reducible refine gate_builtin (b := .append) (xs := #[.tmp 5, .tmp 6]) rfl ?_); at_builtin; refine Kd.R_append_rows (Kd.int .i64) (w0 := w) w.heap.size rfl (.tmp 5) (.tmp 6) 23 3 (.int .i64 0) 8 rfl Try.underlying23 info3 rfl (by decide) (by omega) v284 y283 l0 _ _ _ (fun _ => True) (fun _ => False) rfl rfl ?aO ?aR (fun _ _ h => h) (fun _ h => h.elim) ?aF ?aB ?aS ?aL ?_; (case aR => repeat (first | exact (Kd.C_below HR0.out HB.out) | (with_reducible refine Kd.C_alloc ?_ _) | (with_reducible refine Kd.C_drewN ?_ _) | (with_reducible refine Kd.C_drew ?_))); (case aB => exact (by repeat (first | (with_reducible first | exact HB.out | apply below_alloc | apply pw_below_drewN | apply below_drew1) | exact HB.out))); (case aF => exact (fun _ _ => trivial)); (case aO => exact (by (with_reducible repeat (first | apply Kd.R_alloc | apply Kd.R_drewN | apply Kd.R_drew)); exact HO285.out)); (case aS => exact (below_size (by repeat (first | (with_reducible first | exact HB.out | apply below_alloc | apply pw_below_drewN | apply below_drew1) | exact HB.out)))); (case aL => have := LMc2.out; omega); intro v287 w5 ho hb hg hat; rw [← Ny286.out] at ho; have n0_ := Aside0.mk (hb); have n1_ := Aside0.mk (ho); clear HB; clear HO285; have HB := n0_; have HO288 := n1_; clear n0_ n1_; clear ho hb hg hat))
      go_ret
      exact ⟨_, by first | rfl | (simp [errW_none, errW_some] <;> rfl) | (simp [*, errW_none, errW_some] <;> rfl), by (with_reducible repeat (first | apply Kd.R_alloc | apply Kd.R_drewN | apply Kd.R_drew)); exact HO288.out, by repeat (first | (with_reducible first | exact HB.out | apply below_alloc | apply pw_below_drewN | apply below_drew1) | exact HB.out)⟩
  · rw [if_neg c2] at H
    exact absurd H (by simp)

/-! ### impl_copyResource: function 44 -/
def impl_copyResource.f (a0_0 : Int) (l0_1 : List Int) (a0_2 : Int) (a0_3 : Int) (a0_4 : Int) : Option (Int × List Int × Int × Int × Int) := (slices_Clone_int_int.f l0_1).bind fun t291 => (some (a0_0, t291, a0_2, a0_3, a0_4))
set_option maxHeartbeats 8000000 in
set_option maxRecDepth 100000 in
theorem impl_copyResource.calls (a0_0 : Int) (A0_1 : Option Addr) (c0_1 : Nat) (l0_1 : List Int) (a0_2 : Int) (a0_3 : Int) (a0_4 : Int) (r1 : Int) (r2 : List Int) (r3 : Int) (r4 : Int) (r5 : Int) (w : World) (hr0_1 : Kd.C (Kd.int .i64) w A0_1 l0_1.length l0_1) (hc0_1 : l0_1.length ≤ c0_1) (h : impl_copyResource.f a0_0 l0_1 a0_2 a0_3 a0_4 = some (r1, r2, r3, r4, r5)) :
    Calls Try.prog 44 #[.agg #[.int .i64 a0_0, .slice A0_1 l0_1.length c0_1, .int .i64 a0_2, .int .i64 a0_3, .int .i64 a0_4]] w fun e w' => ∃ v1_ : Value, e = .returned (.agg #[.int .i64 r1, v1_, .int .i64 r3, .int .i64 r4, .int .i64 r5]) ∧ Kd.R (Kd.int .i64) 3 w' w.heap.size (fun _ => True) v1_ r2 ∧ Below w.heap.size w w' := by
  have hu36 := Try.underlying36
  have HR0_1 := Aside0.mk hr0_1
  have HC0_1 := Aside0.mk hc0_1
  clear hr0_1 hc0_1
  have HB := Aside0.mk (Below.refl w.heap.size w)
  have H : ((slices_Clone_int_int.f l0_1).bind fun t291 => (some (a0_0, t291, a0_2, a0_3, a0_4))) = some (r1, r2, r3, r4, r5) := h
  clear h
  replace H := Option.bind_eq_some_iff.mp H
  obtain ⟨t291, A20, H⟩ := H
  replace H : (some (a0_0, t291, a0_2, a0_3, a0_4)) = some (r1, r2, r3, r4, r5) := H
  have A2 := Aside0.mk A20
  clear A20
  simp only [Option.some.injEq, Prod.mk.injEq] at H
  obtain ⟨rfl, rfl, rfl, rfl, rfl⟩ := H
  go_enter Try.func44, Try.ntmps44
  go_wp2_with (first | ((with_reducible refine gate_dst (N := 1) rfl ?_); refine box_event ?hg (N := 1) ?hd (cs := #[.int .i64 a0_0, .slice A0_1 l0_1.length c0_1, .int .i64 a0_2, .int .i64 a0_3, .int .i64 a0_4]) (t := 36) ?hr ?_; (case hd => rfl); (case hg => rfl); (case hr => first | (go_simp; done) | (go_simp; rfl)); intro gb289 hg w3 hbox hb; have n0_ := Aside0.mk (below_step (by repeat (first | (with_reducible first | exact HB.out | apply below_alloc | apply pw_below_drewN | apply below_drew1) | exact HB.out)) hb); have n1_ := Aside0.mk (hbox); have n2_ := Aside0.mk ((by rw [hg]; exact (below_size (by repeat (first | (with_reducible first | exact HB.out | apply below_alloc | apply pw_below_drewN | apply below_drew1) | exact HB.out))) : w.heap.size ≤ gb289)); have n3_ := Aside0.mk ((by rw [hg]; exact (below_size (by repeat (first | (with_reducible first | exact HB.out | apply below_alloc | apply pw_below_drewN | apply below_drew1) | exact HB.out))) : w.heap.size ≤ gb289)); clear HB; have HB := n0_; have BK289 := n1_; have GW289 := n2_; have GE289 := n3_; clear n0_ n1_ n2_ n3_; clear hb hbox hg) | ((with_reducible refine gate_dst (N := 2) rfl ?_); refine box_event ?hg (N := 2) ?hd (cs := #[.int .i64 0, .slice none 0 0, .int .i64 0, .int .i64 0, .int .i64 0]) (t := 36) ?hr ?_; (case hd => rfl); (case hg => rfl); (case hr => first | (go_simp; done) | (go_simp; rfl)); intro gb290 hg w4 hbox hb; have n0_ := Aside0.mk (blk_below (g := gb289) (o := .cells #[.int .i64 a0_0, .slice A0_1 l0_1.length c0_1, .int .i64 a0_2, .int .i64 a0_3, .int .i64 a0_4] 36 (0, 0)) (by (with_reducible repeat (first | refine blk_drewN ?_ _ | refine blk_drew ?_ | refine blk_alloc ?_ _)); exact BK289.out) hb); have n1_ := Aside0.mk (below_step (by repeat (first | (with_reducible first | exact HB.out | apply below_alloc | apply pw_below_drewN | apply below_drew1 | refine below_set ?_ GE289.out) | exact HB.out)) hb); have n2_ := Aside0.mk (hbox); have n3_ := Aside0.mk ((by rw [hg]; exact (below_size (by repeat (first | (with_reducible first | exact HB.out | apply below_alloc | apply pw_below_drewN | apply below_drew1 | refine below_set ?_ GE289.out) | exact HB.out))) : w.heap.size ≤ gb290)); have n4_ := Aside0.mk ((by rw [hg]; exact (below_size (by repeat (first | (with_reducible first | exact HB.out | apply below_alloc | apply pw_below_drewN | apply below_drew1 | refine below_set ?_ GE289.out) | exact HB.out))) : w.heap.size ≤ gb290)); have n5_ := Aside0.mk ((by rw [hg]; exact Nat.ne_of_lt (blk_lt (g := gb289) (o := .cells #[.int .i64 a0_0, .slice A0_1 l0_1.length c0_1, .int .i64 a0_2, .int .i64 a0_3, .int .i64 a0_4] 36 (0, 0)) (by (with_reducible repeat (first | refine blk_drewN ?_ _ | refine blk_drew ?_ | refine blk_alloc ?_ _)); exact BK289.out)) : gb289 ≠ gb290)); have n6_ := Aside0.mk ((by rw [hg]; exact Nat.ne_of_gt (blk_lt (g := gb289) (o := .cells #[.int .i64 a0_0, .slice A0_1 l0_1.length c0_1, .int .i64 a0_2, .int .i64 a0_3, .int .i64 a0_4] 36 (0, 0)) (by (with_reducible repeat (first | refine blk_drewN ?_ _ | refine blk_drew ?_ | refine blk_alloc ?_ _)); exact BK289.out)) : gb290 ≠ gb289)); clear BK289; clear HB; have BK289 := n0_; have HB := n1_; have BK290 := n2_; have GW290 := n3_; have GE290 := n4_; have NB289_290 := n5_; have NB290_289 := n6_; clear n0_ n1_ n2_ n3_ n4_ n5_ n6_; clear hb hbox hg; have hnb5 := NB289_290.out; have hnc5 := NB290_289.out; have hcz6_0 : w4.cell? ⟨gb289, 0, none⟩ = some (.int .i64 a0_0) := (blk_cell BK289.out 0).trans rfl; have hcz6_1 : w4.cell? ⟨gb289, 1, none⟩ = some (.slice A0_1 l0_1.length c0_1) := (blk_cell BK289.out 1).trans rfl; have hcz6_2 : w4.cell? ⟨gb289, 2, none⟩ = some (.int .i64 a0_2) := (blk_cell BK289.out 2).trans rfl; have hcz6_3 : w4.cell? ⟨gb289, 3, none⟩ = some (.int .i64 a0_3) := (blk_cell BK289.out 3).trans rfl; have hcz6_4 : w4.cell? ⟨gb289, 4, none⟩ = some (.int .i64 a0_4) := (blk_cell BK289.out 4).trans rfl; have hfz6_0 := blk_frozen BK289.out 0; have hfz6_1 := blk_frozen BK289.out 1; have hfz6_2 := blk_frozen BK289.out 2; have hfz6_3 := blk_frozen BK289.out 3; have hfz6_4 := blk_frozen BK289.out 4) | ((with_reducible refine gate_callee (f := 72) rfl ?_); refine goesL_ (some 5) rfl rfl Try.func72 (by kernel_rfl) rfl #[.slice A0_1 l0_1.length c0_1] rfl (by (try simp only [List.map_toArray, List.map_cons, List.map_nil]); first | done | rfl | (simp only [List.length_drop, List.length_take]; rfl)) ?_; (with_reducible refine (slices_Clone_int_int.calls _ _ l0_1 t291 _ ?side1 ?side2 A2.out).mono ?_); (case side1 => repeat (first | exact (Kd.C_below HR0_1.out HB.out) | (with_reducible refine Kd.C_alloc ?_ _) | (with_reducible refine Kd.C_drewN ?_ _) | (with_reducible refine Kd.C_drew ?_))); (case side2 => exact HC0_1.out); rintro e w7 ⟨v292, rfl, ho0, hb⟩; refine ⟨_, rfl, ?_⟩; have n0_ := Aside0.mk (Kd.R_lower ho0 (below_size (by repeat (first | (with_reducible first | exact HB.out | apply below_alloc | apply pw_below_drewN | apply below_drew1 | refine below_set ?_ GE289.out | refine below_set ?_ GE290.out) | exact HB.out)))); have n1_ := Aside0.mk (blk_below (g := gb289) (o := .cells #[.int .i64 a0_0, .slice A0_1 l0_1.length c0_1, .int .i64 a0_2, .int .i64 a0_3, .int .i64 a0_4] 36 (0, 0)) (by (with_reducible repeat (first | refine blk_drewN ?_ _ | refine blk_drew ?_ | refine blk_alloc ?_ _)); exact BK289.out) hb); have n2_ := Aside0.mk (blk_below (g := gb290) (o := .cells #[.int .i64 0, .slice none 0 0, .int .i64 0, .int .i64 0, .int .i64 0] 36 (0, 0)) (by (with_reducible repeat (first | refine blk_drewN ?_ _ | refine blk_drew ?_ | refine blk_alloc ?_ _)); exact BK290.out) hb); have n3_ := Aside0.mk (below_step (by repeat (first | (with_reducible first | exact HB.out | apply below_alloc | apply pw_below_drewN | apply below_drew1 | refine below_set ?_ GE289.out | refine below_set ?_ GE290.out) | exact HB.out)) hb); clear BK289; clear BK290; clear HB; have HO293 := n0_; have BK289 := n1_; have BK290 := n2_; have HB := n3_; clear n0_ n1_ n2_ n3_; (try clear hb); (try clear hb2); (try clear hk); (try clear hi); (try clear ho0); obtain ⟨Ao8, co8, eo8⟩ := Kd.R_slice HO293.out; subst eo8; have hcz9_0 : w7.cell? ⟨gb289, 0, none⟩ = some (.int .i64 a0_0) := (blk_cell BK289.out 0).trans rfl; have hcz9_1 : w7.cell? ⟨gb289, 1, none⟩ = some (.slice A0_1 l0_1.length c0_1) := (blk_cell BK289.out 1).trans rfl; have hcz9_2 : w7.cell? ⟨gb289, 2, none⟩ = some (.int .i64 a0_2) := (blk_cell BK289.out 2).trans rfl; have hcz9_3 : w7.cell? ⟨gb289, 3, none⟩ = some (.int .i64 a0_3) := (blk_cell BK289.out 3).trans rfl; have hcz9_4 : w7.cell? ⟨gb289, 4, none⟩ = some (.int .i64 a0_4) := (blk_cell BK289.out 4).trans rfl; have hfz9_0 := blk_frozen BK289.out 0; have hfz9_1 := blk_frozen BK289.out 1; have hfz9_2 := blk_frozen BK289.out 2; have hfz9_3 := blk_frozen BK289.out 3; have hfz9_4 := blk_frozen BK289.out 4; have hcz10_0 : w7.cell? ⟨gb290, 0, none⟩ = some (.int .i64 0) := (blk_cell BK290.out 0).trans rfl; have hcz10_1 : w7.cell? ⟨gb290, 1, none⟩ = some (.slice none 0 0) := (blk_cell BK290.out 1).trans rfl; have hcz10_2 : w7.cell? ⟨gb290, 2, none⟩ = some (.int .i64 0) := (blk_cell BK290.out 2).trans rfl; have hcz10_3 : w7.cell? ⟨gb290, 3, none⟩ = some (.int .i64 0) := (blk_cell BK290.out 3).trans rfl; have hcz10_4 : w7.cell? ⟨gb290, 4, none⟩ = some (.int .i64 0) := (blk_cell BK290.out 4).trans rfl; have hfz10_0 := blk_frozen BK290.out 0; have hfz10_1 := blk_frozen BK290.out 1; have hfz10_2 := blk_frozen BK290.out 2; have hfz10_3 := blk_frozen BK290.out 3; have hfz10_4 := blk_frozen BK290.out 4))
  refine bodyPost_ret (results_cell_row rfl _ _ gb290 36 #[.int .i64 a0_0, .slice Ao8 t291.length co8, .int .i64 a0_2, .int .i64 a0_3, .int .i64 a0_4] (0, 0) _ rfl (by (with_reducible repeat (first | refine blk_drewN ?_ _ | refine blk_drew ?_ | refine blk_alloc ?_ _)); refine blk_put (cs := #[.int .i64 a0_0, .slice Ao8 t291.length co8, .int .i64 a0_2, .int .i64 a0_3, .int .i64 0]) ?_ 4 _ rfl; (with_reducible repeat (first | refine blk_drewN ?_ _ | refine blk_drew ?_ | refine blk_alloc ?_ _)); refine blk_put (cs := #[.int .i64 a0_0, .slice Ao8 t291.length co8, .int .i64 a0_2, .int .i64 0, .int .i64 0]) ?_ 3 _ rfl; (with_reducible repeat (first | refine blk_drewN ?_ _ | refine blk_drew ?_ | refine blk_alloc ?_ _)); refine blk_put (cs := #[.int .i64 a0_0, .slice Ao8 t291.length co8, .int .i64 0, .int .i64 0, .int .i64 0]) ?_ 2 _ rfl; (with_reducible repeat (first | refine blk_drewN ?_ _ | refine blk_drew ?_ | refine blk_alloc ?_ _)); refine blk_put (cs := #[.int .i64 a0_0, .slice none 0 0, .int .i64 0, .int .i64 0, .int .i64 0]) ?_ 1 _ rfl; (with_reducible repeat (first | refine blk_drewN ?_ _ | refine blk_drew ?_ | refine blk_alloc ?_ _)); refine blk_put (cs := #[.int .i64 0, .slice none 0 0, .int .i64 0, .int .i64 0, .int .i64 0]) ?_ 0 _ rfl; (with_reducible repeat (first | refine blk_drewN ?_ _ | refine blk_drew ?_ | refine blk_alloc ?_ _)); refine blk_far ?_ NB290_289.out _; (with_reducible repeat (first | refine blk_drewN ?_ _ | refine blk_drew ?_ | refine blk_alloc ?_ _)); exact BK290.out) Try.underlying36 rfl (by kernel_rfl)) rfl ?_
  exact ⟨_, by first | rfl | (simp [errW_none, errW_some] <;> rfl) | (simp [*, errW_none, errW_some] <;> rfl), by (with_reducible repeat (first | apply Kd.R_alloc | apply Kd.R_drewN | apply Kd.R_drew)); exact Kd.R_mono (Kd.R_far (p := ⟨gb290, 4, none⟩) (Kd.R_far (p := ⟨gb290, 3, none⟩) (Kd.R_far (p := ⟨gb290, 2, none⟩) (Kd.R_far (p := ⟨gb290, 1, none⟩) (Kd.R_far (p := ⟨gb290, 0, none⟩) (Kd.R_far (p := ⟨gb289, 1, none⟩) (Kd.R_types (Kd.R_types HO293.out BK289.out (by decide)) BK290.out (by decide)) (fun _ hk => hk.1.2) (.slice Ao8 t291.length co8)) (fun _ hk => hk.2) (.int .i64 a0_0)) (fun _ hk => hk.2) (.slice Ao8 t291.length co8)) (fun _ hk => hk.2) (.int .i64 a0_2)) (fun _ hk => hk.2) (.int .i64 a0_3)) (fun _ hk => hk.2) (.int .i64 a0_4)) (fun _ hk => trivial), by repeat (first | (with_reducible first | exact HB.out | apply below_alloc | apply pw_below_drewN | apply below_drew1 | refine below_set ?_ GE289.out | refine below_set ?_ GE290.out) | exact HB.out)⟩

end Go.Proofs.Ytlpfobakbgipbaa.QFnExactPutPart
