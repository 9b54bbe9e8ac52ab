/- The Go functions that the law FnExactTakePart comes to, each as a Lean function, with a proof that the call does what it says; written by a program of this session over the print of the kit. No conditions. -/
import Derived.Test.YtlpfobakbgipbaaQFnExactTakePartx0
import Derived.Test.YtlpfobakbgipbaaQFnExactTakePartx2
import Derived.Test.YtlpfobakbgipbaaQFnExactTakePartx3
import Derived.Test.YtlpfobakbgipbaaQFnExactTakePartx4
import Derived.Test.YtlpfobakbgipbaaQFnExactTakePartx5
import Derived.Test.YtlpfobakbgipbaaQFnExactTakePartx7
import Derived.Test.YtlpfobakbgipbaaQFnExactTakePartx9
namespace Go.Proofs.Ytlpfobakbgipbaa.QFnExactTakePart
open Go.RowKit Go.Proofs.YtlpfobakbgipbaaW.PrintWords Go.Proofs.YtlpfobakbgipbaaW.PrintLast Go.Proofs.YtlpfobakbgipbaaW.PrintMore
attribute [local go_sem] max2_int min2_int max_two min_two max_three min_three max_four min_four   -- for this text's walks alone
set_option linter.unusedVariables false
set_option linter.unusedSimpArgs false

/-! ### spec_l7Copy: function 35 -/
def spec_l7Copy.l0 : Nat → List (S63) → List (S63) → Int → Option ((List (S63)))
  | 0, _, _, _ => none
  | k + 1, x0, x3, x4 => if x4 < (x0.length : Int) then (if 0 ≤ x4 then ((spec_l5Copy.f ((rd_T63 x0 x4).f1.f0) ((rd_T63 x0 x4).f1.f1) ((rd_T63 x0 x4).f1.f2.f0) ((rd_T63 x0 x4).f1.f2.f1) ((rd_T63 x0 x4).f1.f2.f2)).bind fun bt295 => (if x3.length < 1954687338268 then (spec_l7Copy.l0 k x0 (x3 ++ [(⟨(rd_T63 x0 x4).f0, (⟨bt295.1, bt295.2.1, (⟨bt295.2.2.1, bt295.2.2.2.1, bt295.2.2.2.2⟩ : S34)⟩ : S36), (rd_T63 x0 x4).f2⟩ : S63)]) (wrap64 (x4 + 1))) else (none))) else (none)) else (some x3)
def spec_l7Copy.f (k : Nat) (l0 : List (S63)) : Option ((List (S63))) := spec_l7Copy.l0 k l0 (([] : List (S63))) 0
theorem spec_l7Copy.mono_l : ∀ k, (∀ y0 y1 y2, LeO (spec_l7Copy.l0 k y0 y1 y2) (spec_l7Copy.l0 (k + 1) y0 y1 y2))
  | 0 => fun _ _ _ r h => by simp [spec_l7Copy.l0] at h
  | k + 1 => by
    have ih0 := spec_l7Copy.mono_l k
    · intro y0 y1 y2
      unfold spec_l7Copy.l0
      repeat' first
      | (with_reducible exact ih0 _ _ _)
      | (with_reducible exact LeO.refl _)
      | (with_reducible exact LeO.none _)
      | (with_reducible refine LeO.ite ?_ ?_)
      | (with_reducible refine LeO.bind ?_ (fun _ => ?_))
      | exact ih0 _ _ _
      | exact LeO.none _
      | refine LeO.ite ?_ ?_
      | refine LeO.bind ?_ (fun _ => ?_)
theorem spec_l7Copy.mono : ∀ a0 k, LeO (spec_l7Copy.f k a0) (spec_l7Copy.f (k + 1) a0) := by
  intro a0 k
  have ih0 := spec_l7Copy.mono_l k
  unfold spec_l7Copy.f
  repeat' first
      | (with_reducible exact ih0 _ _ _)
      | (with_reducible exact LeO.refl _)
      | (with_reducible exact LeO.none _)
      | (with_reducible refine LeO.ite ?_ ?_)
      | (with_reducible refine LeO.bind ?_ (fun _ => ?_))
      | exact ih0 _ _ _
      | exact LeO.none _
      | refine LeO.ite ?_ ?_
      | refine LeO.bind ?_ (fun _ => ?_)
def spec_l7Copy.T5 : Bool × List (List Nat × List Nat) := (true, [([], []), ([], []), ([], []), ([1, 2], [1, 2]), ([3], [3]), ([4], [4]), ([], []), ([], []), ([6, 7], [6, 7]), ([8], [8]), ([9], [9]), ([10], [10]), ([], []), ([], []), ([12, 13], [12, 13]), ([14], [14]), ([15], [15]), ([5, 11, 16], [5, 11, 16]), ([17], [17]), ([0, 18, 11], [0, 18]), ([19, 19, 0, 1, 2, 3, 4, 5, 6, 7, 8, 9, 10, 11, 12, 13, 14, 15, 16, 17, 18, 19], [0, 19])])
def spec_l7Copy.B5 : List Nat := [0, 0, 0, 6, 14, 30, 0, 0, 192, 448, 960, 1984, 0, 0, 12288, 28672, 61440, 131070, 262142, 524287, 1048575]
theorem spec_l7Copy.tab5 : rtab .any (opsOf Try.f35 5) = spec_l7Copy.T5 := by kernel_rfl
theorem spec_l7Copy.bits5 : waitsOk spec_l7Copy.T5.2 spec_l7Copy.B5 = true := by kernel_rfl
set_option maxHeartbeats 8000000 in
set_option maxRecDepth 100000 in
theorem spec_l7Copy.calls (k : Nat) (A0 : Option Addr) (c0 : Nat) (l0 : List (S63)) (r : List (S63)) (w : World) (hr0 : Kd.C k63 w A0 l0.length l0) (hc0 : l0.length ≤ c0) (h : spec_l7Copy.f k l0 = some r) :
    Calls Try.prog 35 #[.slice A0 l0.length c0] w fun e w' => ∃ v0_ : Value, e = .returned (v0_) ∧ Kd.S k63 63 w' w.heap.size (fun _ => True) v0_ r ∧ Below w.heap.size w w' := by
  have hu36 := Try.underlying36
  have hu63 := Try.underlying63
  have HR0 := Aside0.mk hr0
  have HC0 := Aside0.mk hc0
  clear hr0 hc0
  have HB := Aside0.mk (Below.refl w.heap.size w)
  have H : (spec_l7Copy.l0 k l0 (([] : List (S63))) 0) = some r := h
  clear h
  obtain ⟨y290, hy290⟩ : ∃ y_ : List (S63), y_ = (([] : List (S63))) := ⟨_, rfl⟩
  replace H : (spec_l7Copy.l0 k l0 y290 0) = some r := by first | (rw [hy290]; with_reducible exact H) | (have H2_ := (Option.bind_some _ _).symm.trans H; rw [hy290]; with_reducible exact H2_) | (have H2_ := (Option.bind_some _ _).symm.trans H; with_reducible exact H2_) | with_reducible exact H | (rw [hy290]; exact H) | exact H
  have Ny290 := Aside0.mk hy290
  clear hy290
  have H' := Aside0.mk H
  clear H
  go_enter Try.func35, Try.ntmps35
  go_wp2_with (first | ((with_reducible refine gate_dst (N := 5) rfl ?_); refine Kd.S_lit k63 _ 63 ?hg (N := 5) ?hd (xs := ([] : List (S63))) (inner := []) (ok := fun _ => True) (okp := fun _ => True) ?hr ?hp (fun _ hk => hk) trivial (Below.refl _ _) (Nat.le_refl _) (by simp) ?_; (case hd => rfl); (case hg => rfl); (case hr => first | (go_simp; done) | (go_simp; rfl)); (case hp => exact (Reps.none _ _)); intro v291 w2 ho3 hb hg_ hnew_; clear hg_ hnew_; (first | rw [← Ny290.out] at ho3 | (simp only [Int.reduceToNat] at ho3; rw [← Ny290.out] at ho3)); have n0_ := Aside0.mk (Kd.S_lower ho3 (below_size (by repeat (first | (with_reducible first | exact HB.out | apply below_alloc | apply pw_below_drewN | apply below_drew1) | exact HB.out)))); have n1_ := Aside0.mk (below_step (by repeat (first | (with_reducible first | exact HB.out | apply below_alloc | apply pw_below_drewN | apply below_drew1) | exact HB.out)) hb); clear HB; have HO292 := n0_; have HB := n1_; clear n0_ n1_; clear hb ho3))
  go_loopg [3, 4] k (fun kq v3 v4 w' => ∃ (x3_1 : List (S63)) (x4_1 : Int), v4 = .int .i64 x4_1 ∧ Aside0 (spec_l7Copy.l0 kq l0 x3_1 x4_1 = some r) ∧ Aside0 (kq ≤ k) ∧ Aside0 (Kd.S k63 63 w' w.heap.size (fun _ => True) v3 x3_1) ∧ Aside0 (Below w.heap.size w w'))
  case atStart => exact ⟨(y290), (0), (by first | rfl | (simp; done) | (simp [*]; done)), H', ⟨Nat.le_refl _⟩, ⟨by (with_reducible repeat (first | apply Kd.S_alloc | apply Kd.S_drewN | apply Kd.S_drew)); exact HO292.out⟩, ⟨by repeat (first | (with_reducible first | exact HB.out | apply below_alloc | apply pw_below_drewN | apply below_drew1) | exact HB.out)⟩⟩
  case round =>
    clear H'
    try clear p2
    try clear c3
    obtain ⟨x3_1, x4_1, rfl, HA, HK1, HO_3, HB⟩ := hrel
    cases gk with
    | zero => exact absurd HA.out (by simp [spec_l7Copy.l0])
    | succ k1 =>
      have H := HA.out
      clear HA
      simp only [spec_l7Copy.l0] at H
      by_cases c4 : x4_1 < (l0.length : Int)
      · rw [if_pos c4] at H
        have c4b0 : decide (x4_1 < (l0.length : Int)) = true := decide_eq_true c4
        clear c4
        by_cases c5 : 0 ≤ x4_1
        · rw [if_pos c5] at H
          have c5b0 : decide (0 ≤ x4_1) = true := decide_eq_true c5
          clear c5
          replace H := Option.bind_eq_some_iff.mp H
          obtain ⟨⟨t295, t296, t299, t300, t301⟩, A60, H⟩ := H
          replace H : (if x3_1.length < 1954687338268 then (spec_l7Copy.l0 k1 l0 (x3_1 ++ [(⟨(rd_T63 l0 x4_1).f0, (⟨t295, t296, (⟨t299, t300, t301⟩ : S34)⟩ : S36), (rd_T63 l0 x4_1).f2⟩ : S63)]) (wrap64 (x4_1 + 1))) else (none)) = some r := H
          have A6 := Aside0.mk A60
          clear A60
          by_cases c7 : x3_1.length < 1954687338268
          · rw [if_pos c7] at H
            have LMc7 := Aside0.mk c7
            clear c7
            obtain ⟨y303, hy303⟩ : ∃ y_ : List (S63), y_ = (x3_1 ++ [(⟨(rd_T63 l0 x4_1).f0, (⟨t295, t296, (⟨t299, t300, t301⟩ : S34)⟩ : S36), (rd_T63 l0 x4_1).f2⟩ : S63)]) := ⟨_, rfl⟩
            replace H : (spec_l7Copy.l0 k1 l0 y303 (wrap64 (x4_1 + 1))) = some r := by first | (rw [hy303]; with_reducible exact H) | (have H2_ := (Option.bind_some _ _).symm.trans H; rw [hy303]; with_reducible exact H2_) | (have H2_ := (Option.bind_some _ _).symm.trans H; with_reducible exact H2_) | with_reducible exact H | (rw [hy303]; exact H) | exact H
            have Ny303 := Aside0.mk hy303
            clear hy303
            have H' := Aside0.mk H
            clear H
            try go_wp2
            have n0_ := Aside0.mk (Kd.S_drew HO_3.out)
            have n1_ := Aside0.mk (below_drew1 HB.out)
            clear HO_3
            clear HB
            have HO_3 := n0_
            have HB := n1_
            clear n0_ n1_
            have p293 : 0 ≤ (x4_1 : Int) := of_decide_eq_true (by first | (with_reducible assumption) | assumption)
            have q293 : x4_1 < (l0.length : Int) := of_decide_eq_true (by first | (with_reducible assumption) | assumption)
            obtain ⟨ad293, A293_2, c293_2, e293, hx293_0, hx293_1, hx293_2, hx293_3, hx293_4, hx293_5, hx293_6, hl293_2, hi293_2⟩ := at_T63 HR0.out x4_1 p293 q293
            have hw293_6 := hx293_6
            have hw293_5 := hx293_5
            have hw293_4 := hx293_4
            have hw293_3 := hx293_3
            have hw293_2 := hx293_2
            have hw293_1 := hx293_1
            have hw293_0 := hx293_0
            cases e293
            replace hx293_0 := (HB.out.cell (World.block_lt_of_cell? w _ hx293_0)).trans hx293_0
            replace hx293_1 := (HB.out.cell (World.block_lt_of_cell? w _ hx293_1)).trans hx293_1
            replace hx293_2 := (HB.out.cell (World.block_lt_of_cell? w _ hx293_2)).trans hx293_2
            replace hx293_3 := (HB.out.cell (World.block_lt_of_cell? w _ hx293_3)).trans hx293_3
            replace hx293_4 := (HB.out.cell (World.block_lt_of_cell? w _ hx293_4)).trans hx293_4
            replace hx293_5 := (HB.out.cell (World.block_lt_of_cell? w _ hx293_5)).trans hx293_5
            replace hx293_6 := (HB.out.cell (World.block_lt_of_cell? w _ hx293_6)).trans hx293_6
            have HR293_2 := Aside0.mk hi293_2
            have HC293_2 := Aside0.mk hl293_2
            clear hi293_2 hl293_2
            replace p293 := eq_true p293
            replace q293 := eq_true q293
            have p294 : 0 ≤ (x4_1 : Int) := of_decide_eq_true (by first | (with_reducible assumption) | assumption)
            have q294 : x4_1 < (l0.length : Int) := of_decide_eq_true (by first | (with_reducible assumption) | assumption)
            obtain ⟨ad294, A294_2, c294_2, e294, hx294_0, hx294_1, hx294_2, hx294_3, hx294_4, hx294_5, hx294_6, hl294_2, hi294_2⟩ := at_T63 HR0.out x4_1 p294 q294
            have hw294_6 := hx294_6
            have hw294_5 := hx294_5
            have hw294_4 := hx294_4
            have hw294_3 := hx294_3
            have hw294_2 := hx294_2
            have hw294_1 := hx294_1
            have hw294_0 := hx294_0
            obtain rfl : ad293 = ad294 := (by injection e294)
            replace hx294_0 := (HB.out.cell (World.block_lt_of_cell? w _ hx294_0)).trans hx294_0
            replace hx294_1 := (HB.out.cell (World.block_lt_of_cell? w _ hx294_1)).trans hx294_1
            replace hx294_2 := (HB.out.cell (World.block_lt_of_cell? w _ hx294_2)).trans hx294_2
            replace hx294_3 := (HB.out.cell (World.block_lt_of_cell? w _ hx294_3)).trans hx294_3
            replace hx294_4 := (HB.out.cell (World.block_lt_of_cell? w _ hx294_4)).trans hx294_4
            replace hx294_5 := (HB.out.cell (World.block_lt_of_cell? w _ hx294_5)).trans hx294_5
            replace hx294_6 := (HB.out.cell (World.block_lt_of_cell? w _ hx294_6)).trans hx294_6
            have HR294_2 := Aside0.mk hi294_2
            have HC294_2 := Aside0.mk hl294_2
            clear hi294_2 hl294_2
            replace p294 := eq_true p294
            replace q294 := eq_true q294
            have ea_ := Option.some.inj (hx293_2.symm.trans hx294_2)
            injection ea_ with ea_ en_ ec_
            subst ea_
            subst ec_
            clear en_
            have p302 : 0 ≤ (x4_1 : Int) := of_decide_eq_true (by first | (with_reducible assumption) | assumption)
            have q302 : x4_1 < (l0.length : Int) := of_decide_eq_true (by first | (with_reducible assumption) | assumption)
            obtain ⟨ad302, A302_2, c302_2, e302, hx302_0, hx302_1, hx302_2, hx302_3, hx302_4, hx302_5, hx302_6, hl302_2, hi302_2⟩ := at_T63 HR0.out x4_1 p302 q302
            have hw302_6 := hx302_6
            have hw302_5 := hx302_5
            have hw302_4 := hx302_4
            have hw302_3 := hx302_3
            have hw302_2 := hx302_2
            have hw302_1 := hx302_1
            have hw302_0 := hx302_0
            obtain rfl : ad293 = ad302 := (by injection e302)
            replace hx302_0 := (HB.out.cell (World.block_lt_of_cell? w _ hx302_0)).trans hx302_0
            replace hx302_1 := (HB.out.cell (World.block_lt_of_cell? w _ hx302_1)).trans hx302_1
            replace hx302_2 := (HB.out.cell (World.block_lt_of_cell? w _ hx302_2)).trans hx302_2
            replace hx302_3 := (HB.out.cell (World.block_lt_of_cell? w _ hx302_3)).trans hx302_3
            replace hx302_4 := (HB.out.cell (World.block_lt_of_cell? w _ hx302_4)).trans hx302_4
            replace hx302_5 := (HB.out.cell (World.block_lt_of_cell? w _ hx302_5)).trans hx302_5
            replace hx302_6 := (HB.out.cell (World.block_lt_of_cell? w _ hx302_6)).trans hx302_6
            have HR302_2 := Aside0.mk hi302_2
            have HC302_2 := Aside0.mk hl302_2
            clear hi302_2 hl302_2
            replace p302 := eq_true p302
            replace q302 := eq_true q302
            have ea_ := Option.some.inj (hx293_2.symm.trans hx302_2)
            injection ea_ with ea_ en_ ec_
            subst ea_
            subst ec_
            clear en_
            refine start_ (n := 21) (S := fun w' => w'.cell? (ad293.add ((x4_1).toNat * 7)) = some (.int .i64 ((rd_T63 l0 x4_1).f0)) ∧ w'.cell? ⟨(ad293.add ((x4_1).toNat * 7)).block, (ad293.add ((x4_1).toNat * 7)).off + 1, none⟩ = some (.int .i64 ((rd_T63 l0 x4_1).f1.f0)) ∧ w'.cell? ⟨(ad293.add ((x4_1).toNat * 7)).block, (ad293.add ((x4_1).toNat * 7)).off + 2, none⟩ = some (.slice A293_2 ((rd_T63 l0 x4_1).f1.f1).length c293_2) ∧ w'.cell? ⟨(ad293.add ((x4_1).toNat * 7)).block, (ad293.add ((x4_1).toNat * 7)).off + 3, none⟩ = some (.int .i64 ((rd_T63 l0 x4_1).f1.f2.f0)) ∧ w'.cell? ⟨(ad293.add ((x4_1).toNat * 7)).block, (ad293.add ((x4_1).toNat * 7)).off + 4, none⟩ = some (.int .i64 ((rd_T63 l0 x4_1).f1.f2.f1)) ∧ w'.cell? ⟨(ad293.add ((x4_1).toNat * 7)).block, (ad293.add ((x4_1).toNat * 7)).off + 5, none⟩ = some (.int .i64 ((rd_T63 l0 x4_1).f1.f2.f2)) ∧ w'.cell? ⟨(ad293.add ((x4_1).toNat * 7)).block, (ad293.add ((x4_1).toNat * 7)).off + 6, none⟩ = some (.int .i64 ((rd_T63 l0 x4_1).f2)) ∧ w'.cell? (ad293.add ((x4_1).toNat * 7)) = some (.int .i64 ((rd_T63 l0 x4_1).f0)) ∧ w'.cell? ⟨(ad293.add ((x4_1).toNat * 7)).block, (ad293.add ((x4_1).toNat * 7)).off + 1, none⟩ = some (.int .i64 ((rd_T63 l0 x4_1).f1.f0)) ∧ w'.cell? ⟨(ad293.add ((x4_1).toNat * 7)).block, (ad293.add ((x4_1).toNat * 7)).off + 2, none⟩ = some (.slice A293_2 ((rd_T63 l0 x4_1).f1.f1).length c293_2) ∧ w'.cell? ⟨(ad293.add ((x4_1).toNat * 7)).block, (ad293.add ((x4_1).toNat * 7)).off + 3, none⟩ = some (.int .i64 ((rd_T63 l0 x4_1).f1.f2.f0)) ∧ w'.cell? ⟨(ad293.add ((x4_1).toNat * 7)).block, (ad293.add ((x4_1).toNat * 7)).off + 4, none⟩ = some (.int .i64 ((rd_T63 l0 x4_1).f1.f2.f1)) ∧ w'.cell? ⟨(ad293.add ((x4_1).toNat * 7)).block, (ad293.add ((x4_1).toNat * 7)).off + 5, none⟩ = some (.int .i64 ((rd_T63 l0 x4_1).f1.f2.f2)) ∧ w'.cell? ⟨(ad293.add ((x4_1).toNat * 7)).block, (ad293.add ((x4_1).toNat * 7)).off + 6, none⟩ = some (.int .i64 ((rd_T63 l0 x4_1).f2)) ∧ w'.cell? (ad293.add ((x4_1).toNat * 7)) = some (.int .i64 ((rd_T63 l0 x4_1).f0)) ∧ w'.cell? ⟨(ad293.add ((x4_1).toNat * 7)).block, (ad293.add ((x4_1).toNat * 7)).off + 1, none⟩ = some (.int .i64 ((rd_T63 l0 x4_1).f1.f0)) ∧ w'.cell? ⟨(ad293.add ((x4_1).toNat * 7)).block, (ad293.add ((x4_1).toNat * 7)).off + 2, none⟩ = some (.slice A293_2 ((rd_T63 l0 x4_1).f1.f1).length c293_2) ∧ w'.cell? ⟨(ad293.add ((x4_1).toNat * 7)).block, (ad293.add ((x4_1).toNat * 7)).off + 3, none⟩ = some (.int .i64 ((rd_T63 l0 x4_1).f1.f2.f0)) ∧ w'.cell? ⟨(ad293.add ((x4_1).toNat * 7)).block, (ad293.add ((x4_1).toNat * 7)).off + 4, none⟩ = some (.int .i64 ((rd_T63 l0 x4_1).f1.f2.f1)) ∧ w'.cell? ⟨(ad293.add ((x4_1).toNat * 7)).block, (ad293.add ((x4_1).toNat * 7)).off + 5, none⟩ = some (.int .i64 ((rd_T63 l0 x4_1).f1.f2.f2)) ∧ w'.cell? ⟨(ad293.add ((x4_1).toNat * 7)).block, (ad293.add ((x4_1).toNat * 7)).off + 6, none⟩ = some (.int .i64 ((rd_T63 l0 x4_1).f2))) (ds := []) #[false, false, false, false, false, false, false, false, false, false, false, false, false, false, false, false, false, false, false, false, false] (by kernel_rfl) rfl rfl ⟨((HB.out.cell (World.block_lt_of_cell? w _ hw293_0)).trans hw293_0), ((HB.out.cell (World.block_lt_of_cell? w _ hw293_1)).trans hw293_1), ((HB.out.cell (World.block_lt_of_cell? w _ hw293_2)).trans hw293_2), ((HB.out.cell (World.block_lt_of_cell? w _ hw293_3)).trans hw293_3), ((HB.out.cell (World.block_lt_of_cell? w _ hw293_4)).trans hw293_4), ((HB.out.cell (World.block_lt_of_cell? w _ hw293_5)).trans hw293_5), ((HB.out.cell (World.block_lt_of_cell? w _ hw293_6)).trans hw293_6), ((HB.out.cell (World.block_lt_of_cell? w _ hw294_0)).trans hw294_0), ((HB.out.cell (World.block_lt_of_cell? w _ hw294_1)).trans hw294_1), ((HB.out.cell (World.block_lt_of_cell? w _ hw294_2)).trans hw294_2), ((HB.out.cell (World.block_lt_of_cell? w _ hw294_3)).trans hw294_3), ((HB.out.cell (World.block_lt_of_cell? w _ hw294_4)).trans hw294_4), ((HB.out.cell (World.block_lt_of_cell? w _ hw294_5)).trans hw294_5), ((HB.out.cell (World.block_lt_of_cell? w _ hw294_6)).trans hw294_6), ((HB.out.cell (World.block_lt_of_cell? w _ hw302_0)).trans hw302_0), ((HB.out.cell (World.block_lt_of_cell? w _ hw302_1)).trans hw302_1), ((HB.out.cell (World.block_lt_of_cell? w _ hw302_2)).trans hw302_2), ((HB.out.cell (World.block_lt_of_cell? w _ hw302_3)).trans hw302_3), ((HB.out.cell (World.block_lt_of_cell? w _ hw302_4)).trans hw302_4), ((HB.out.cell (World.block_lt_of_cell? w _ hw302_5)).trans hw302_5), ((HB.out.cell (World.block_lt_of_cell? w _ hw302_6)).trans hw302_6)⟩ (fun hHeld => ?_); refine with_tabW spec_l7Copy.tab5 spec_l7Copy.bits5 (fun HT_ HW_ => ?_)
            generalize wr.drew = w8 at HO_3 HB HR293_2 HR294_2 HR302_2 hx293_0 hx293_1 hx293_2 hx293_3 hx293_4 hx293_5 hx293_6 hx294_0 hx294_1 hx294_2 hx294_3 hx294_4 hx294_5 hx294_6 hx302_0 hx302_1 hx302_2 hx302_3 hx302_4 hx302_5 hx302_6 hHeld ⊢
            refine pure_ (i := 0) (N := some 12) (v := ?_) (a' := ?_) #[true, false, false, false, false, false, false, false, false, false, false, false, false, false, false, false, false, false, false, false, false] rfl rfl (any_of HT_.out (by kernel_rfl)) (fun _ _ _ h => h) (Or.inl ⟨by rfl, ?_⟩) ?_ ?_
            rotate_left
            · intro w'
              go_simp
              with_reducible rfl
            rotate_left
            · simp only [Act.put, List.setIfInBounds_toArray, List.set_cons_zero, List.set_cons_succ, i64_w, i32_w]
              rfl
            refine pure_ (i := 1) (N := some 13) (v := ?_) (a' := ?_) #[true, true, false, false, false, false, false, false, false, false, false, false, false, false, false, false, false, false, false, false, false] rfl rfl (any_of HT_.out (by kernel_rfl)) (fun _ _ _ h => h) (Or.inl ⟨by rfl, ?_⟩) ?_ ?_
            rotate_left
            · intro w'
              go_simp
              with_reducible rfl
            rotate_left
            · simp only [Act.put, List.setIfInBounds_toArray, List.set_cons_zero, List.set_cons_succ, i64_w, i32_w]
              rfl
            refine pure_ (i := 2) (N := some 14) (v := ?_) (a' := ?_) #[true, true, true, false, false, false, false, false, false, false, false, false, false, false, false, false, false, false, false, false, false] rfl rfl (any_of HT_.out (by kernel_rfl)) (fun _ _ _ h => h) (Or.inl ⟨by rfl, ?_⟩) ?_ ?_
            rotate_left
            · intro w'
              go_simp
              with_reducible rfl
            rotate_left
            · simp only [Act.put, List.setIfInBounds_toArray, List.set_cons_zero, List.set_cons_succ, i64_w, i32_w]
              rfl
            refine pure_ (i := 3) (N := some 15) (v := ?_) (a' := ?_) #[true, true, true, true, false, false, false, false, false, false, false, false, false, false, false, false, false, false, false, false, false] rfl rfl (any_of HT_.out (by kernel_rfl)) (fun _ _ _ h => h) (Or.inl ⟨by rfl, ?_⟩) ?_ ?_
            rotate_left
            · intro w'
              go_simp
              with_reducible rfl
            rotate_left
            · simp only [Act.put, List.setIfInBounds_toArray, List.set_cons_zero, List.set_cons_succ, i64_w, i32_w]
              rfl
            refine pure_ (i := 4) (N := some 16) (v := ?_) (a' := ?_) #[true, true, true, true, true, false, false, false, false, false, false, false, false, false, false, false, false, false, false, false, false] rfl rfl (any_of HT_.out (by kernel_rfl)) (fun _ _ _ h => h) (Or.inl ⟨by rfl, ?_⟩) ?_ ?_
            rotate_left
            · intro w'
              go_simp
              with_reducible rfl
            rotate_left
            · simp only [Act.put, List.setIfInBounds_toArray, List.set_cons_zero, List.set_cons_succ, i64_w, i32_w]
              rfl
            refine pure_ (i := 6) (N := some 18) (v := ?_) (a' := ?_) #[true, true, true, true, true, false, true, false, false, false, false, false, false, false, false, false, false, false, false, false, false] rfl rfl (any_of HT_.out (by kernel_rfl)) (fun _ _ _ h => h) (Or.inl ⟨by rfl, ?_⟩) ?_ ?_
            rotate_left
            · intro w'
              go_simp
              with_reducible rfl
            rotate_left
            · simp only [Act.put, List.setIfInBounds_toArray, List.set_cons_zero, List.set_cons_succ, i64_w, i32_w]
              rfl
            refine pure_ (i := 7) (N := some 19) (v := ?_) (a' := ?_) #[true, true, true, true, true, false, true, true, false, false, false, false, false, false, false, false, false, false, false, false, false] rfl rfl (any_of HT_.out (by kernel_rfl)) (fun _ _ _ h => h) (Or.inl ⟨by rfl, ?_⟩) ?_ ?_
            rotate_left
            · intro w'
              go_simp
              with_reducible rfl
            rotate_left
            · simp only [Act.put, List.setIfInBounds_toArray, List.set_cons_zero, List.set_cons_succ, i64_w, i32_w]
              rfl
            refine pure_ (i := 8) (N := some 20) (v := ?_) (a' := ?_) #[true, true, true, true, true, false, true, true, true, false, false, false, false, false, false, false, false, false, false, false, false] rfl rfl (any_of HT_.out (by kernel_rfl)) (fun _ _ _ h => h) (Or.inl ⟨by rfl, ?_⟩) ?_ ?_
            rotate_left
            · intro w'
              go_simp
              with_reducible rfl
            rotate_left
            · simp only [Act.put, List.setIfInBounds_toArray, List.set_cons_zero, List.set_cons_succ, i64_w, i32_w]
              rfl
            refine pure_ (i := 9) (N := some 21) (v := ?_) (a' := ?_) #[true, true, true, true, true, false, true, true, true, true, false, false, false, false, false, false, false, false, false, false, false] rfl rfl (any_of HT_.out (by kernel_rfl)) (fun _ _ _ h => h) (Or.inl ⟨by rfl, ?_⟩) ?_ ?_
            rotate_left
            · intro w'
              go_simp
              with_reducible rfl
            rotate_left
            · simp only [Act.put, List.setIfInBounds_toArray, List.set_cons_zero, List.set_cons_succ, i64_w, i32_w]
              rfl
            refine pure_ (i := 12) (N := some 24) (v := ?_) (a' := ?_) #[true, true, true, true, true, false, true, true, true, true, false, false, true, false, false, false, false, false, false, false, false] rfl rfl (any_of HT_.out (by kernel_rfl)) (fun _ _ _ h => h) (Or.inl ⟨by rfl, ?_⟩) ?_ ?_
            rotate_left
            · intro w'
              go_simp
              with_reducible rfl
            rotate_left
            · simp only [Act.put, List.setIfInBounds_toArray, List.set_cons_zero, List.set_cons_succ, i64_w, i32_w]
              rfl
            refine pure_ (i := 13) (N := some 25) (v := ?_) (a' := ?_) #[true, true, true, true, true, false, true, true, true, true, false, false, true, true, false, false, false, false, false, false, false] rfl rfl (any_of HT_.out (by kernel_rfl)) (fun _ _ _ h => h) (Or.inl ⟨by rfl, ?_⟩) ?_ ?_
            rotate_left
            · intro w'
              go_simp
              with_reducible rfl
            rotate_left
            · simp only [Act.put, List.setIfInBounds_toArray, List.set_cons_zero, List.set_cons_succ, i64_w, i32_w]
              rfl
            refine pure_ (i := 14) (N := some 26) (v := ?_) (a' := ?_) #[true, true, true, true, true, false, true, true, true, true, false, false, true, true, true, false, false, false, false, false, false] rfl rfl (any_of HT_.out (by kernel_rfl)) (fun _ _ _ h => h) (Or.inl ⟨by rfl, ?_⟩) ?_ ?_
            rotate_left
            · intro w'
              go_simp
              with_reducible rfl
            rotate_left
            · simp only [Act.put, List.setIfInBounds_toArray, List.set_cons_zero, List.set_cons_succ, i64_w, i32_w]
              rfl
            refine pure_ (i := 15) (N := some 27) (v := ?_) (a' := ?_) #[true, true, true, true, true, false, true, true, true, true, false, false, true, true, true, true, false, false, false, false, false] rfl rfl (any_of HT_.out (by kernel_rfl)) (fun _ _ _ h => h) (Or.inl ⟨by rfl, ?_⟩) ?_ ?_
            rotate_left
            · intro w'
              go_simp
              with_reducible rfl
            rotate_left
            · simp only [Act.put, List.setIfInBounds_toArray, List.set_cons_zero, List.set_cons_succ, i64_w, i32_w]
              rfl
            refine take_ (i := 5) (N := some 17) (v := ?_) (a' := ?_) #[true, true, true, true, true, true, true, true, true, true, false, false, true, true, true, true, false, false, false, false, false] rfl rfl (take_ofW HT_.out HW_.out (by kernel_rfl)) (fun _ _ _ h => h) (Or.inl ⟨by rfl, ?_⟩) hHeld ?_ ?_
            rotate_left
            · rintro w' ⟨s0, s1, s2, s3, s4, s5, s6, s7, s8, s9, s10, s11, s12, s13, s14, s15, s16, s17, s18, s19, s20⟩
              go_simp
              with_reducible rfl
            rotate_left
            · simp only [Act.put, List.setIfInBounds_toArray, List.set_cons_zero, List.set_cons_succ, i64_w, i32_w]
              rfl
            refine take_ (i := 10) (N := some 22) (v := ?_) (a' := ?_) #[true, true, true, true, true, true, true, true, true, true, true, false, true, true, true, true, false, false, false, false, false] rfl rfl (take_ofW HT_.out HW_.out (by kernel_rfl)) (fun _ _ _ h => h) (Or.inl ⟨by rfl, ?_⟩) hHeld ?_ ?_
            rotate_left
            · rintro w' ⟨s0, s1, s2, s3, s4, s5, s6, s7, s8, s9, s10, s11, s12, s13, s14, s15, s16, s17, s18, s19, s20⟩
              go_simp
              with_reducible rfl
            rotate_left
            · simp only [Act.put, List.setIfInBounds_toArray, List.set_cons_zero, List.set_cons_succ, i64_w, i32_w]
              rfl
            refine take_ (i := 16) (N := some 28) (v := ?_) (a' := ?_) #[true, true, true, true, true, true, true, true, true, true, true, false, true, true, true, true, true, false, false, false, false] rfl rfl (take_ofW HT_.out HW_.out (by kernel_rfl)) (fun _ _ _ h => h) (Or.inl ⟨by rfl, ?_⟩) hHeld ?_ ?_
            rotate_left
            · rintro w' ⟨s0, s1, s2, s3, s4, s5, s6, s7, s8, s9, s10, s11, s12, s13, s14, s15, s16, s17, s18, s19, s20⟩
              go_simp
              with_reducible rfl
            rotate_left
            · simp only [Act.put, List.setIfInBounds_toArray, List.set_cons_zero, List.set_cons_succ, i64_w, i32_w]
              rfl
            refine one_ (i := 11) (N := some 23) #[true, true, true, true, true, true, true, true, true, true, true, true, true, true, true, true, true, false, false, false, false] rfl rfl (one_of HT_.out (by kernel_rfl)) (by decide) (fun K hK => ?_)
            refine goes_ Try.func37 (by kernel_rfl) rfl #[.agg #[.int .i64 ((rd_T63 l0 x4_1).f1.f0), .slice A293_2 ((rd_T63 l0 x4_1).f1.f1).length c293_2, .int .i64 ((rd_T63 l0 x4_1).f1.f2.f0), .int .i64 ((rd_T63 l0 x4_1).f1.f2.f1), .int .i64 ((rd_T63 l0 x4_1).f1.f2.f2)]] (by rfl) rfl rfl (by (try simp only [List.map_toArray, List.map_cons, List.map_nil]); first | done | rfl | (simp only [List.length_drop, List.length_take]; rfl)) ?_
            with_reducible refine (spec_l5Copy.calls ((rd_T63 l0 x4_1).f1.f0) _ _ ((rd_T63 l0 x4_1).f1.f1) ((rd_T63 l0 x4_1).f1.f2.f0) ((rd_T63 l0 x4_1).f1.f2.f1) ((rd_T63 l0 x4_1).f1.f2.f2) t295 t296 t299 t300 t301 _ ?side1 ?side2 A6.out).mono ?_
            (case side1 => repeat (first | exact (Kd.C_below HR294_2.out HB.out) | (with_reducible refine Kd.C_alloc ?_ _) | (with_reducible refine Kd.C_drewN ?_ _) | (with_reducible refine Kd.C_drew ?_)))
            (case side2 => exact HC294_2.out)
            rintro e w9 ⟨v297, rfl, ho0, hb⟩
            refine ⟨_, rfl, ?_⟩
            have n0_ := Aside0.mk (Kd.S_elder' (by (with_reducible repeat (first | apply Kd.S_alloc | apply Kd.S_drewN | apply Kd.S_drew)); exact HO_3.out) (Kd.R_base ho0) hb)
            have n1_ := Aside0.mk (Kd.R_lower ho0 (below_size (by repeat (first | (with_reducible first | exact HB.out | apply below_alloc | apply pw_below_drewN | apply below_drew1) | exact HB.out))))
            have n2_ := Aside0.mk (below_step (by repeat (first | (with_reducible first | exact HB.out | apply below_alloc | apply pw_below_drewN | apply below_drew1) | exact HB.out)) hb)
            clear HO_3
            clear HB
            have HO_3 := n0_
            have HO298 := n1_
            have HB := n2_
            clear n0_ n1_ n2_
            (try clear hb)
            (try clear hb2)
            (try clear hk)
            (try clear hi)
            (try clear ho0)
            obtain ⟨Ao10, co10, eo10⟩ := Kd.R_slice HO298.out
            (first | subst eo10 | (injection eo10 with f1_ f2_ f3_; have f4_ := f1_.symm; have f5_ := f3_.symm; clear f1_ f2_ f3_; subst f4_; subst f5_))
            refine hK.out _ _ ⟨((HB.out.cell (World.block_lt_of_cell? w _ hw293_0)).trans hw293_0), ((HB.out.cell (World.block_lt_of_cell? w _ hw293_1)).trans hw293_1), ((HB.out.cell (World.block_lt_of_cell? w _ hw293_2)).trans hw293_2), ((HB.out.cell (World.block_lt_of_cell? w _ hw293_3)).trans hw293_3), ((HB.out.cell (World.block_lt_of_cell? w _ hw293_4)).trans hw293_4), ((HB.out.cell (World.block_lt_of_cell? w _ hw293_5)).trans hw293_5), ((HB.out.cell (World.block_lt_of_cell? w _ hw293_6)).trans hw293_6), ((HB.out.cell (World.block_lt_of_cell? w _ hw294_0)).trans hw294_0), ((HB.out.cell (World.block_lt_of_cell? w _ hw294_1)).trans hw294_1), ((HB.out.cell (World.block_lt_of_cell? w _ hw294_2)).trans hw294_2), ((HB.out.cell (World.block_lt_of_cell? w _ hw294_3)).trans hw294_3), ((HB.out.cell (World.block_lt_of_cell? w _ hw294_4)).trans hw294_4), ((HB.out.cell (World.block_lt_of_cell? w _ hw294_5)).trans hw294_5), ((HB.out.cell (World.block_lt_of_cell? w _ hw294_6)).trans hw294_6), ((HB.out.cell (World.block_lt_of_cell? w _ hw302_0)).trans hw302_0), ((HB.out.cell (World.block_lt_of_cell? w _ hw302_1)).trans hw302_1), ((HB.out.cell (World.block_lt_of_cell? w _ hw302_2)).trans hw302_2), ((HB.out.cell (World.block_lt_of_cell? w _ hw302_3)).trans hw302_3), ((HB.out.cell (World.block_lt_of_cell? w _ hw302_4)).trans hw302_4), ((HB.out.cell (World.block_lt_of_cell? w _ hw302_5)).trans hw302_5), ((HB.out.cell (World.block_lt_of_cell? w _ hw302_6)).trans hw302_6)⟩ (fun hHeld => ?_)
            clear hK K
            refine norm_ (a' := ?_) ?_ ?_
            rotate_left
            · show Act.put _ (some 23) _ = _
              simp only [Act.put, List.setIfInBounds_toArray, List.set_cons_zero, List.set_cons_succ, i64_w, i32_w]
              rfl
            refine pure_ (i := 17) (N := some 29) (v := ?_) (a' := ?_) #[true, true, true, true, true, true, true, true, true, true, true, true, true, true, true, true, true, true, false, false, false] rfl rfl (any_of HT_.out (by kernel_rfl)) (fun _ _ _ h => h) (Or.inl ⟨by rfl, ?_⟩) ?_ ?_
            rotate_left
            · intro w'
              go_simp
              with_reducible rfl
            rotate_left
            · simp only [Act.put, List.setIfInBounds_toArray, List.set_cons_zero, List.set_cons_succ, i64_w, i32_w]
              rfl
            refine one_ (i := 18) (N := some 30) #[true, true, true, true, true, true, true, true, true, true, true, true, true, true, true, true, true, true, true, false, false] rfl rfl (one_of HT_.out (by kernel_rfl)) (by decide) (fun K hK => ?_)
            refine value_ (w1 := ?_) (v := ?_) (by rfl) rfl ?_ ?_
            rotate_left 2
            · go_simp
              constructor
              · rfl
              · rfl
            refine hK.out _ _ ⟨(World.cell?_alloc_lt _ _ _ (World.block_lt_of_cell? _ _ (((HB.out.cell (World.block_lt_of_cell? w _ hw293_0)).trans hw293_0)))).trans (((HB.out.cell (World.block_lt_of_cell? w _ hw293_0)).trans hw293_0)), (World.cell?_alloc_lt _ _ _ (World.block_lt_of_cell? _ _ (((HB.out.cell (World.block_lt_of_cell? w _ hw293_1)).trans hw293_1)))).trans (((HB.out.cell (World.block_lt_of_cell? w _ hw293_1)).trans hw293_1)), (World.cell?_alloc_lt _ _ _ (World.block_lt_of_cell? _ _ (((HB.out.cell (World.block_lt_of_cell? w _ hw293_2)).trans hw293_2)))).trans (((HB.out.cell (World.block_lt_of_cell? w _ hw293_2)).trans hw293_2)), (World.cell?_alloc_lt _ _ _ (World.block_lt_of_cell? _ _ (((HB.out.cell (World.block_lt_of_cell? w _ hw293_3)).trans hw293_3)))).trans (((HB.out.cell (World.block_lt_of_cell? w _ hw293_3)).trans hw293_3)), (World.cell?_alloc_lt _ _ _ (World.block_lt_of_cell? _ _ (((HB.out.cell (World.block_lt_of_cell? w _ hw293_4)).trans hw293_4)))).trans (((HB.out.cell (World.block_lt_of_cell? w _ hw293_4)).trans hw293_4)), (World.cell?_alloc_lt _ _ _ (World.block_lt_of_cell? _ _ (((HB.out.cell (World.block_lt_of_cell? w _ hw293_5)).trans hw293_5)))).trans (((HB.out.cell (World.block_lt_of_cell? w _ hw293_5)).trans hw293_5)), (World.cell?_alloc_lt _ _ _ (World.block_lt_of_cell? _ _ (((HB.out.cell (World.block_lt_of_cell? w _ hw293_6)).trans hw293_6)))).trans (((HB.out.cell (World.block_lt_of_cell? w _ hw293_6)).trans hw293_6)), (World.cell?_alloc_lt _ _ _ (World.block_lt_of_cell? _ _ (((HB.out.cell (World.block_lt_of_cell? w _ hw294_0)).trans hw294_0)))).trans (((HB.out.cell (World.block_lt_of_cell? w _ hw294_0)).trans hw294_0)), (World.cell?_alloc_lt _ _ _ (World.block_lt_of_cell? _ _ (((HB.out.cell (World.block_lt_of_cell? w _ hw294_1)).trans hw294_1)))).trans (((HB.out.cell (World.block_lt_of_cell? w _ hw294_1)).trans hw294_1)), (World.cell?_alloc_lt _ _ _ (World.block_lt_of_cell? _ _ (((HB.out.cell (World.block_lt_of_cell? w _ hw294_2)).trans hw294_2)))).trans (((HB.out.cell (World.block_lt_of_cell? w _ hw294_2)).trans hw294_2)), (World.cell?_alloc_lt _ _ _ (World.block_lt_of_cell? _ _ (((HB.out.cell (World.block_lt_of_cell? w _ hw294_3)).trans hw294_3)))).trans (((HB.out.cell (World.block_lt_of_cell? w _ hw294_3)).trans hw294_3)), (World.cell?_alloc_lt _ _ _ (World.block_lt_of_cell? _ _ (((HB.out.cell (World.block_lt_of_cell? w _ hw294_4)).trans hw294_4)))).trans (((HB.out.cell (World.block_lt_of_cell? w _ hw294_4)).trans hw294_4)), (World.cell?_alloc_lt _ _ _ (World.block_lt_of_cell? _ _ (((HB.out.cell (World.block_lt_of_cell? w _ hw294_5)).trans hw294_5)))).trans (((HB.out.cell (World.block_lt_of_cell? w _ hw294_5)).trans hw294_5)), (World.cell?_alloc_lt _ _ _ (World.block_lt_of_cell? _ _ (((HB.out.cell (World.block_lt_of_cell? w _ hw294_6)).trans hw294_6)))).trans (((HB.out.cell (World.block_lt_of_cell? w _ hw294_6)).trans hw294_6)), (World.cell?_alloc_lt _ _ _ (World.block_lt_of_cell? _ _ (((HB.out.cell (World.block_lt_of_cell? w _ hw302_0)).trans hw302_0)))).trans (((HB.out.cell (World.block_lt_of_cell? w _ hw302_0)).trans hw302_0)), (World.cell?_alloc_lt _ _ _ (World.block_lt_of_cell? _ _ (((HB.out.cell (World.block_lt_of_cell? w _ hw302_1)).trans hw302_1)))).trans (((HB.out.cell (World.block_lt_of_cell? w _ hw302_1)).trans hw302_1)), (World.cell?_alloc_lt _ _ _ (World.block_lt_of_cell? _ _ (((HB.out.cell (World.block_lt_of_cell? w _ hw302_2)).trans hw302_2)))).trans (((HB.out.cell (World.block_lt_of_cell? w _ hw302_2)).trans hw302_2)), (World.cell?_alloc_lt _ _ _ (World.block_lt_of_cell? _ _ (((HB.out.cell (World.block_lt_of_cell? w _ hw302_3)).trans hw302_3)))).trans (((HB.out.cell (World.block_lt_of_cell? w _ hw302_3)).trans hw302_3)), (World.cell?_alloc_lt _ _ _ (World.block_lt_of_cell? _ _ (((HB.out.cell (World.block_lt_of_cell? w _ hw302_4)).trans hw302_4)))).trans (((HB.out.cell (World.block_lt_of_cell? w _ hw302_4)).trans hw302_4)), (World.cell?_alloc_lt _ _ _ (World.block_lt_of_cell? _ _ (((HB.out.cell (World.block_lt_of_cell? w _ hw302_5)).trans hw302_5)))).trans (((HB.out.cell (World.block_lt_of_cell? w _ hw302_5)).trans hw302_5)), (World.cell?_alloc_lt _ _ _ (World.block_lt_of_cell? _ _ (((HB.out.cell (World.block_lt_of_cell? w _ hw302_6)).trans hw302_6)))).trans (((HB.out.cell (World.block_lt_of_cell? w _ hw302_6)).trans hw302_6))⟩ (fun hHeld => ?_)
            clear hK K
            refine norm_ (a' := ?_) ?_ ?_
            rotate_left
            · show Act.put _ (some 30) _ = _
              simp only [Act.put, List.setIfInBounds_toArray, List.set_cons_zero, List.set_cons_succ, i64_w, i32_w]
              rfl
            refine one_ (i := 19) (N := some 31) #[true, true, true, true, true, true, true, true, true, true, true, true, true, true, true, true, true, true, true, true, false] rfl rfl (one_of HT_.out (by kernel_rfl)) (by decide) (fun K hK => ?_)
            refine Kd.S_append_step k63 (w0 := w) w.heap.size (by rfl) (.tmp 12) (.tmp 30) 30 63 (.agg #[(.int .i64 0), (.int .i64 0), (.slice none 0 0), (.int .i64 0), (.int .i64 0), (.int .i64 0), (.int .i64 0)]) 72 rfl Try.underlying30 info63 rfl (by decide) (by omega) u3 x3_1 (⟨(rd_T63 l0 x4_1).f0, (⟨t295, t296, (⟨t299, t300, t301⟩ : S34)⟩ : S36), (rd_T63 l0 x4_1).f2⟩ : S63) [.int .i64 ((rd_T63 l0 x4_1).f0), .int .i64 t295, .slice Ao10 t296.length co10, .int .i64 t299, .int .i64 t300, .int .i64 t301, .int .i64 ((rd_T63 l0 x4_1).f2)] (fun _ => True) (fun k_ => some k_ = (.slice Ao10 t296.length co10 : Value).ownBlock) rfl rfl ?aP (fun k_ hk_ => ((Kd.R_mono (ok' := fun k_ => ((fun _ => True)) k_ ∧ some k_ ≠ (u3 : Value).ownBlock) (Kd.R_apart' (HO298.out) (Kd.S_typed HO_3.out) (by decide)) (fun k_ hk => ⟨trivial, hk.2⟩))).1 k_ hk_.symm) ?aF ?aO ?aB ?aS ?aL ?_
            (case aP => exact k63_mkM _ _ _ (⟨(rd_T63 l0 x4_1).f0, (⟨t295, t296, (⟨t299, t300, t301⟩ : S34)⟩ : S36), (rd_T63 l0 x4_1).f2⟩ : S63) (Kd.R_mono (Kd.R_tight rfl (Kd.R_mono (ok' := fun k_ => ((fun _ => True)) k_ ∧ some k_ ≠ (u3 : Value).ownBlock) (Kd.R_apart' (HO298.out) (Kd.S_typed HO_3.out) (by decide)) (fun k_ hk => ⟨trivial, hk.2⟩))) (fun _ h_ => h_)))
            (case aB => exact (by repeat (first | (with_reducible first | exact HB.out | apply below_alloc | apply pw_below_drewN | apply below_drew1) | exact HB.out)))
            (case aF => exact (fun _ _ => trivial))
            (case aO => exact (by (with_reducible repeat (first | apply Kd.S_alloc | apply Kd.S_drewN | apply Kd.S_drew)); exact Kd.S_mono HO_3.out (fun k_ hk => ⟨trivial, fun e_ => hk.2 e_⟩)))
            (case aS => exact (below_size (by repeat (first | (with_reducible first | exact HB.out | apply below_alloc | apply pw_below_drewN | apply below_drew1) | exact HB.out))))
            (case aL => have := LMc7.out; omega)
            intro v304 w11 ho hb hg hat
            rw [← Ny303.out] at ho
            have n0_ := Aside0.mk (hb)
            have n1_ := Aside0.mk (ho)
            clear HB
            clear HO_3
            clear HO298
            have HB := n0_
            have HO305 := n1_
            clear n0_ n1_
            clear ho hb hg hat
            refine hK.out _ _ ⟨((HB.out.cell (World.block_lt_of_cell? w _ hw293_0)).trans hw293_0), ((HB.out.cell (World.block_lt_of_cell? w _ hw293_1)).trans hw293_1), ((HB.out.cell (World.block_lt_of_cell? w _ hw293_2)).trans hw293_2), ((HB.out.cell (World.block_lt_of_cell? w _ hw293_3)).trans hw293_3), ((HB.out.cell (World.block_lt_of_cell? w _ hw293_4)).trans hw293_4), ((HB.out.cell (World.block_lt_of_cell? w _ hw293_5)).trans hw293_5), ((HB.out.cell (World.block_lt_of_cell? w _ hw293_6)).trans hw293_6), ((HB.out.cell (World.block_lt_of_cell? w _ hw294_0)).trans hw294_0), ((HB.out.cell (World.block_lt_of_cell? w _ hw294_1)).trans hw294_1), ((HB.out.cell (World.block_lt_of_cell? w _ hw294_2)).trans hw294_2), ((HB.out.cell (World.block_lt_of_cell? w _ hw294_3)).trans hw294_3), ((HB.out.cell (World.block_lt_of_cell? w _ hw294_4)).trans hw294_4), ((HB.out.cell (World.block_lt_of_cell? w _ hw294_5)).trans hw294_5), ((HB.out.cell (World.block_lt_of_cell? w _ hw294_6)).trans hw294_6), ((HB.out.cell (World.block_lt_of_cell? w _ hw302_0)).trans hw302_0), ((HB.out.cell (World.block_lt_of_cell? w _ hw302_1)).trans hw302_1), ((HB.out.cell (World.block_lt_of_cell? w _ hw302_2)).trans hw302_2), ((HB.out.cell (World.block_lt_of_cell? w _ hw302_3)).trans hw302_3), ((HB.out.cell (World.block_lt_of_cell? w _ hw302_4)).trans hw302_4), ((HB.out.cell (World.block_lt_of_cell? w _ hw302_5)).trans hw302_5), ((HB.out.cell (World.block_lt_of_cell? w _ hw302_6)).trans hw302_6)⟩ (fun hHeld => ?_)
            clear hK K
            refine norm_ (a' := ?_) ?_ ?_
            rotate_left
            · show Act.put _ (some 31) _ = _
              simp only [Act.put, List.setIfInBounds_toArray, List.set_cons_zero, List.set_cons_succ, i64_w, i32_w]
              rfl
            refine pure_ (i := 20) (N := some 3) (v := ?_) (a' := ?_) #[true, true, true, true, true, true, true, true, true, true, true, true, true, true, true, true, true, true, true, true, true] rfl rfl (any_of HT_.out (by kernel_rfl)) (fun _ _ _ h => h) (Or.inl ⟨by rfl, ?_⟩) ?_ ?_
            rotate_left
            · intro w'
              go_simp
              with_reducible rfl
            rotate_left
            · simp only [Act.put, List.setIfInBounds_toArray, List.set_cons_zero, List.set_cons_succ, i64_w, i32_w]
              rfl
            refine done_ (done_of HT_.out (by kernel_rfl)) ?_
            try go_wp2
            go_roundg k1
            case measure => have := HK1.out; omega
            case rel => exact ⟨(y303), (wrap64 (x4_1 + 1)), (by first | rfl | (simp; done) | (simp [*]; done)), H', ⟨by have := HK1.out; omega⟩, ⟨by (with_reducible repeat (first | apply Kd.S_alloc | apply Kd.S_drewN | apply Kd.S_drew)); exact HO305.out⟩, ⟨by repeat (first | (with_reducible first | exact HB.out | apply below_alloc | apply pw_below_drewN | apply below_drew1) | exact HB.out)⟩⟩
          · rw [if_neg c7] at H
            exact absurd H (by simp)
        · rw [if_neg c5] at H
          exact absurd H (by simp)
      · rw [if_neg c4] at H
        have c4b0 : decide (x4_1 < (l0.length : Int)) = false := decide_eq_false c4
        clear c4
        obtain rfl := Option.some.inj H
        go_wp2
        go_ret
        exact ⟨_, by first | rfl | (simp [errW_none, errW_some] <;> rfl) | (simp [*, errW_none, errW_some] <;> rfl), by (with_reducible repeat (first | apply Kd.S_alloc | apply Kd.S_drewN | apply Kd.S_drew)); exact HO_3.out, by repeat (first | (with_reducible first | exact HB.out | apply below_alloc | apply pw_below_drewN | apply below_drew1) | exact HB.out)⟩

/-! ### spec_l7Find: function 36 -/
def spec_l7Find.l0 : Nat → List (S63) → Int → Int → Option (Int)
  | 0, _, _, _ => none
  | k + 1, x0, x1, x5 => if x5 < (x0.length : Int) then (if 0 ≤ x5 then (if ((rd_T63 x0 x5).f0) = x1 then (some x5) else (spec_l7Find.l0 k x0 x1 (wrap64 (x5 + 1)))) else (none)) else (some (-1))
def spec_l7Find.f (k : Nat) (l0 : List (S63)) (a1 : Int) : Option (Int) := spec_l7Find.l0 k l0 a1 0
theorem spec_l7Find.mono_l : ∀ k, (∀ y0 y1 y2, LeO (spec_l7Find.l0 k y0 y1 y2) (spec_l7Find.l0 (k + 1) y0 y1 y2))
  | 0 => fun _ _ _ r h => by simp [spec_l7Find.l0] at h
  | k + 1 => by
    have ih0 := spec_l7Find.mono_l k
    · intro y0 y1 y2
      unfold spec_l7Find.l0
      repeat' first
      | (with_reducible exact ih0 _ _ _)
      | (with_reducible exact LeO.refl _)
      | (with_reducible exact LeO.none _)
      | (with_reducible refine LeO.ite ?_ ?_)
      | (with_reducible refine LeO.bind ?_ (fun _ => ?_))
      | exact ih0 _ _ _
      | exact LeO.none _
      | refine LeO.ite ?_ ?_
      | refine LeO.bind ?_ (fun _ => ?_)
theorem spec_l7Find.mono : ∀ a0 a1 k, LeO (spec_l7Find.f k a0 a1) (spec_l7Find.f (k + 1) a0 a1) := by
  intro a0 a1 k
  have ih0 := spec_l7Find.mono_l k
  unfold spec_l7Find.f
  repeat' first
      | (with_reducible exact ih0 _ _ _)
      | (with_reducible exact LeO.refl _)
      | (with_reducible exact LeO.none _)
      | (with_reducible refine LeO.ite ?_ ?_)
      | (with_reducible refine LeO.bind ?_ (fun _ => ?_))
      | exact ih0 _ _ _
      | exact LeO.none _
      | refine LeO.ite ?_ ?_
      | refine LeO.bind ?_ (fun _ => ?_)
set_option maxHeartbeats 8000000 in
set_option maxRecDepth 100000 in
theorem spec_l7Find.calls (k : Nat) (A0 : Option Addr) (c0 : Nat) (l0 : List (S63)) (a1 : Int) (r : Int) (w : World) (hr0 : Kd.C k63 w A0 l0.length l0) (hc0 : l0.length ≤ c0) (h : spec_l7Find.f k l0 a1 = some r) :
    Calls Try.prog 36 #[.slice A0 l0.length c0, .int .i64 a1] w fun e w' => e = .returned (.int .i64 r) ∧ Drawn0 w w' := by
  have HR0 := Aside0.mk hr0
  have HC0 := Aside0.mk hc0
  clear hr0 hc0
  have H : (spec_l7Find.l0 k l0 a1 0) = some r := h
  clear h
  have H' := Aside0.mk H
  clear H
  go_enter Try.func36, Try.ntmps36
  go_wp2
  go_loopg [5] k (fun kq v5 w' => ∃ (x5_1 : Int), v5 = .int .i64 x5_1 ∧ Aside0 (spec_l7Find.l0 kq l0 a1 x5_1 = some r) ∧ Aside0 (kq ≤ k) ∧ Drawn0 w w')
  case atStart => exact ⟨(0), (by first | rfl | (simp; done) | (simp [*]; done)), H', ⟨Nat.le_refl _⟩, by repeat (first | exact Drawn0.refl _ | apply Drawn0.step)⟩
  case round =>
    clear H'
    try clear p2
    obtain ⟨x5_1, rfl, HA, HK1, ⟨m1, rfl⟩⟩ := hrel
    cases gk with
    | zero => exact absurd HA.out (by simp [spec_l7Find.l0])
    | succ k1 =>
      have H := HA.out
      clear HA
      simp only [spec_l7Find.l0] at H
      by_cases c3 : x5_1 < (l0.length : Int)
      · rw [if_pos c3] at H
        have c3b0 : decide (x5_1 < (l0.length : Int)) = true := decide_eq_true c3
        clear c3
        by_cases c4 : 0 ≤ x5_1
        · rw [if_pos c4] at H
          have c4b0 : decide (0 ≤ x5_1) = true := decide_eq_true c4
          clear c4
          by_cases c5 : ((rd_T63 l0 x5_1).f0) = a1
          · rw [if_pos c5] at H
            have c5b0 : (((rd_T63 l0 x5_1).f0) == a1) = true := beq_iff_eq.mpr c5
            have c5b1 : (((rd_T63 l0 x5_1).f0) != a1) = false := bne_eq_false_iff_eq.mpr c5
            clear c5
            obtain rfl := Option.some.inj H
            have p306 : 0 ≤ (x5_1 : Int) := of_decide_eq_true (by first | (with_reducible assumption) | assumption)
            have q306 : x5_1 < (l0.length : Int) := of_decide_eq_true (by first | (with_reducible assumption) | assumption)
            obtain ⟨ad306, A306_2, c306_2, e306, hx306_0, hx306_1, hx306_2, hx306_3, hx306_4, hx306_5, hx306_6, hl306_2, hi306_2⟩ := at_T63 HR0.out x5_1 p306 q306
            cases e306
            have HR306_2 := Aside0.mk hi306_2
            have HC306_2 := Aside0.mk hl306_2
            clear hi306_2 hl306_2
            replace p306 := eq_true p306
            replace q306 := eq_true q306
            go_wp2
            go_ret
            exact ⟨by first | rfl | (simp; done) | (simp [*]; done), by repeat (first | exact Drawn0.refl _ | apply Drawn0.step)⟩
          · rw [if_neg c5] at H
            have c5b0 : (((rd_T63 l0 x5_1).f0) == a1) = false := beq_eq_false_iff_ne.mpr c5
            have c5b1 : (((rd_T63 l0 x5_1).f0) != a1) = true := bne_iff_ne.mpr c5
            have H' := Aside0.mk H
            clear H
            have p306 : 0 ≤ (x5_1 : Int) := of_decide_eq_true (by first | (with_reducible assumption) | assumption)
            have q306 : x5_1 < (l0.length : Int) := of_decide_eq_true (by first | (with_reducible assumption) | assumption)
            obtain ⟨ad306, A306_2, c306_2, e306, hx306_0, hx306_1, hx306_2, hx306_3, hx306_4, hx306_5, hx306_6, hl306_2, hi306_2⟩ := at_T63 HR0.out x5_1 p306 q306
            cases e306
            have HR306_2 := Aside0.mk hi306_2
            have HC306_2 := Aside0.mk hl306_2
            clear hi306_2 hl306_2
            replace p306 := eq_true p306
            replace q306 := eq_true q306
            go_wp2
            go_roundg k1
            case measure => have := HK1.out; omega
            case rel => exact ⟨(wrap64 (x5_1 + 1)), (by first | rfl | (simp; done) | (simp [*]; done)), H', ⟨by have := HK1.out; omega⟩, by repeat (first | exact Drawn0.refl _ | apply Drawn0.step)⟩
        · rw [if_neg c4] at H
          exact absurd H (by simp)
      · rw [if_neg c3] at H
        have c3b0 : decide (x5_1 < (l0.length : Int)) = false := decide_eq_false c3
        clear c3
        obtain rfl := Option.some.inj H
        go_wp2
        go_ret
        exact ⟨by first | rfl | (simp; done) | (simp [*]; done), by repeat (first | exact Drawn0.refl _ | apply Drawn0.step)⟩

/-! ### spec_TakePart: function 31 -/
mutual
def spec_TakePart.j0 : Nat → List (S63) → Int → Bool → Option ((List (S63)) × Bool)
  | 0, _, _, _ => none
  | k + 1, x0, x6, x19 => if x19 = true then ((spec_l7Copy.f k x0).bind fun t309 => (some (t309, false))) else (spec_TakePart.l0 k x0 x6 (([] : List (S63))) 0)
def spec_TakePart.l0 : Nat → List (S63) → Int → List (S63) → Int → Option ((List (S63)) × Bool)
  | 0, _, _, _, _ => none
  | k + 1, x0, x6, x7, x8 => if x8 < (x0.length : Int) then (if 0 ≤ x8 then ((spec_l5Copy.f ((rd_T63 x0 x8).f1.f0) ((rd_T63 x0 x8).f1.f1) ((rd_T63 x0 x8).f1.f2.f0) ((rd_T63 x0 x8).f1.f2.f1) ((rd_T63 x0 x8).f1.f2.f2)).bind fun bt317 => (if x8 = x6 then (if (wrap64 (((rd_T63 x0 x8).f2) - 1)) > 0 then (if x7.length < 1954687338268 then (spec_TakePart.l0 k x0 x6 (x7 ++ [(⟨(rd_T63 x0 x8).f0, (⟨bt317.1, bt317.2.1, (⟨bt317.2.2.1, bt317.2.2.2.1, bt317.2.2.2.2⟩ : S34)⟩ : S36), wrap64 (((rd_T63 x0 x8).f2) - 1)⟩ : S63)]) (wrap64 (x8 + 1))) else (none)) else (spec_TakePart.l0 k x0 x6 x7 (wrap64 (x8 + 1)))) else (if ((rd_T63 x0 x8).f2) > 0 then (if x7.length < 1954687338268 then (spec_TakePart.l0 k x0 x6 (x7 ++ [(⟨(rd_T63 x0 x8).f0, (⟨bt317.1, bt317.2.1, (⟨bt317.2.2.1, bt317.2.2.2.1, bt317.2.2.2.2⟩ : S34)⟩ : S36), (rd_T63 x0 x8).f2⟩ : S63)]) (wrap64 (x8 + 1))) else (none)) else (spec_TakePart.l0 k x0 x6 x7 (wrap64 (x8 + 1)))))) else (none)) else (some (x7, true))
end
def spec_TakePart.f (k : Nat) (l0 : List (S63)) (a1 : Int) : Option ((List (S63)) × Bool) := (spec_l7Find.f k l0 a1).bind fun t307 => ((spec_IsStore.f k l0).bind fun t308 => (if t308 = true then (spec_TakePart.j0 k l0 t307 (decide (t307 < 0))) else (spec_TakePart.j0 k l0 t307 true)))
theorem spec_TakePart.mono_l : ∀ k, (∀ y0 y1 y2, LeO (spec_TakePart.j0 k y0 y1 y2) (spec_TakePart.j0 (k + 1) y0 y1 y2)) ∧ (∀ y0 y1 y2 y3, LeO (spec_TakePart.l0 k y0 y1 y2 y3) (spec_TakePart.l0 (k + 1) y0 y1 y2 y3))
  | 0 => ⟨fun _ _ _ r h => by simp [spec_TakePart.j0] at h, fun _ _ _ _ r h => by simp [spec_TakePart.l0] at h⟩
  | k + 1 => by
    obtain ⟨ih0, ih1⟩ := spec_TakePart.mono_l k
    refine ⟨?_, ?_⟩
    · intro y0 y1 y2
      unfold spec_TakePart.j0
      repeat' first
      | (with_reducible exact ih0 _ _ _)
      | (with_reducible exact ih1 _ _ _ _)
      | (with_reducible exact spec_IsStore.mono _ _)
      | (with_reducible exact spec_l7Copy.mono _ _)
      | (with_reducible exact spec_l7Find.mono _ _ _)
      | (with_reducible exact LeO.refl _)
      | (with_reducible exact LeO.none _)
      | (with_reducible refine LeO.ite ?_ ?_)
      | (with_reducible refine LeO.bind ?_ (fun _ => ?_))
      | exact ih0 _ _ _
      | exact ih1 _ _ _ _
      | exact spec_IsStore.mono _ _
      | exact spec_l7Copy.mono _ _
      | exact spec_l7Find.mono _ _ _
      | exact LeO.none _
      | refine LeO.ite ?_ ?_
      | refine LeO.bind ?_ (fun _ => ?_)
    · intro y0 y1 y2 y3
      unfold spec_TakePart.l0
      repeat' first
      | (with_reducible exact ih0 _ _ _)
      | (with_reducible exact ih1 _ _ _ _)
      | (with_reducible exact spec_IsStore.mono _ _)
      | (with_reducible exact spec_l7Copy.mono _ _)
      | (with_reducible exact spec_l7Find.mono _ _ _)
      | (with_reducible exact LeO.refl _)
      | (with_reducible exact LeO.none _)
      | (with_reducible refine LeO.ite ?_ ?_)
      | (with_reducible refine LeO.bind ?_ (fun _ => ?_))
      | exact ih0 _ _ _
      | exact ih1 _ _ _ _
      | exact spec_IsStore.mono _ _
      | exact spec_l7Copy.mono _ _
      | exact spec_l7Find.mono _ _ _
      | exact LeO.none _
      | refine LeO.ite ?_ ?_
      | refine LeO.bind ?_ (fun _ => ?_)
theorem spec_TakePart.mono : ∀ a0 a1 k, LeO (spec_TakePart.f k a0 a1) (spec_TakePart.f (k + 1) a0 a1) := by
  intro a0 a1 k
  obtain ⟨ih0, ih1⟩ := spec_TakePart.mono_l k
  unfold spec_TakePart.f
  repeat' first
      | (with_reducible exact ih0 _ _ _)
      | (with_reducible exact ih1 _ _ _ _)
      | (with_reducible exact spec_IsStore.mono _ _)
      | (with_reducible exact spec_l7Copy.mono _ _)
      | (with_reducible exact spec_l7Find.mono _ _ _)
      | (with_reducible exact LeO.refl _)
      | (with_reducible exact LeO.none _)
      | (with_reducible refine LeO.ite ?_ ?_)
      | (with_reducible refine LeO.bind ?_ (fun _ => ?_))
      | exact ih0 _ _ _
      | exact ih1 _ _ _ _
      | exact spec_IsStore.mono _ _
      | exact spec_l7Copy.mono _ _
      | exact spec_l7Find.mono _ _ _
      | exact LeO.none _
      | refine LeO.ite ?_ ?_
      | refine LeO.bind ?_ (fun _ => ?_)
def spec_TakePart.T8 : Bool × List (List Nat × List Nat) := (true, [([], []), ([], []), ([0, 1], [0, 1]), ([2], [2]), ([3], [3]), ([], []), ([], []), ([5, 6], [5, 6]), ([7], [7]), ([8], [8]), ([9], [9]), ([], []), ([], []), ([11, 12], [11, 12]), ([13], [13]), ([14], [14]), ([4, 10, 15], [4, 10, 15]), ([], []), ([17, 16, 10, 0, 1, 2, 3, 4, 5, 6, 7, 8, 9, 10, 11, 12, 13, 14, 15, 16, 17], [16, 17])])
def spec_TakePart.B8 : List Nat := [0, 0, 3, 7, 15, 0, 0, 96, 224, 480, 992, 0, 0, 6144, 14336, 30720, 65535, 0, 262143]
theorem spec_TakePart.tab8 : rtab .any (opsOf Try.f31 8) = spec_TakePart.T8 := by kernel_rfl
theorem spec_TakePart.bits8 : waitsOk spec_TakePart.T8.2 spec_TakePart.B8 = true := by kernel_rfl
set_option maxHeartbeats 8000000 in
set_option maxRecDepth 100000 in
theorem spec_TakePart.calls (k : Nat) (A0 : Option Addr) (c0 : Nat) (l0 : List (S63)) (a1 : Int) (r1 : List (S63)) (r2 : Bool) (w : World) (hr0 : Kd.C k63 w A0 l0.length l0) (hc0 : l0.length ≤ c0) (h : spec_TakePart.f k l0 a1 = some (r1, r2)) :
    Calls Try.prog 31 #[.slice A0 l0.length c0, .int .i64 a1] w fun e w' => ∃ v0_ : Value, e = .returned (.tuple #[v0_, .bool r2]) ∧ Kd.S k63 63 w' w.heap.size (fun _ => True) v0_ r1 ∧ Below w.heap.size w w' := by
  have hu36 := Try.underlying36
  have hu63 := Try.underlying63
  have HR0 := Aside0.mk hr0
  have HC0 := Aside0.mk hc0
  clear hr0 hc0
  have HB := Aside0.mk (Below.refl w.heap.size w)
  obtain ⟨tk, A3, H⟩ := Option.bind_eq_some_iff.mp h
  clear h
  replace A3 := Aside0.mk A3
  have HC4 := Aside0.mk H
  clear H
  go_enter Try.func31, Try.ntmps31
  go_upto_region 2 with (first | ((with_reducible refine gate_callee (f := 36) rfl ?_); refine goesL_ (some 12) rfl rfl Try.func36 (by kernel_rfl) rfl #[.slice A0 l0.length c0, .int .i64 a1] rfl (by (try simp only [List.map_toArray, List.map_cons, List.map_nil]); first | done | rfl) ?_; refine (spec_l7Find.calls k _ _ l0 a1 tk _ HR0.out HC0.out A3.out).mono ?_; rintro e w' ⟨rfl, nd, rfl⟩; refine ⟨_, rfl, ?_⟩; have n0_ := Aside0.mk (pw_below_drewN HB.out nd); clear HB; have HB := n0_; clear n0_))
  (try simp only [Act.put, List.setIfInBounds_toArray, List.set_cons_zero, List.set_cons_succ])
  go_cut [19] (fun v19 wc => ∃ (kq : Nat) (x19_3 : Bool), v19 = .bool x19_3 ∧ Aside0 (spec_TakePart.j0 kq l0 tk x19_3 = some (r1, r2)) ∧ Aside0 (kq ≤ k) ∧ Aside0 (Below w.heap.size w wc))
  case first =>
    obtain ⟨t295, A5, H⟩ := Option.bind_eq_some_iff.mp HC4.out
    clear HC4
    replace A5 := Aside0.mk A5
    by_cases c6 : t295 = true
    · subst c6
      rw [if_pos rfl] at H
      have H' := Aside0.mk H
      clear H
      go_wp2_with (first | ((with_reducible refine gate_callee (f := 34) rfl ?_); refine goesL_ (some 14) rfl rfl Try.func34 (by kernel_rfl) rfl #[.slice A0 l0.length c0] rfl (by (try simp only [List.map_toArray, List.map_cons, List.map_nil]); first | done | rfl) ?_; refine (spec_IsStore.calls k _ _ l0 _ _ (Kd.C_below HR0.out HB.out) HC0.out A5.out).mono ?_; rintro e w7 ⟨rfl, hb⟩; refine ⟨_, rfl, ?_⟩; have n0_ := Aside0.mk (below_step HB.out hb); clear HB hb; have HB := n0_; clear n0_))
      go_meet
      case rel => exact ⟨_, decide (tk < 0), (by first | rfl | (simp; done) | (simp [*]; done)), H', ⟨Nat.le_refl _⟩, ⟨(by repeat (first | (with_reducible first | exact HB.out | apply below_alloc | apply pw_below_drewN | apply below_drew1) | exact HB.out))⟩⟩
    · replace c6 := Bool.eq_false_iff.mpr c6
      subst c6
      rw [if_neg (show ¬ (false = true) by decide)] at H
      have H' := Aside0.mk H
      clear H
      go_wp2_with (first | ((with_reducible refine gate_callee (f := 34) rfl ?_); refine goesL_ (some 14) rfl rfl Try.func34 (by kernel_rfl) rfl #[.slice A0 l0.length c0] rfl (by (try simp only [List.map_toArray, List.map_cons, List.map_nil]); first | done | rfl) ?_; refine (spec_IsStore.calls k _ _ l0 _ _ (Kd.C_below HR0.out HB.out) HC0.out A5.out).mono ?_; rintro e w7 ⟨rfl, hb⟩; refine ⟨_, rfl, ?_⟩; have n0_ := Aside0.mk (below_step HB.out hb); clear HB hb; have HB := n0_; clear n0_))
      go_meet
      case rel => exact ⟨_, true, (by first | rfl | (simp; done) | (simp [*]; done)), H', ⟨Nat.le_refl _⟩, ⟨(by repeat (first | (with_reducible first | exact HB.out | apply below_alloc | apply pw_below_drewN | apply below_drew1) | exact HB.out))⟩⟩
  case rest =>
    clear HC4
    try clear p2
    obtain ⟨kq, x19_3, rfl, HA, HJ3, HB⟩ := hcut
    cases kq with
    | zero => exact absurd HA.out (by simp [spec_TakePart.j0])
    | succ kj3 =>
      have H := HA.out
      clear HA
      simp only [spec_TakePart.j0] at H
      by_cases c9 : x19_3 = true
      · subst c9
        rw [if_pos rfl] at H
        obtain ⟨t296, A10, H⟩ := Option.bind_eq_some_iff.mp H
        replace A10 := Aside0.mk A10
        simp only [Option.some.injEq, Prod.mk.injEq] at H
        obtain ⟨rfl, rfl⟩ := H
        go_wp2_with (first | ((with_reducible refine gate_callee (f := 35) rfl ?_); refine goesL_ (some 21) rfl rfl Try.func35 (by kernel_rfl) rfl #[.slice A0 l0.length c0] rfl (by (try simp only [List.map_toArray, List.map_cons, List.map_nil]); first | done | rfl) ?_; refine (spec_l7Copy.calls kj3 _ _ l0 t296 _ (Kd.C_below HR0.out HB.out) HC0.out A10.out).mono ?_; rintro e w11 ⟨v297, rfl, ho0, hb⟩; refine ⟨_, rfl, ?_⟩; have HO := Aside0.mk (Kd.S_lower ho0 (below_size HB.out)); have n1_ := Aside0.mk (below_step HB.out hb); clear HB ho0 hb; have HB := n1_; clear n1_))
        go_ret2
        exact ⟨_, (by first | rfl | (simp [errW_none, errW_some] <;> rfl) | (simp [*, errW_none, errW_some] <;> rfl)), HO.out, (by repeat (first | (with_reducible first | exact HB.out | apply below_alloc | apply pw_below_drewN | apply below_drew1) | exact HB.out))⟩
      · replace c9 := Bool.eq_false_iff.mpr c9
        subst c9
        rw [if_neg (show ¬ (false = true) by decide)] at H
        obtain ⟨y299, hy299⟩ : ∃ y_ : List (S63), y_ = ([] : List (S63)) := ⟨_, rfl⟩
        rw [← hy299] at H
        have Ny299 := Aside0.mk hy299
        have H' := Aside0.mk H
        clear hy299 H
        go_wp2_with (first | ((with_reducible refine gate_dst (N := 22) rfl ?_); refine Kd.S_lit k63 _ 63 ?hg (N := 22) ?hd (xs := ([] : List (S63))) (inner := []) (ok := fun _ => True) (okp := fun _ => True) ?hr ?hp (fun _ hk => hk) trivial (Below.refl _ _) (Nat.le_refl _) (by simp) ?_; (case hd => rfl); (case hg => rfl); (case hr => first | (go_simp; done) | (go_simp; rfl)); (case hp => exact (Reps.none _ _)); intro v300 w12 ho13 hb hg_ hnew_; clear hg_ hnew_; rw [← Ny299.out] at ho13; have n0_ := Aside0.mk (Kd.S_lower ho13 (below_size (by repeat (first | (with_reducible first | exact HB.out | apply below_alloc | apply pw_below_drewN | apply below_drew1) | exact HB.out)))); have n1_ := Aside0.mk (below_step (by repeat (first | (with_reducible first | exact HB.out | apply below_alloc | apply pw_below_drewN | apply below_drew1) | exact HB.out)) hb); clear HB; have HO := n0_; have HB := n1_; clear n0_ n1_; clear hb ho13))
        go_loopg [7, 8] kj3 (fun kq v7 v8 w' => ∃ (x7_2 : List (S63)) (x8_2 : Int), v8 = .int .i64 x8_2 ∧ Aside0 (spec_TakePart.l0 kq l0 tk x7_2 x8_2 = some (r1, r2)) ∧ Aside0 (kq ≤ kj3) ∧ Aside0 (Kd.S k63 63 w' w.heap.size (fun _ => True) v7 x7_2) ∧ Aside0 (Below w.heap.size w w'))
        case atStart => exact ⟨y299, 0, (by first | rfl | (simp; done)), H', ⟨Nat.le_refl _⟩, HO, HB⟩
        case round =>
          clear H' HB HO
          try clear p2
          obtain ⟨xs, i, rfl, HA, HK2, HO, HB⟩ := hrel
          cases gk with
          | zero => exact absurd HA.out (by simp [spec_TakePart.l0])
          | succ k2 =>
            have H := HA.out
            clear HA
            simp only [spec_TakePart.l0] at H
            by_cases c14 : i < (l0.length : Int)
            · rw [if_pos c14] at H
              by_cases c15 : 0 ≤ i
              · rw [if_pos c15] at H
                have c14b0 : decide (i < (l0.length : Int)) = true := decide_eq_true c14
                obtain ⟨ad, A2, c2, e2, hx0, hx1, hx2, hx3, hx4, hx5, hx6, hl2, hi2⟩ := at_T63 HR0.out i c15 c14
                cases e2
                obtain ⟨⟨d, ⟨kd, bd, ⟨ho, pa, qu⟩⟩, us⟩, hx⟩ : ∃ x, rd_T63 l0 i = x := ⟨_, rfl⟩
                simp only [hx] at H hx0 hx1 hx2 hx3 hx4 hx5 hx6 hi2 hl2
                obtain ⟨⟨t1, t2, t3, t4, t5⟩, A16, H⟩ := Option.bind_eq_some_iff.mp H
                replace A16 := Aside0.mk A16
                have PF := Aside0.mk (fun w' (hb : Below w.heap.size w w') => (show w'.cell? (ad.add (i.toNat * 7)) = some (.int .i64 d) ∧ w'.cell? ⟨(ad.add (i.toNat * 7)).block, (ad.add (i.toNat * 7)).off + 1, none⟩ = some (.int .i64 kd) ∧ w'.cell? ⟨(ad.add (i.toNat * 7)).block, (ad.add (i.toNat * 7)).off + 2, none⟩ = some (.slice A2 bd.length c2) ∧ w'.cell? ⟨(ad.add (i.toNat * 7)).block, (ad.add (i.toNat * 7)).off + 3, none⟩ = some (.int .i64 ho) ∧ w'.cell? ⟨(ad.add (i.toNat * 7)).block, (ad.add (i.toNat * 7)).off + 4, none⟩ = some (.int .i64 pa) ∧ w'.cell? ⟨(ad.add (i.toNat * 7)).block, (ad.add (i.toNat * 7)).off + 5, none⟩ = some (.int .i64 qu) ∧ w'.cell? ⟨(ad.add (i.toNat * 7)).block, (ad.add (i.toNat * 7)).off + 6, none⟩ = some (.int .i64 us) from cells7 hb hx0 hx1 hx2 hx3 hx4 hx5 hx6))
                have HR2 := Aside0.mk hi2
                have HC2 := Aside0.mk hl2
                clear hi2 hl2 hx hx0 hx1 hx2 hx3 hx4 hx5 hx6
                have c15b := eq_true c15
                have c14b := eq_true c14
                have HH := Aside0.mk H
                clear H
                go_wp2
                have H := HH.out
                clear HH
                have HB0 := Aside0.mk (below_drew1 HB.out)
                have HO0 := Aside0.mk (Kd.S_drew HO.out)
                clear HB HO
                have HB := HB0
                have HO := HO0
                clear HB0 HO0
                refine start_ (n := 19) (S := fun w' => w'.cell? (ad.add (i.toNat * 7)) = some (.int .i64 d) ∧ w'.cell? ⟨(ad.add (i.toNat * 7)).block, (ad.add (i.toNat * 7)).off + 1, none⟩ = some (.int .i64 kd) ∧ w'.cell? ⟨(ad.add (i.toNat * 7)).block, (ad.add (i.toNat * 7)).off + 2, none⟩ = some (.slice A2 bd.length c2) ∧ w'.cell? ⟨(ad.add (i.toNat * 7)).block, (ad.add (i.toNat * 7)).off + 3, none⟩ = some (.int .i64 ho) ∧ w'.cell? ⟨(ad.add (i.toNat * 7)).block, (ad.add (i.toNat * 7)).off + 4, none⟩ = some (.int .i64 pa) ∧ w'.cell? ⟨(ad.add (i.toNat * 7)).block, (ad.add (i.toNat * 7)).off + 5, none⟩ = some (.int .i64 qu) ∧ w'.cell? ⟨(ad.add (i.toNat * 7)).block, (ad.add (i.toNat * 7)).off + 6, none⟩ = some (.int .i64 us)) (ds := []) (mk 19 0) (by kernel_rfl) rfl rfl (PF.out _ HB.out) (fun hHeld => ?_)
                refine with_tabW spec_TakePart.tab8 spec_TakePart.bits8 (fun HT_ HW_ => ?_)
                generalize wr.drew = wd at HB HO hHeld ⊢
                refine on_ 0 29 (mk 19 0x1) ?_
                refine on_ 1 30 (mk 19 0x3) ?_
                refine on_ 2 31 (mk 19 0x7) ?_
                refine on_ 3 32 (mk 19 0xF) ?_
                refine on_ 5 34 (mk 19 0x2F) ?_
                refine on_ 6 35 (mk 19 0x6F) ?_
                refine on_ 7 36 (mk 19 0xEF) ?_
                refine on_ 8 37 (mk 19 0x1EF) ?_
                refine on_ 11 40 (mk 19 0x9EF) ?_
                refine on_ 12 41 (mk 19 0x19EF) ?_
                refine on_ 13 42 (mk 19 0x39EF) ?_
                refine on_ 14 43 (mk 19 0x79EF) ?_
                refine rd_ 4 33 (mk 19 0x79FF) ?_
                refine rd_ 9 38 (mk 19 0x7BFF) ?_
                refine rd_ 15 44 (mk 19 0xFBFF) ?_
                refine join_ (σ := Value × Nat) 1 (mk 19 0x3FFFF) (fun s_ => [(39, .agg #[.int .i64 t1, s_.1, .int .i64 t3, .int .i64 t4, .int .i64 t5]), (9, .pointer (some ⟨s_.2, 0, none⟩)), (45, .agg #[.int .i64 d, .int .i64 t1, s_.1, .int .i64 t3, .int .i64 t4, .int .i64 t5, .int .i64 us])]) (fun s_ w' => (w'.cell? (ad.add (i.toNat * 7)) = some (.int .i64 d) ∧ w'.cell? ⟨(ad.add (i.toNat * 7)).block, (ad.add (i.toNat * 7)).off + 1, none⟩ = some (.int .i64 kd) ∧ w'.cell? ⟨(ad.add (i.toNat * 7)).block, (ad.add (i.toNat * 7)).off + 2, none⟩ = some (.slice A2 bd.length c2) ∧ w'.cell? ⟨(ad.add (i.toNat * 7)).block, (ad.add (i.toNat * 7)).off + 3, none⟩ = some (.int .i64 ho) ∧ w'.cell? ⟨(ad.add (i.toNat * 7)).block, (ad.add (i.toNat * 7)).off + 4, none⟩ = some (.int .i64 pa) ∧ w'.cell? ⟨(ad.add (i.toNat * 7)).block, (ad.add (i.toNat * 7)).off + 5, none⟩ = some (.int .i64 qu) ∧ w'.cell? ⟨(ad.add (i.toNat * 7)).block, (ad.add (i.toNat * 7)).off + 6, none⟩ = some (.int .i64 us)) ∧ MadeB w w' s_.2 #[.int .i64 0, .int .i64 0, .slice none 0 0, .int .i64 0, .int .i64 0, .int .i64 0, .int .i64 0] s_.1 t2 u7 xs) ?_ ?_
                rotate_left
                · intro hCont
                  refine two_ (i := 10) (j := 17) (Ni := some 39) (Nj := some 9) (mk 19 0xFFFF) (mk 19 0x2FBFF) rfl rfl rfl rfl (two_of HT_.out (by kernel_rfl)) (by decide) (by decide) (fun K hK => ?_) (fun K hK => ?_)
                  · refine goes_ Try.func37 (by kernel_rfl) rfl #[.agg #[.int .i64 kd, .slice A2 bd.length c2, .int .i64 ho, .int .i64 pa, .int .i64 qu]] (by rfl) rfl rfl (by (try simp only [List.map_toArray, List.map_cons, List.map_nil]); first | done | rfl) ?_
                    refine (spec_l5Copy.calls kd _ _ bd ho pa qu t1 t2 t3 t4 t5 _ (Kd.C_below HR2.out HB.out) HC2.out A16.out).mono ?_
                    rintro e w21 ⟨v5, rfl, ho0, hb1⟩
                    refine ⟨_, rfl, ?_⟩
                    refine hK.out _ _ (PF.out _ (below_step HB.out hb1)) (fun hHeld => nk_ 39 ?_)
                    clear hK K
                    obtain ⟨A5, c5, e5⟩ := Kd.R_slice ho0
                    subst e5
                    refine on_ 16 45 (mk 19 0x1FFFF) ?_
                    refine one_ (i := 17) (N := some 9) (mk 19 0x3FFFF) rfl rfl (one_of HT_.out (by kernel_rfl)) (by decide) (fun K hK => ?_)
                    refine box_step ?hg (N := 9) ?hd (cs := #[.int .i64 0, .int .i64 0, .slice none 0 0, .int .i64 0, .int .i64 0, .int .i64 0, .int .i64 0]) (t := 63) ?hr ?_; (case hd => rfl); (case hg => rfl); (case hr => first | (go_simp; done) | (go_simp; rfl))
                    intro gb hg w23 hbox hb2
                    refine hK.out _ _ (PF.out _ (below_step (below_step HB.out hb1) hb2)) (fun hHeld => nk_ 9 ?_)
                    clear hK K
                    exact norm_ (by simp only [putAll, Act.put, List.setIfInBounds_toArray, List.set_cons_zero, List.set_cons_succ]) (hCont (.slice A5 t2.length c5, gb) _ ⟨hHeld, MadeB.callbox HB.out HO.out ho0 hb1 hg hbox hb2⟩)
                  · refine box_step ?hg (N := 9) ?hd (cs := #[.int .i64 0, .int .i64 0, .slice none 0 0, .int .i64 0, .int .i64 0, .int .i64 0, .int .i64 0]) (t := 63) ?hr ?_; (case hd => rfl); (case hg => rfl); (case hr => first | (go_simp; done) | (go_simp; rfl))
                    intro gb hg w23 hbox hb2
                    refine hK.out _ _ (PF.out _ (below_step HB.out hb2)) (fun hHeld => nk_ 9 ?_)
                    clear hK K
                    refine one_ (i := 10) (N := some 39) (mk 19 0x2FFFF) rfl rfl (one_of HT_.out (by kernel_rfl)) (by decide) (fun K hK => ?_)
                    refine goes_ Try.func37 (by kernel_rfl) rfl #[.agg #[.int .i64 kd, .slice A2 bd.length c2, .int .i64 ho, .int .i64 pa, .int .i64 qu]] (by rfl) rfl rfl (by (try simp only [List.map_toArray, List.map_cons, List.map_nil]); first | done | rfl) ?_
                    refine (spec_l5Copy.calls kd _ _ bd ho pa qu t1 t2 t3 t4 t5 _ (Kd.C_below HR2.out (below_step HB.out hb2)) HC2.out A16.out).mono ?_
                    rintro e w21 ⟨v5, rfl, ho0, hb1⟩
                    refine ⟨_, rfl, ?_⟩
                    refine hK.out _ _ (PF.out _ (below_step (below_step HB.out hb2) hb1)) (fun hHeld => nk_ 39 ?_)
                    clear hK K
                    obtain ⟨A5, c5, e5⟩ := Kd.R_slice ho0
                    subst e5
                    refine on_ 16 45 (mk 19 0x3FFFF) ?_
                    exact norm_ (by simp only [putAll, Act.put, List.setIfInBounds_toArray, List.set_cons_zero, List.set_cons_succ]) (hCont (.slice A5 t2.length c5, gb) _ ⟨hHeld, MadeB.boxcall HB.out HO.out hg hbox hb2 ho0 hb1⟩)
                rintro ⟨v5, gb⟩ w24 ⟨hHeld, MD0⟩
                clear HB HO
                obtain ⟨A5, c5, e5⟩ := Kd.R_slice MD0.1
                dsimp only at e5 MD0
                subst e5
                refine nj_ ?_
                obtain ⟨w33, e33, MD1⟩ := MD0.put7 (.int .i64 d) (.int .i64 t1) (.slice A5 t2.length c5) (.int .i64 t3) (.int .i64 t4) (.int .i64 t5) (.int .i64 us)
                have hz := box7z MD0.2.2.1
                refine one_ (i := 18) (N := none) (mk 19 0x7FFFF) rfl rfl (one_of HT_.out (by kernel_rfl)) (by decide) (fun K hK => ?_)
                refine skip_ (w1 := w33) (by rfl) rfl (by rw [e33]; first | (go_simp; done) | (go_simp; rfl)) ?_
                refine hK.out _ _ (PF.out _ MD1.2.2.2.2) (fun hHeld => ?_)
                clear hK K hz MD0 e33 hHeld
                refine dn_ ?_
                by_cases c17 : i = tk
                case' pos =>
                  rw [if_pos c17] at H
                  have c17b : (i == tk) = true := beq_iff_eq.mpr c17
                  have hz := box7z MD1.2.2.1
                  obtain ⟨us', eus⟩ : ∃ us', wrap64 (us - 1) = us' := ⟨_, rfl⟩
                  rw [eus] at H
                  have HH := Aside0.mk H
                  clear H
                  go_upto_region 11 with (first | ((with_reducible refine gate_store (t := 3) (p := 52) rfl ?_); refine store_event (t := 3) (p := 52) (v := ?vo) (w1 := (w33.setCell ⟨gb, 6, none⟩ (.int .i64 (wrap64 (us - 1))))) ?hg ?ho ?hn ?hr ?_; (case ho => rfl); (case hg => rfl); (case hn => rfl); (case hr => first | (go_simp; done) | (go_simp; rfl)); intro w35 hw; have n0_ := Aside0.mk (show MadeB w w35 gb #[.int .i64 d, .int .i64 t1, .slice A5 t2.length c5, .int .i64 t3, .int .i64 t4, .int .i64 t5, .int .i64 (wrap64 (us - 1))] _ _ _ _ from hw ▸ MD1.put 6 (.int .i64 (wrap64 (us - 1))) rfl); clear hw hz; have hz := box7z n0_.out.2.2.1))
                  have MD := n0_
                  clear n0_
                  rw [eus] at MD hz
                  have H := HH.out
                  clear eus HH MD1 c17 c17b
                case' neg =>
                  rw [if_neg c17] at H
                  have c17b : (i == tk) = false := beq_eq_false_iff_ne.mpr c17
                  have hz := box7z MD1.2.2.1
                  have HH := Aside0.mk H
                  clear H
                  go_upto_region 11 with fail
                  obtain ⟨us', rfl⟩ : ∃ x, x = us := ⟨us, rfl⟩
                  have MD := Aside0.mk MD1
                  have H := HH.out
                  clear HH MD1 c17 c17b
                all_goals (
                  by_cases c18 : us' > 0
                  · rw [if_pos c18] at H
                    have c18b : decide (0 < us') = true := decide_eq_true c18
                    clear c18
                    by_cases c19 : xs.length < 1954687338268
                    · rw [if_pos c19] at H
                      have LM := Aside0.mk c19
                      have H' := Aside0.mk H
                      clear H c19
                      go_wp2_with (((with_reducible refine gate_builtin (b := .append) (xs := #[.tmp 56, .tmp 58]) rfl ?_); at_builtin; refine Kd.S_append k63 (w0 := w) w.heap.size rfl (.tmp 56) (.tmp 58) 30 63 (.agg #[.int .i64 0, .int .i64 0, .slice none 0 0, .int .i64 0, .int .i64 0, .int .i64 0, .int .i64 0]) 72 rfl Try.underlying30 info63 rfl (by decide) (by omega) u7 xs (⟨d, (⟨t1, t2, (⟨t3, t4, t5⟩ : S34)⟩ : S36), us'⟩ : S63) [.int .i64 d, .int .i64 t1, .slice A5 t2.length c5, .int .i64 t3, .int .i64 t4, .int .i64 t5, .int .i64 us'] (fun k_ => k_ ≠ gb) (fun k_ => some k_ = (.slice A5 t2.length c5 : Value).ownBlock) rfl rfl (k63_mkM _ _ _ (⟨d, (⟨t1, t2, (⟨t3, t4, t5⟩ : S34)⟩ : S36), us'⟩ : S63) MD.out.pack.1) MD.out.pack.2.1 MD.out.pack.2.2.1 MD.out.pack.2.2.2.1 MD.out.pack.2.2.2.2.1 MD.out.pack.2.2.2.2.2 (by have := LM.out; omega) ?_; intro v1 w37 ho hb hg hat; have HO := Aside0.mk ho; have HB := Aside0.mk hb; clear ho hb hg hat))
                      go_roundg k2
                      case measure => have := HJ3.out; have := HK2.out; omega
                      case rel => exact ⟨xs ++ [(⟨d, (⟨t1, t2, (⟨t3, t4, t5⟩ : S34)⟩ : S36), us'⟩ : S63)], wrap64 (i + 1), (by first | rfl | (simp; done) | (simp [*]; done)), H', ⟨by have := HJ3.out; have := HK2.out; omega⟩, ⟨Kd.S_mono HO.out (fun _ _ => trivial)⟩, ⟨(by repeat (first | (with_reducible first | exact HB.out | apply below_alloc | apply pw_below_drewN | apply below_drew1) | exact HB.out))⟩⟩
                    · rw [if_neg c19] at H
                      exact absurd H (by simp)
                  · rw [if_neg c18] at H
                    have c18b : decide (0 < us') = false := decide_eq_false c18
                    have H' := Aside0.mk H
                    clear H c18
                    have HO := Aside0.mk MD.out.2.1
                    have HB := Aside0.mk MD.out.2.2.2.2
                    go_wp2
                    go_roundg k2
                    case measure => have := HJ3.out; have := HK2.out; omega
                    case rel => exact ⟨xs, wrap64 (i + 1), (by first | rfl | (simp; done) | (simp [*]; done)), H', ⟨by have := HJ3.out; have := HK2.out; omega⟩, ⟨Kd.S_mono HO.out (fun _ _ => trivial)⟩, ⟨(by repeat (first | (with_reducible first | exact HB.out | apply below_alloc | apply pw_below_drewN | apply below_drew1) | exact HB.out))⟩⟩)
              · rw [if_neg c15] at H
                exact absurd H (by simp)
            · rw [if_neg c14] at H
              have c14b0 : decide (i < (l0.length : Int)) = false := decide_eq_false c14
              simp only [Option.some.injEq, Prod.mk.injEq] at H
              obtain ⟨rfl, rfl⟩ := H
              clear c14
              go_wp2
              go_ret2
              exact ⟨_, (by first | rfl | (simp [errW_none, errW_some] <;> rfl) | (simp [*, errW_none, errW_some] <;> rfl)), HO.out, (by repeat (first | (with_reducible first | exact HB.out | apply below_alloc | apply pw_below_drewN | apply below_drew1) | exact HB.out))⟩

/-! ### laws_FnExactTakePart: function 5 (by hand) -/
theorem laws_heldPartS.callsM (k : Nat) (A0 : Option Addr) (c0 : Nat) (l0 : List (S63)) (r : Int) (w : World) (hr0 : Kd.C k63 w A0 (laws_markPartS.mk l0 1).length (laws_markPartS.mk l0 1)) (hc0 : l0.length ≤ c0) (h : laws_heldPartS.f k (laws_markPartS.mk l0 1) 1 = some r) :
    Calls Try.prog 16 #[.slice A0 l0.length c0, .int .i64 1] w fun e w' => e = .returned (.int .i64 r) ∧ Drawn0 w w' := by
  have h1 := laws_heldPartS.calls k A0 c0 (laws_markPartS.mk l0 1) 1 r w hr0 (by rw [laws_markPartS.mk_length]; exact hc0) h
  rw [laws_markPartS.mk_length] at h1
  exact h1
/-- What the law asks, each function once. -/
def laws_FnExactTakePart.f (k : Nat) (l0 : List S59) (a1 : Int) : Prop :=
  ∃ t0, laws_szPartS.f k l0 1048576 = some t0 ∧ (t0 < 0 ∨ ∃ xs rs rb m1 m2, laws_toPartS.f k l0 = some xs ∧ spec_TakePart.f k xs a1 = some (rs, rb) ∧ impl_TakePart.f k xs a1 = some (rs, rb) ∧ laws_eqPartS.f k rs rs = some true ∧ laws_eqPartS.f k xs xs = some true ∧
    laws_markPartS.f xs 1 = some m1 ∧ laws_markPartS.f rs 1 = some m2 ∧ laws_heldPartS.f k (laws_markPartS.mk rs 1) 1 = some m2 ∧ 0 ≤ m1 ∧ 0 ≤ m2)
set_option maxHeartbeats 8000000 in
set_option maxRecDepth 100000 in
theorem laws_FnExactTakePart.calls (k : Nat) (A0 : Option Addr) (c0 : Nat) (l0 : List (S59)) (a1 : Int) (r : Bool) (w : World) (hr0 : Kd.C k59 w A0 l0.length l0) (hc0 : l0.length ≤ c0) (hT0 : r = true) (h : laws_FnExactTakePart.f k l0 a1) :
    Calls Try.prog 5 #[.slice A0 l0.length c0, .int .i64 a1] w fun e w' => e = .returned (.bool r) ∧ Below w.heap.size w w' := by
  subst hT0
  have HR0 := Aside0.mk hr0
  have HC0 := Aside0.mk hc0
  clear hr0 hc0
  have HB := Aside0.mk (Below.refl w.heap.size w)
  obtain ⟨t0, AS, H⟩ := h
  replace AS := Aside0.mk AS
  rcases H with c0n | ⟨xs, rs, rb, m1, m2, AT, AP, AI, AE, AX, AM, AN, AH, hm1, hm2⟩
  · have c0b : decide (t0 < 0) = true := decide_eq_true c0n
    clear c0n
    go_enter Try.func5, Try.ntmps5
    go_wp2_with (first | ((with_reducible refine gate_callee (f := 6) rfl ?_); refine goesL_ (some 18) rfl rfl Try.func6 (by kernel_rfl) rfl #[.slice A0 l0.length c0, .int .i64 1048576] rfl (by (try simp only [List.map_toArray, List.map_cons, List.map_nil]); first | done | rfl) ?_; refine (laws_szPartS.calls k _ _ l0 1048576 t0 _ HR0.out HC0.out AS.out).mono ?_; rintro e wn ⟨rfl, hb⟩; refine ⟨_, rfl, ?_⟩; have n0_ := Aside0.mk (below_step HB.out hb); clear HB  hb; have HB := n0_; clear n0_ ))
    go_ret
    exact ⟨(by first | rfl | (simp [errW_none, errW_some] <;> rfl) | (simp [*, errW_none, errW_some] <;> rfl)), (by repeat (first | (with_reducible first | exact HB.out | apply below_alloc | apply pw_below_drewN | apply below_drew1) | exact HB.out))⟩
  · by_cases c0n : t0 < 0
    · have c0b : decide (t0 < 0) = true := decide_eq_true c0n
      clear c0n
      go_enter Try.func5, Try.ntmps5
      go_wp2_with (first | ((with_reducible refine gate_callee (f := 6) rfl ?_); refine goesL_ (some 18) rfl rfl Try.func6 (by kernel_rfl) rfl #[.slice A0 l0.length c0, .int .i64 1048576] rfl (by (try simp only [List.map_toArray, List.map_cons, List.map_nil]); first | done | rfl) ?_; refine (laws_szPartS.calls k _ _ l0 1048576 t0 _ HR0.out HC0.out AS.out).mono ?_; rintro e wn ⟨rfl, hb⟩; refine ⟨_, rfl, ?_⟩; have n0_ := Aside0.mk (below_step HB.out hb); clear HB  hb; have HB := n0_; clear n0_ ))
      go_ret
      exact ⟨(by first | rfl | (simp [errW_none, errW_some] <;> rfl) | (simp [*, errW_none, errW_some] <;> rfl)), (by repeat (first | (with_reducible first | exact HB.out | apply below_alloc | apply pw_below_drewN | apply below_drew1) | exact HB.out))⟩
    · have c0b : decide (t0 < 0) = false := decide_eq_false c0n
      replace AT := Aside0.mk AT
      replace AP := Aside0.mk AP
      replace AI := Aside0.mk AI
      replace AE := Aside0.mk AE
      replace AX := Aside0.mk AX
      replace AM := Aside0.mk AM
      replace AN := Aside0.mk AN
      replace AH := Aside0.mk AH
      have q1 : decide (m1 < 0) = false := decide_eq_false (by omega)
      have q2 : decide (m2 < 0) = false := decide_eq_false (by omega)
      clear hm1 hm2 c0n
      go_enter Try.func5, Try.ntmps5
      go_wp2_with (first | ((with_reducible refine gate_callee (f := 6) rfl ?_); refine goesL_ (some 18) rfl rfl Try.func6 (by kernel_rfl) rfl #[.slice A0 l0.length c0, .int .i64 1048576] rfl (by (try simp only [List.map_toArray, List.map_cons, List.map_nil]); first | done | rfl) ?_; refine (laws_szPartS.calls k _ _ l0 1048576 t0 _ HR0.out HC0.out AS.out).mono ?_; rintro e wn ⟨rfl, hb⟩; refine ⟨_, rfl, ?_⟩; have n0_ := Aside0.mk (below_step HB.out hb); clear HB  hb; have HB := n0_; clear n0_ ) | ((with_reducible refine gate_callee (f := 9) rfl ?_); refine goesL_ (some 23) rfl rfl Try.func9 (by kernel_rfl) rfl #[.slice A0 l0.length c0] rfl (by (try simp only [List.map_toArray, List.map_cons, List.map_nil]); first | done | rfl) ?_; refine (laws_toPartS.calls k _ _ l0 xs _ (Kd.C_below HR0.out HB.out) HC0.out AT.out).mono ?_; rintro e wn ⟨v_, rfl, ho0, hb⟩; refine ⟨_, rfl, ?_⟩; have nn_ := Aside0.mk (Row.new HB.out ho0); clear ho0; have n0_ := Aside0.mk (below_step HB.out hb); clear HB  hb; have HB := n0_; clear n0_ ; have Ra := nn_; clear nn_; obtain ⟨Aa, ca, e_⟩ := Kd.S_slice Ra.out; subst e_) | ((with_reducible refine gate_callee (f := 31) rfl ?_); refine goesL_ (some 25) rfl rfl Try.func31 (by kernel_rfl) rfl #[.slice Aa xs.length ca, .int .i64 a1] rfl (by (try simp only [List.map_toArray, List.map_cons, List.map_nil]); first | done | rfl) ?_; refine (spec_TakePart.calls k _ _ xs a1 rs rb _ Ra.out.C Ra.out.le AP.out).mono ?_; rintro e wn ⟨v_, rfl, ho0, hb⟩; refine ⟨_, rfl, ?_⟩; have nn_ := Aside0.mk (Row.new HB.out ho0); clear ho0; have n0_ := Aside0.mk (below_step HB.out hb); have nRa_ := Aside0.mk (Ra.out.below hb); clear HB Ra hb; have HB := n0_; have Ra := nRa_; clear n0_ nRa_; have Rw := nn_; clear nn_; obtain ⟨Aw, cw, e_⟩ := Kd.S_slice Rw.out; subst e_) | ((with_reducible refine gate_callee (f := 9) rfl ?_); refine goesL_ (some 29) rfl rfl Try.func9 (by kernel_rfl) rfl #[.slice A0 l0.length c0] rfl (by (try simp only [List.map_toArray, List.map_cons, List.map_nil]); first | done | rfl) ?_; refine (laws_toPartS.calls k _ _ l0 xs _ (Kd.C_below HR0.out HB.out) HC0.out AT.out).mono ?_; rintro e wn ⟨v_, rfl, ho0, hb⟩; refine ⟨_, rfl, ?_⟩; have HN := Aside0.mk (below_size hb); have nn_ := Aside0.mk (Row.new HB.out ho0); clear ho0; have n0_ := Aside0.mk (below_step HB.out hb); have nRa_ := Aside0.mk (Ra.out.below hb); have nRw_ := Aside0.mk (Rw.out.below hb); clear HB Ra Rw hb; have HB := n0_; have Ra := nRa_; have Rw := nRw_; clear n0_ nRa_ nRw_; have Rx := nn_; clear nn_; obtain ⟨Ax, cx, e_⟩ := Kd.S_slice Rx.out; subst e_) | ((with_reducible refine gate_callee (f := 27) rfl ?_); refine goesL_ (some 33) rfl rfl Try.func27 (by kernel_rfl) rfl #[.slice Ax xs.length cx, .int .i64 a1] rfl (by (try simp only [List.map_toArray, List.map_cons, List.map_nil]); first | done | rfl) ?_; refine (impl_TakePart.calls k _ _ xs a1 rs rb _ Rx.out.C Rx.out.le AI.out).mono ?_; rintro e wn ⟨v_, rfl, ho0, hb⟩; refine ⟨_, rfl, ?_⟩; have nn_ := Aside0.mk (Row.new HB.out ho0); clear ho0; have n0_ := Aside0.mk (below_step HB.out hb); have nRa_ := Aside0.mk (Ra.out.below hb); have nRw_ := Aside0.mk (Rw.out.below hb); have nRx_ := Aside0.mk (Rx.out.below hb); clear HB Ra Rw Rx hb; have HB := n0_; have Ra := nRa_; have Rw := nRw_; have Rx := nRx_; clear n0_ nRa_ nRw_ nRx_; have Rg := nn_; clear nn_; obtain ⟨Ag, cg, e_⟩ := Kd.S_slice Rg.out; subst e_) | ((with_reducible refine gate_callee (f := 12) rfl ?_); refine goesL_ (some 38) rfl rfl Try.func12 (by kernel_rfl) rfl #[.slice Ag rs.length cg, .slice Aw rs.length cw] rfl (by (try simp only [List.map_toArray, List.map_cons, List.map_nil]); first | done | rfl) ?_; refine (laws_eqPartS.calls k _ _ rs _ _ rs true _ Rg.out.C Rg.out.le Rw.out.C Rw.out.le AE.out).mono ?_; rintro e wn ⟨rfl, hb⟩; refine ⟨_, rfl, ?_⟩; have n0_ := Aside0.mk (below_step HB.out hb); have nRa_ := Aside0.mk (Ra.out.below hb); have nRw_ := Aside0.mk (Rw.out.below hb); have nRx_ := Aside0.mk (Rx.out.below hb); have nRg_ := Aside0.mk (Rg.out.below hb); clear HB Ra Rw Rx Rg hb; have HB := n0_; have Ra := nRa_; have Rw := nRw_; have Rx := nRx_; have Rg := nRg_; clear n0_ nRa_ nRw_ nRx_ nRg_) | ((with_reducible refine gate_callee (f := 9) rfl ?_); refine goesL_ (some 47) rfl rfl Try.func9 (by kernel_rfl) rfl #[.slice A0 l0.length c0] rfl (by (try simp only [List.map_toArray, List.map_cons, List.map_nil]); first | done | rfl) ?_; refine (laws_toPartS.calls k _ _ l0 xs _ (Kd.C_below HR0.out HB.out) HC0.out AT.out).mono ?_; rintro e wn ⟨v_, rfl, ho0, hb⟩; refine ⟨_, rfl, ?_⟩; have nn_ := Aside0.mk (Row.new HB.out ho0); clear ho0; have n0_ := Aside0.mk (below_step HB.out hb); have nRa_ := Aside0.mk (Ra.out.below hb); have nRw_ := Aside0.mk (Rw.out.below hb); have nRx_ := Aside0.mk (Rx.out.below hb); have nRg_ := Aside0.mk (Rg.out.below hb); clear HB Ra Rw Rx Rg hb; have HB := n0_; have Ra := nRa_; have Rw := nRw_; have Rx := nRx_; have Rg := nRg_; clear n0_ nRa_ nRw_ nRx_ nRg_; have Rt := nn_; clear nn_; obtain ⟨At, ct, e_⟩ := Kd.S_slice Rt.out; subst e_) | ((with_reducible refine gate_callee (f := 12) rfl ?_); refine goesL_ (some 48) rfl rfl Try.func12 (by kernel_rfl) rfl #[.slice Ax xs.length cx, .slice At xs.length ct] rfl (by (try simp only [List.map_toArray, List.map_cons, List.map_nil]); first | done | rfl) ?_; refine (laws_eqPartS.calls k _ _ xs _ _ xs true _ Rx.out.C Rx.out.le Rt.out.C Rt.out.le AX.out).mono ?_; rintro e wn ⟨rfl, hb⟩; refine ⟨_, rfl, ?_⟩; have n0_ := Aside0.mk (below_step HB.out hb); have nRa_ := Aside0.mk (Ra.out.below hb); have nRw_ := Aside0.mk (Rw.out.below hb); have nRx_ := Aside0.mk (Rx.out.below hb); have nRg_ := Aside0.mk (Rg.out.below hb); have nRt_ := Aside0.mk (Rt.out.below hb); clear HB Ra Rw Rx Rg Rt hb; have HB := n0_; have Ra := nRa_; have Rw := nRw_; have Rx := nRx_; have Rg := nRg_; have Rt := nRt_; clear n0_ nRa_ nRw_ nRx_ nRg_ nRt_) | ((with_reducible refine gate_callee (f := 14) rfl ?_); refine goesL_ (some 52) rfl rfl Try.func14 (by kernel_rfl) rfl #[.slice Ax xs.length cx, .int .i64 1] rfl (by (try simp only [List.map_toArray, List.map_cons, List.map_nil]); first | done | rfl) ?_; refine (laws_markPartS.calls _ _ _ xs 1 m1 w _ HB.out (Kd.S_R Rx.out) AM.out).mono ?_; rintro e wn ⟨rfl, hbm, hkp⟩; refine ⟨_, rfl, ?_⟩; have nw_ := Aside0.mk (Rw.out.kept hkp (fun k_ hk_ => by omega)); have ng_ := Aside0.mk (Rg.out.kept hkp (fun k_ hk_ => by omega)); have n0_ := Aside0.mk hbm; clear Ra Rt HB Rw Rx Rg hkp hbm; have HB := n0_; have Rw := nw_; have Rg := ng_; clear n0_ nw_ ng_) | (go_at_call 12; refine (laws_eqPartS.calls k _ _ rs _ _ rs true _ Rg.out.C Rg.out.le Rw.out.C Rw.out.le AE.out).mono ?_; rintro e wn ⟨rfl, hb⟩; have n0_ := Aside0.mk (below_step HB.out hb); have nRw_ := Aside0.mk (Rw.out.below hb); have nRg_ := Aside0.mk (Rg.out.below hb); clear HB Rw Rg hb; have HB := n0_; have Rw := nRw_; have Rg := nRg_; clear n0_ nRw_ nRg_) | ((with_reducible refine gate_callee (f := 14) rfl ?_); refine goesL_ (some 68) rfl rfl Try.func14 (by kernel_rfl) rfl #[.slice Ag rs.length cg, .int .i64 1] rfl (by (try simp only [List.map_toArray, List.map_cons, List.map_nil]); first | done | rfl) ?_; refine (laws_markPartS.exact _ _ _ rs 1 m2 w _ HB.out Rg.out AN.out).mono ?_; rintro e wn ⟨rfl, hbm, hkp, hex⟩; refine ⟨_, rfl, ?_⟩; have nw_ := Aside0.mk (Rw.out.kept hkp (fun k_ hk_ => by have := HN.out; omega)); have ng_ := Aside0.mk (show Row w wn _ _ (.slice Ag rs.length cg) (laws_markPartS.mk rs 1) from hex); have n0_ := Aside0.mk hbm; clear HB Rw Rg hkp hbm hex; have HB := n0_; have Rw := nw_; have Rg := ng_; clear n0_ nw_ ng_) | ((with_reducible refine gate_callee (f := 16) rfl ?_); refine goesL_ (some 71) rfl rfl Try.func16 (by kernel_rfl) rfl #[.slice Ag rs.length cg, .int .i64 1] rfl (by (try simp only [List.map_toArray, List.map_cons, List.map_nil]); first | done | rfl) ?_; refine (laws_heldPartS.callsM k _ _ rs m2 _ (Kd.S_reads' Rg.out).2.2 (Kd.S_reads' Rg.out).2.1 AH.out).mono ?_; rintro e wn ⟨rfl, hdr⟩; refine ⟨_, rfl, ?_⟩; have hb := hdr.below; clear hdr; have n0_ := Aside0.mk (below_step HB.out hb); have nRw_ := Aside0.mk (Rw.out.below hb); have nRg_ := Aside0.mk (Rg.out.below hb); clear HB Rw Rg hb; have HB := n0_; have Rw := nRw_; have Rg := nRg_; clear n0_ nRw_ nRg_) | ((with_reducible refine gate_callee (f := 9) rfl ?_); refine goesL_ (some 79) rfl rfl Try.func9 (by kernel_rfl) rfl #[.slice A0 l0.length c0] rfl (by (try simp only [List.map_toArray, List.map_cons, List.map_nil]); first | done | rfl) ?_; refine (laws_toPartS.calls k _ _ l0 xs _ (Kd.C_below HR0.out HB.out) HC0.out AT.out).mono ?_; rintro e wn ⟨v_, rfl, ho0, hb⟩; refine ⟨_, rfl, ?_⟩; have nn_ := Aside0.mk (Row.new HB.out ho0); clear ho0; have n0_ := Aside0.mk (below_step HB.out hb); have nRw_ := Aside0.mk (Rw.out.below hb); have nRg_ := Aside0.mk (Rg.out.below hb); clear HB Rw Rg hb; have HB := n0_; have Rw := nRw_; have Rg := nRg_; clear n0_ nRw_ nRg_; have Rb := nn_; clear nn_; obtain ⟨Ab, cb, e_⟩ := Kd.S_slice Rb.out; subst e_) | ((with_reducible refine gate_callee (f := 27) rfl ?_); refine goesL_ (some 81) rfl rfl Try.func27 (by kernel_rfl) rfl #[.slice Ab xs.length cb, .int .i64 a1] rfl (by (try simp only [List.map_toArray, List.map_cons, List.map_nil]); first | done | rfl) ?_; refine (impl_TakePart.calls k _ _ xs a1 rs rb _ Rb.out.C Rb.out.le AI.out).mono ?_; rintro e wn ⟨v_, rfl, ho0, hb⟩; refine ⟨_, rfl, ?_⟩; have nn_ := Aside0.mk (Row.new HB.out ho0); clear ho0; have n0_ := Aside0.mk (below_step HB.out hb); have nRw_ := Aside0.mk (Rw.out.below hb); have nRg_ := Aside0.mk (Rg.out.below hb); have nRb_ := Aside0.mk (Rb.out.below hb); clear HB Rw Rg Rb hb; have HB := n0_; have Rw := nRw_; have Rg := nRg_; have Rb := nRb_; clear n0_ nRw_ nRg_ nRb_; have Rh := nn_; clear nn_; obtain ⟨Ah, ch, e_⟩ := Kd.S_slice Rh.out; subst e_) | ((with_reducible refine gate_callee (f := 12) rfl ?_); refine goesL_ (some 86) rfl rfl Try.func12 (by kernel_rfl) rfl #[.slice Ah rs.length ch, .slice Aw rs.length cw] rfl (by (try simp only [List.map_toArray, List.map_cons, List.map_nil]); first | done | rfl) ?_; refine (laws_eqPartS.calls k _ _ rs _ _ rs true _ Rh.out.C Rh.out.le Rw.out.C Rw.out.le AE.out).mono ?_; rintro e wn ⟨rfl, hb⟩; refine ⟨_, rfl, ?_⟩; have n0_ := Aside0.mk (below_step HB.out hb); have nRw_ := Aside0.mk (Rw.out.below hb); have nRg_ := Aside0.mk (Rg.out.below hb); have nRb_ := Aside0.mk (Rb.out.below hb); have nRh_ := Aside0.mk (Rh.out.below hb); clear HB Rw Rg Rb Rh hb; have HB := n0_; have Rw := nRw_; have Rg := nRg_; have Rb := nRb_; have Rh := nRh_; clear n0_ nRw_ nRg_ nRb_ nRh_) | ((with_reducible refine gate_callee (f := 16) rfl ?_); refine goesL_ (some 95) rfl rfl Try.func16 (by kernel_rfl) rfl #[.slice Ag rs.length cg, .int .i64 1] rfl (by (try simp only [List.map_toArray, List.map_cons, List.map_nil]); first | done | rfl) ?_; refine (laws_heldPartS.callsM k _ _ rs m2 _ (Kd.S_reads' Rg.out).2.2 (Kd.S_reads' Rg.out).2.1 AH.out).mono ?_; rintro e wn ⟨rfl, hdr⟩; refine ⟨_, rfl, ?_⟩; have hb := hdr.below; clear hdr; have n0_ := Aside0.mk (below_step HB.out hb); have nRw_ := Aside0.mk (Rw.out.below hb); have nRg_ := Aside0.mk (Rg.out.below hb); clear HB Rw Rg hb; have HB := n0_; have Rw := nRw_; have Rg := nRg_; clear n0_ nRw_ nRg_))
      go_ret
      exact ⟨(by first | rfl | (simp [errW_none, errW_some] <;> rfl) | (simp [*, errW_none, errW_some] <;> rfl)), (by repeat (first | (with_reducible first | exact HB.out | apply below_alloc | apply pw_below_drewN | apply below_drew1) | exact HB.out))⟩

end Go.Proofs.Ytlpfobakbgipbaa.QFnExactTakePart
