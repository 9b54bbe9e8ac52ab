/- The Go functions that the law FnExactTakePart comes to, each as a Lean function, with a proof that the call does what it says; written by a program of this session over the print of the kit. No conditions. -/
import Derived.Test.YtlpfobakbgipbaaQFnExactTakePartx0
import Derived.Test.YtlpfobakbgipbaaQFnExactTakePartx6
namespace Go.Proofs.Ytlpfobakbgipbaa.QFnExactTakePart
open Go.RowKit Go.Proofs.YtlpfobakbgipbaaW.PrintWords Go.Proofs.YtlpfobakbgipbaaW.PrintLast Go.Proofs.YtlpfobakbgipbaaW.PrintMore
attribute [local go_sem] max2_int min2_int max_two min_two max_three min_three max_four min_four   -- for this text's walks alone
set_option linter.unusedVariables false
set_option linter.unusedSimpArgs false

/-! ### impl_copyParts: function 41 -/
def impl_copyParts.l0 : Nat → List (S63) → List (S63) → Int → Int → Option ((List (S63)))
  | 0, _, _, _, _ => none
  | k + 1, x3, x6, x7, x8 => if x8 < x7 then (if 0 ≤ x8 then (if x8 < (x6.length : Int) then ((impl_copyResource.f ((rd_T63 x6 x8).f1.f0) ((rd_T63 x6 x8).f1.f1) ((rd_T63 x6 x8).f1.f2.f0) ((rd_T63 x6 x8).f1.f2.f1) ((rd_T63 x6 x8).f1.f2.f2)).bind fun bt218 => (if x3.length < 1954687338268 then (impl_copyParts.l0 k (x3 ++ [(⟨(rd_T63 x6 x8).f0, (⟨bt218.1, bt218.2.1, (⟨bt218.2.2.1, bt218.2.2.2.1, bt218.2.2.2.2⟩ : S34)⟩ : S36), (rd_T63 x6 x8).f2⟩ : S63)]) x6 x7 (wrap64 (x8 + 1))) else (none))) else (none)) else (none)) else (some x3)
def impl_copyParts.f (k : Nat) (l0 : List (S63)) : Option ((List (S63))) := impl_copyParts.l0 k ([] : List (S63)) l0 (l0.length : Int) 0
theorem impl_copyParts.mono_l : ∀ k, (∀ y0 y1 y2 y3, LeO (impl_copyParts.l0 k y0 y1 y2 y3) (impl_copyParts.l0 (k + 1) y0 y1 y2 y3))
  | 0 => fun _ _ _ _ r h => by simp [impl_copyParts.l0] at h
  | k + 1 => by
    have ih0 := impl_copyParts.mono_l k
    · intro y0 y1 y2 y3
      unfold impl_copyParts.l0
      repeat' first
      | (with_reducible exact ih0 _ _ _ _)
      | (with_reducible exact LeO.refl _)
      | (with_reducible exact LeO.none _)
      | (with_reducible refine LeO.ite ?_ ?_)
      | (with_reducible refine LeO.bind ?_ (fun _ => ?_))
      | exact ih0 _ _ _ _
      | exact LeO.none _
      | refine LeO.ite ?_ ?_
      | refine LeO.bind ?_ (fun _ => ?_)
theorem impl_copyParts.mono : ∀ a0 k, LeO (impl_copyParts.f k a0) (impl_copyParts.f (k + 1) a0) := by
  intro a0 k
  have ih0 := impl_copyParts.mono_l k
  unfold impl_copyParts.f
  repeat' first
      | (with_reducible exact ih0 _ _ _ _)
      | (with_reducible exact LeO.refl _)
      | (with_reducible exact LeO.none _)
      | (with_reducible refine LeO.ite ?_ ?_)
      | (with_reducible refine LeO.bind ?_ (fun _ => ?_))
      | exact ih0 _ _ _ _
      | exact LeO.none _
      | refine LeO.ite ?_ ?_
      | refine LeO.bind ?_ (fun _ => ?_)
def impl_copyParts.T5 : Bool × List (List Nat × List Nat) := (true, [([], []), ([], []), ([1], [1]), ([], []), ([3], [3]), ([4], [4]), ([], []), ([6], [6]), ([2, 5, 7], [2, 5, 7]), ([8], [8]), ([0, 9, 5], [0, 9]), ([10, 10, 0, 1, 2, 3, 4, 5, 6, 7, 8, 9, 10], [0, 10])])
def impl_copyParts.B5 : List Nat := [0, 0, 2, 0, 8, 24, 0, 64, 254, 510, 1023, 2047]
theorem impl_copyParts.tab5 : rtab .any (opsOf Try.f41 5) = impl_copyParts.T5 := by kernel_rfl
theorem impl_copyParts.bits5 : waitsOk impl_copyParts.T5.2 impl_copyParts.B5 = true := by kernel_rfl
set_option maxHeartbeats 8000000 in
set_option maxRecDepth 100000 in
theorem impl_copyParts.calls (k : Nat) (A0 : Option Addr) (c0 : Nat) (l0 : List (S63)) (r : List (S63)) (w : World) (hr0 : Kd.C k63 w A0 l0.length l0) (hc0 : l0.length ≤ c0) (h : impl_copyParts.f k l0 = some r) :
    Calls Try.prog 41 #[.slice A0 l0.length c0] w fun e w' => ∃ v0_ : Value, e = .returned (v0_) ∧ Kd.S k63 63 w' w.heap.size (fun _ => True) v0_ r ∧ Below w.heap.size w w' := by
  have hu63 := Try.underlying63
  have hu36 := Try.underlying36
  have HR0 := Aside0.mk hr0
  have HC0 := Aside0.mk hc0
  clear hr0 hc0
  have HB := Aside0.mk (Below.refl w.heap.size w)
  have H : (impl_copyParts.l0 k ([] : List (S63)) l0 (l0.length : Int) 0) = some r := h
  clear h
  have H' := Aside0.mk H
  clear H
  go_enter Try.func41, Try.ntmps41
  go_wp2
  go_loopg [3, 8] k (fun kq v3 v8 w' => ∃ (x3_1 : List (S63)) (x8_1 : Int), v8 = .int .i64 x8_1 ∧ Aside0 (impl_copyParts.l0 kq x3_1 l0 (l0.length : Int) x8_1 = some r) ∧ Aside0 (kq ≤ k) ∧ Aside0 (Kd.S k63 63 w' w.heap.size (fun _ => True) v3 x3_1) ∧ Aside0 (Below w.heap.size w w'))
  case atStart => exact ⟨(([] : List (S63))), (0), (by first | rfl | (simp; done) | (simp [*]; done)), H', ⟨Nat.le_refl _⟩, ⟨by first | exact Kd.S_nil _ _ _ _ _ | exact Kd.N_nil _ _ _ _ _ | exact Kd.V_nil _ _ _ _ _ | exact Kd.Q_nil _ _ _ _ _ | exact Kd.R_nil _ _ _ _ _⟩, ⟨by repeat (first | (with_reducible first | exact HB.out | apply below_alloc | apply pw_below_drewN | apply below_drew1) | exact HB.out)⟩⟩
  case round =>
    clear H'
    obtain ⟨x3_1, x8_1, rfl, HA, HK1, HO_3, HB⟩ := hrel
    cases gk with
    | zero => exact absurd HA.out (by simp [impl_copyParts.l0])
    | succ k1 =>
      have H := HA.out
      clear HA
      simp only [impl_copyParts.l0] at H
      by_cases c2 : x8_1 < (l0.length : Int)
      · rw [if_pos c2] at H
        have c2b0 : decide (x8_1 < (l0.length : Int)) = true := decide_eq_true c2
        clear c2
        by_cases c3 : 0 ≤ x8_1
        · rw [if_pos c3] at H
          have c3b0 : decide (0 ≤ x8_1) = true := decide_eq_true c3
          clear c3
          by_cases c4 : x8_1 < (l0.length : Int)
          · rw [if_pos c4] at H
            have c4b0 : decide (x8_1 < (l0.length : Int)) = true := decide_eq_true c4
            clear c4
            replace H := Option.bind_eq_some_iff.mp H
            obtain ⟨⟨t218, t219, t222, t223, t224⟩, A50, H⟩ := H
            replace H : (if x3_1.length < 1954687338268 then (impl_copyParts.l0 k1 (x3_1 ++ [(⟨(rd_T63 l0 x8_1).f0, (⟨t218, t219, (⟨t222, t223, t224⟩ : S34)⟩ : S36), (rd_T63 l0 x8_1).f2⟩ : S63)]) l0 (l0.length : Int) (wrap64 (x8_1 + 1))) else (none)) = some r := H
            have A5 := Aside0.mk A50
            clear A50
            by_cases c6 : x3_1.length < 1954687338268
            · rw [if_pos c6] at H
              have LMc6 := Aside0.mk c6
              clear c6
              obtain ⟨y225, hy225⟩ : ∃ y_ : List (S63), y_ = (x3_1 ++ [(⟨(rd_T63 l0 x8_1).f0, (⟨t218, t219, (⟨t222, t223, t224⟩ : S34)⟩ : S36), (rd_T63 l0 x8_1).f2⟩ : S63)]) := ⟨_, rfl⟩
              replace H : (impl_copyParts.l0 k1 y225 l0 (l0.length : Int) (wrap64 (x8_1 + 1))) = some r := by first | (rw [hy225]; with_reducible exact H) | (have H2_ := (Option.bind_some _ _).symm.trans H; rw [hy225]; with_reducible exact H2_) | (have H2_ := (Option.bind_some _ _).symm.trans H; with_reducible exact H2_) | with_reducible exact H | (rw [hy225]; exact H) | exact H
              have Ny225 := Aside0.mk hy225
              clear hy225
              have H' := Aside0.mk H
              clear H
              have p216 : 0 ≤ (x8_1 : Int) := of_decide_eq_true (by first | (with_reducible assumption) | assumption)
              have q216 : x8_1 < (l0.length : Int) := of_decide_eq_true (by first | (with_reducible assumption) | assumption)
              obtain ⟨ad216, A216_2, c216_2, e216, hx216_0, hx216_1, hx216_2, hx216_3, hx216_4, hx216_5, hx216_6, hl216_2, hi216_2⟩ := at_T63 HR0.out x8_1 p216 q216
              cases e216
              replace hx216_0 := (HB.out.cell (World.block_lt_of_cell? w _ hx216_0)).trans hx216_0
              replace hx216_1 := (HB.out.cell (World.block_lt_of_cell? w _ hx216_1)).trans hx216_1
              replace hx216_2 := (HB.out.cell (World.block_lt_of_cell? w _ hx216_2)).trans hx216_2
              replace hx216_3 := (HB.out.cell (World.block_lt_of_cell? w _ hx216_3)).trans hx216_3
              replace hx216_4 := (HB.out.cell (World.block_lt_of_cell? w _ hx216_4)).trans hx216_4
              replace hx216_5 := (HB.out.cell (World.block_lt_of_cell? w _ hx216_5)).trans hx216_5
              replace hx216_6 := (HB.out.cell (World.block_lt_of_cell? w _ hx216_6)).trans hx216_6
              have HR216_2 := Aside0.mk hi216_2
              have HC216_2 := Aside0.mk hl216_2
              clear hi216_2 hl216_2
              replace p216 := eq_true p216
              replace q216 := eq_true q216
              try go_wp2_with (first | ((with_reducible refine gate_dst (N := 5) rfl ?_); refine box_event ?hg (N := 5) ?hd (cs := #[.int .i64 0, .int .i64 0, .slice none 0 0, .int .i64 0, .int .i64 0, .int .i64 0, .int .i64 0]) (t := 63) ?hr ?_; (case hd => rfl); (case hg => rfl); (case hr => first | (go_simp; done) | (go_simp; rfl)); intro gb217 hg w7 hbox hb; have n0_ := Aside0.mk (Kd.S_below (Kd.S_elderB (by (with_reducible repeat (first | apply Kd.S_alloc | apply Kd.S_drewN | apply Kd.S_drew)); exact HO_3.out) gb217 (Nat.le_of_eq hg.symm)) hb); have n1_ := Aside0.mk (below_step (by repeat (first | (with_reducible first | exact HB.out | apply below_alloc | apply pw_below_drewN | apply below_drew1) | exact HB.out)) hb); have n2_ := Aside0.mk (hbox); have n3_ := Aside0.mk ((by rw [hg]; exact (below_size (by repeat (first | (with_reducible first | exact HB.out | apply below_alloc | apply pw_below_drewN | apply below_drew1) | exact HB.out))) : w.heap.size ≤ gb217)); have n4_ := Aside0.mk ((by rw [hg]; exact (below_size (by repeat (first | (with_reducible first | exact HB.out | apply below_alloc | apply pw_below_drewN | apply below_drew1) | exact HB.out))) : w.heap.size ≤ gb217)); clear HO_3; clear HB; have HO_3 := n0_; have HB := n1_; have BK217 := n2_; have GW217 := n3_; have GE217 := n4_; clear n0_ n1_ n2_ n3_ n4_; clear hb hbox hg; have hcz8_0 : w7.cell? ⟨gb217, 0, none⟩ = some (.int .i64 0) := (blk_cell BK217.out 0).trans rfl; have hcz8_1 : w7.cell? ⟨gb217, 1, none⟩ = some (.int .i64 0) := (blk_cell BK217.out 1).trans rfl; have hcz8_2 : w7.cell? ⟨gb217, 2, none⟩ = some (.slice none 0 0) := (blk_cell BK217.out 2).trans rfl; have hcz8_3 : w7.cell? ⟨gb217, 3, none⟩ = some (.int .i64 0) := (blk_cell BK217.out 3).trans rfl; have hcz8_4 : w7.cell? ⟨gb217, 4, none⟩ = some (.int .i64 0) := (blk_cell BK217.out 4).trans rfl; have hcz8_5 : w7.cell? ⟨gb217, 5, none⟩ = some (.int .i64 0) := (blk_cell BK217.out 5).trans rfl; have hcz8_6 : w7.cell? ⟨gb217, 6, none⟩ = some (.int .i64 0) := (blk_cell BK217.out 6).trans rfl; have hfz8_0 := blk_frozen BK217.out 0; have hfz8_1 := blk_frozen BK217.out 1; have hfz8_2 := blk_frozen BK217.out 2; have hfz8_3 := blk_frozen BK217.out 3; have hfz8_4 := blk_frozen BK217.out 4; have hfz8_5 := blk_frozen BK217.out 5; have hfz8_6 := blk_frozen BK217.out 6))
              have n0_ : Aside0 (Kd.S k63 63 (((((((w7.setCell ⟨gb217, 0, none⟩ (.int .i64 ((rd_T63 l0 x8_1).f0))).setCell ⟨gb217, 1, none⟩ (.int .i64 ((rd_T63 l0 x8_1).f1.f0))).setCell ⟨gb217, 2, none⟩ (.slice A216_2 ((rd_T63 l0 x8_1).f1.f1).length c216_2)).setCell ⟨gb217, 3, none⟩ (.int .i64 ((rd_T63 l0 x8_1).f1.f2.f0))).setCell ⟨gb217, 4, none⟩ (.int .i64 ((rd_T63 l0 x8_1).f1.f2.f1))).setCell ⟨gb217, 5, none⟩ (.int .i64 ((rd_T63 l0 x8_1).f1.f2.f2))).setCell ⟨gb217, 6, none⟩ (.int .i64 ((rd_T63 l0 x8_1).f2))) w.heap.size (fun k_ => k_ ≠ gb217) u3 x3_1) := ⟨by (with_reducible repeat (first | apply Kd.S_alloc | apply Kd.S_drewN | apply Kd.S_drew)); exact Kd.S_mono (Kd.S_far (p := ⟨gb217, 6, none⟩) (Kd.S_far (p := ⟨gb217, 5, none⟩) (Kd.S_far (p := ⟨gb217, 4, none⟩) (Kd.S_far (p := ⟨gb217, 3, none⟩) (Kd.S_far (p := ⟨gb217, 2, none⟩) (Kd.S_far (p := ⟨gb217, 1, none⟩) (Kd.S_far (p := ⟨gb217, 0, none⟩) (Kd.S_mono HO_3.out (fun k_ hk => (⟨hk, hk.2⟩ : _ ∧ k_ ≠ gb217))) (fun _ hk => hk.2) (.int .i64 ((rd_T63 l0 x8_1).f0))) (fun _ hk => hk.2) (.int .i64 ((rd_T63 l0 x8_1).f1.f0))) (fun _ hk => hk.2) (.slice A216_2 ((rd_T63 l0 x8_1).f1.f1).length c216_2)) (fun _ hk => hk.2) (.int .i64 ((rd_T63 l0 x8_1).f1.f2.f0))) (fun _ hk => hk.2) (.int .i64 ((rd_T63 l0 x8_1).f1.f2.f1))) (fun _ hk => hk.2) (.int .i64 ((rd_T63 l0 x8_1).f1.f2.f2))) (fun _ hk => hk.2) (.int .i64 ((rd_T63 l0 x8_1).f2))) (fun _ hk => hk.1.2)⟩
              have n1_ : Aside0 ((((((((w7.setCell ⟨gb217, 0, none⟩ (.int .i64 ((rd_T63 l0 x8_1).f0))).setCell ⟨gb217, 1, none⟩ (.int .i64 ((rd_T63 l0 x8_1).f1.f0))).setCell ⟨gb217, 2, none⟩ (.slice A216_2 ((rd_T63 l0 x8_1).f1.f1).length c216_2)).setCell ⟨gb217, 3, none⟩ (.int .i64 ((rd_T63 l0 x8_1).f1.f2.f0))).setCell ⟨gb217, 4, none⟩ (.int .i64 ((rd_T63 l0 x8_1).f1.f2.f1))).setCell ⟨gb217, 5, none⟩ (.int .i64 ((rd_T63 l0 x8_1).f1.f2.f2))).setCell ⟨gb217, 6, none⟩ (.int .i64 ((rd_T63 l0 x8_1).f2))).heap[gb217]? = some (.cells #[.int .i64 ((rd_T63 l0 x8_1).f0), .int .i64 ((rd_T63 l0 x8_1).f1.f0), .slice A216_2 ((rd_T63 l0 x8_1).f1.f1).length c216_2, .int .i64 ((rd_T63 l0 x8_1).f1.f2.f0), .int .i64 ((rd_T63 l0 x8_1).f1.f2.f1), .int .i64 ((rd_T63 l0 x8_1).f1.f2.f2), .int .i64 ((rd_T63 l0 x8_1).f2)] 63 (0, 0))) := ⟨by (with_reducible repeat (first | refine blk_drewN ?_ _ | refine blk_drew ?_ | refine blk_alloc ?_ _)); refine blk_put (cs := #[.int .i64 ((rd_T63 l0 x8_1).f0), .int .i64 ((rd_T63 l0 x8_1).f1.f0), .slice A216_2 ((rd_T63 l0 x8_1).f1.f1).length c216_2, .int .i64 ((rd_T63 l0 x8_1).f1.f2.f0), .int .i64 ((rd_T63 l0 x8_1).f1.f2.f1), .int .i64 ((rd_T63 l0 x8_1).f1.f2.f2), .int .i64 0]) ?_ 6 _ rfl; (with_reducible repeat (first | refine blk_drewN ?_ _ | refine blk_drew ?_ | refine blk_alloc ?_ _)); refine blk_put (cs := #[.int .i64 ((rd_T63 l0 x8_1).f0), .int .i64 ((rd_T63 l0 x8_1).f1.f0), .slice A216_2 ((rd_T63 l0 x8_1).f1.f1).length c216_2, .int .i64 ((rd_T63 l0 x8_1).f1.f2.f0), .int .i64 ((rd_T63 l0 x8_1).f1.f2.f1), .int .i64 0, .int .i64 0]) ?_ 5 _ rfl; (with_reducible repeat (first | refine blk_drewN ?_ _ | refine blk_drew ?_ | refine blk_alloc ?_ _)); refine blk_put (cs := #[.int .i64 ((rd_T63 l0 x8_1).f0), .int .i64 ((rd_T63 l0 x8_1).f1.f0), .slice A216_2 ((rd_T63 l0 x8_1).f1.f1).length c216_2, .int .i64 ((rd_T63 l0 x8_1).f1.f2.f0), .int .i64 0, .int .i64 0, .int .i64 0]) ?_ 4 _ rfl; (with_reducible repeat (first | refine blk_drewN ?_ _ | refine blk_drew ?_ | refine blk_alloc ?_ _)); refine blk_put (cs := #[.int .i64 ((rd_T63 l0 x8_1).f0), .int .i64 ((rd_T63 l0 x8_1).f1.f0), .slice A216_2 ((rd_T63 l0 x8_1).f1.f1).length c216_2, .int .i64 0, .int .i64 0, .int .i64 0, .int .i64 0]) ?_ 3 _ rfl; (with_reducible repeat (first | refine blk_drewN ?_ _ | refine blk_drew ?_ | refine blk_alloc ?_ _)); refine blk_put (cs := #[.int .i64 ((rd_T63 l0 x8_1).f0), .int .i64 ((rd_T63 l0 x8_1).f1.f0), .slice none 0 0, .int .i64 0, .int .i64 0, .int .i64 0, .int .i64 0]) ?_ 2 _ rfl; (with_reducible repeat (first | refine blk_drewN ?_ _ | refine blk_drew ?_ | refine blk_alloc ?_ _)); refine blk_put (cs := #[.int .i64 ((rd_T63 l0 x8_1).f0), .int .i64 0, .slice none 0 0, .int .i64 0, .int .i64 0, .int .i64 0, .int .i64 0]) ?_ 1 _ rfl; (with_reducible repeat (first | refine blk_drewN ?_ _ | refine blk_drew ?_ | refine blk_alloc ?_ _)); refine blk_put (cs := #[.int .i64 0, .int .i64 0, .slice none 0 0, .int .i64 0, .int .i64 0, .int .i64 0, .int .i64 0]) ?_ 0 _ rfl; (with_reducible repeat (first | refine blk_drewN ?_ _ | refine blk_drew ?_ | refine blk_alloc ?_ _)); exact BK217.out⟩
              have n2_ : Aside0 (Below w.heap.size w (((((((w7.setCell ⟨gb217, 0, none⟩ (.int .i64 ((rd_T63 l0 x8_1).f0))).setCell ⟨gb217, 1, none⟩ (.int .i64 ((rd_T63 l0 x8_1).f1.f0))).setCell ⟨gb217, 2, none⟩ (.slice A216_2 ((rd_T63 l0 x8_1).f1.f1).length c216_2)).setCell ⟨gb217, 3, none⟩ (.int .i64 ((rd_T63 l0 x8_1).f1.f2.f0))).setCell ⟨gb217, 4, none⟩ (.int .i64 ((rd_T63 l0 x8_1).f1.f2.f1))).setCell ⟨gb217, 5, none⟩ (.int .i64 ((rd_T63 l0 x8_1).f1.f2.f2))).setCell ⟨gb217, 6, none⟩ (.int .i64 ((rd_T63 l0 x8_1).f2)))) := ⟨by repeat (first | (with_reducible first | exact HB.out | apply below_alloc | apply pw_below_drewN | apply below_drew1 | refine below_set ?_ GE217.out) | exact HB.out)⟩
              (try clear HO_3)
              (try clear BK217)
              (try clear HB)
              generalize (((((((w7.setCell ⟨gb217, 0, none⟩ (.int .i64 ((rd_T63 l0 x8_1).f0))).setCell ⟨gb217, 1, none⟩ (.int .i64 ((rd_T63 l0 x8_1).f1.f0))).setCell ⟨gb217, 2, none⟩ (.slice A216_2 ((rd_T63 l0 x8_1).f1.f1).length c216_2)).setCell ⟨gb217, 3, none⟩ (.int .i64 ((rd_T63 l0 x8_1).f1.f2.f0))).setCell ⟨gb217, 4, none⟩ (.int .i64 ((rd_T63 l0 x8_1).f1.f2.f1))).setCell ⟨gb217, 5, none⟩ (.int .i64 ((rd_T63 l0 x8_1).f1.f2.f2))).setCell ⟨gb217, 6, none⟩ (.int .i64 ((rd_T63 l0 x8_1).f2))) = w9 at n0_ n1_ n2_ ⊢
              have HO_3 := n0_
              have BK217 := n1_
              have HB := n2_
              clear n0_ n1_ n2_
              have n0_ := Aside0.mk (Kd.S_drew HO_3.out)
              have n1_ := Aside0.mk (blk_drew BK217.out)
              have n2_ := Aside0.mk (below_drew1 HB.out)
              clear HO_3
              clear BK217
              clear HB
              have HO_3 := n0_
              have BK217 := n1_
              have HB := n2_
              clear n0_ n1_ n2_
              refine start_ (n := 12) (S := fun w' => w'.cell? ⟨gb217, 0, none⟩ = some (.int .i64 ((rd_T63 l0 x8_1).f0)) ∧ w'.cell? ⟨gb217, 1, none⟩ = some (.int .i64 ((rd_T63 l0 x8_1).f1.f0)) ∧ w'.cell? ⟨gb217, 2, none⟩ = some (.slice A216_2 ((rd_T63 l0 x8_1).f1.f1).length c216_2) ∧ w'.cell? ⟨gb217, 3, none⟩ = some (.int .i64 ((rd_T63 l0 x8_1).f1.f2.f0)) ∧ w'.cell? ⟨gb217, 4, none⟩ = some (.int .i64 ((rd_T63 l0 x8_1).f1.f2.f1)) ∧ w'.cell? ⟨gb217, 5, none⟩ = some (.int .i64 ((rd_T63 l0 x8_1).f1.f2.f2)) ∧ w'.cell? ⟨gb217, 6, none⟩ = some (.int .i64 ((rd_T63 l0 x8_1).f2))) (ds := []) #[false, false, false, false, false, false, false, false, false, false, false, false] (by kernel_rfl) rfl rfl ⟨(blk_cell BK217.out 0).trans rfl, (blk_cell BK217.out 1).trans rfl, (blk_cell BK217.out 2).trans rfl, (blk_cell BK217.out 3).trans rfl, (blk_cell BK217.out 4).trans rfl, (blk_cell BK217.out 5).trans rfl, (blk_cell BK217.out 6).trans rfl⟩ (fun hHeld => ?_); refine with_tabW impl_copyParts.tab5 impl_copyParts.bits5 (fun HT_ HW_ => ?_)
              generalize w9.drew = w10 at HO_3 BK217 HB hHeld ⊢
              refine pure_ (i := 0) (N := some 12) (v := ?_) (a' := ?_) #[true, false, false, false, false, false, false, false, false, false, false, false] rfl rfl (any_of HT_.out (by kernel_rfl)) (fun _ _ _ h => h) (Or.inl ⟨by rfl, ?_⟩) ?_ ?_
              rotate_left
              · intro w'
                go_simp
                with_reducible rfl
              rotate_left
              · simp only [Act.put, List.setIfInBounds_toArray, List.set_cons_zero, List.set_cons_succ, i64_w, i32_w]
                rfl
              refine pure_ (i := 1) (N := some 13) (v := ?_) (a' := ?_) #[true, true, false, false, false, false, false, false, false, false, false, false] rfl rfl (any_of HT_.out (by kernel_rfl)) (fun _ _ _ h => h) (Or.inl ⟨by rfl, ?_⟩) ?_ ?_
              rotate_left
              · intro w'
                go_simp
                with_reducible rfl
              rotate_left
              · simp only [Act.put, List.setIfInBounds_toArray, List.set_cons_zero, List.set_cons_succ, i64_w, i32_w]
                rfl
              refine pure_ (i := 3) (N := some 15) (v := ?_) (a' := ?_) #[true, true, false, true, false, false, false, false, false, false, false, false] rfl rfl (any_of HT_.out (by kernel_rfl)) (fun _ _ _ h => h) (Or.inl ⟨by rfl, ?_⟩) ?_ ?_
              rotate_left
              · intro w'
                go_simp
                with_reducible rfl
              rotate_left
              · simp only [Act.put, List.setIfInBounds_toArray, List.set_cons_zero, List.set_cons_succ, i64_w, i32_w]
                rfl
              refine pure_ (i := 6) (N := some 18) (v := ?_) (a' := ?_) #[true, true, false, true, false, false, true, false, false, false, false, false] rfl rfl (any_of HT_.out (by kernel_rfl)) (fun _ _ _ h => h) (Or.inl ⟨by rfl, ?_⟩) ?_ ?_
              rotate_left
              · intro w'
                go_simp
                with_reducible rfl
              rotate_left
              · simp only [Act.put, List.setIfInBounds_toArray, List.set_cons_zero, List.set_cons_succ, i64_w, i32_w]
                rfl
              refine take_ (i := 2) (N := some 14) (v := ?_) (a' := ?_) #[true, true, true, true, false, false, true, false, false, false, false, false] rfl rfl (take_ofW HT_.out HW_.out (by kernel_rfl)) (fun _ _ _ h => h) (Or.inl ⟨by rfl, ?_⟩) hHeld ?_ ?_
              rotate_left
              · rintro w' ⟨s0, s1, s2, s3, s4, s5, s6⟩
                go_simp
                with_reducible rfl
              rotate_left
              · simp only [Act.put, List.setIfInBounds_toArray, List.set_cons_zero, List.set_cons_succ, i64_w, i32_w]
                rfl
              refine take_ (i := 4) (N := some 16) (v := ?_) (a' := ?_) #[true, true, true, true, true, false, true, false, false, false, false, false] rfl rfl (take_ofW HT_.out HW_.out (by kernel_rfl)) (fun _ _ _ h => h) (Or.inl ⟨by rfl, ?_⟩) hHeld ?_ ?_
              rotate_left
              · rintro w' ⟨s0, s1, s2, s3, s4, s5, s6⟩
                go_simp
                with_reducible rfl
              rotate_left
              · simp only [Act.put, List.setIfInBounds_toArray, List.set_cons_zero, List.set_cons_succ, i64_w, i32_w]
                rfl
              refine take_ (i := 7) (N := some 19) (v := ?_) (a' := ?_) #[true, true, true, true, true, false, true, true, false, false, false, false] rfl rfl (take_ofW HT_.out HW_.out (by kernel_rfl)) (fun _ _ _ h => h) (Or.inl ⟨by rfl, ?_⟩) hHeld ?_ ?_
              rotate_left
              · rintro w' ⟨s0, s1, s2, s3, s4, s5, s6⟩
                go_simp
                with_reducible rfl
              rotate_left
              · simp only [Act.put, List.setIfInBounds_toArray, List.set_cons_zero, List.set_cons_succ, i64_w, i32_w]
                rfl
              refine one_ (i := 5) (N := some 17) #[true, true, true, true, true, true, true, true, false, false, false, false] rfl rfl (one_of HT_.out (by kernel_rfl)) (by decide) (fun K hK => ?_)
              refine goes_ Try.func44 (by kernel_rfl) rfl #[.agg #[.int .i64 ((rd_T63 l0 x8_1).f1.f0), .slice A216_2 ((rd_T63 l0 x8_1).f1.f1).length c216_2, .int .i64 ((rd_T63 l0 x8_1).f1.f2.f0), .int .i64 ((rd_T63 l0 x8_1).f1.f2.f1), .int .i64 ((rd_T63 l0 x8_1).f1.f2.f2)]] (by rfl) rfl rfl (by (try simp only [List.map_toArray, List.map_cons, List.map_nil]); first | done | rfl | (simp only [List.length_drop, List.length_take]; rfl)) ?_
              with_reducible refine (impl_copyResource.calls ((rd_T63 l0 x8_1).f1.f0) _ _ ((rd_T63 l0 x8_1).f1.f1) ((rd_T63 l0 x8_1).f1.f2.f0) ((rd_T63 l0 x8_1).f1.f2.f1) ((rd_T63 l0 x8_1).f1.f2.f2) t218 t219 t222 t223 t224 _ ?side1 ?side2 A5.out).mono ?_
              (case side1 => repeat (first | exact (Kd.C_below HR216_2.out HB.out) | (with_reducible refine Kd.C_alloc ?_ _) | (with_reducible refine Kd.C_drewN ?_ _) | (with_reducible refine Kd.C_drew ?_)))
              (case side2 => exact HC216_2.out)
              rintro e w11 ⟨v220, rfl, ho0, hb⟩
              refine ⟨_, rfl, ?_⟩
              have n0_ := Aside0.mk (Kd.S_elder' (by (with_reducible repeat (first | apply Kd.S_alloc | apply Kd.S_drewN | apply Kd.S_drew)); exact HO_3.out) (Kd.R_base ho0) hb)
              have n1_ := Aside0.mk (Kd.R_lower ho0 (below_size (by repeat (first | (with_reducible first | exact HB.out | apply below_alloc | apply pw_below_drewN | apply below_drew1 | refine below_set ?_ GE217.out) | exact HB.out))))
              have n2_ := Aside0.mk (blk_below (g := gb217) (o := .cells #[.int .i64 ((rd_T63 l0 x8_1).f0), .int .i64 ((rd_T63 l0 x8_1).f1.f0), .slice A216_2 ((rd_T63 l0 x8_1).f1.f1).length c216_2, .int .i64 ((rd_T63 l0 x8_1).f1.f2.f0), .int .i64 ((rd_T63 l0 x8_1).f1.f2.f1), .int .i64 ((rd_T63 l0 x8_1).f1.f2.f2), .int .i64 ((rd_T63 l0 x8_1).f2)] 63 (0, 0)) (by (with_reducible repeat (first | refine blk_drewN ?_ _ | refine blk_drew ?_ | refine blk_alloc ?_ _)); exact BK217.out) hb)
              have n3_ := Aside0.mk (below_step (by repeat (first | (with_reducible first | exact HB.out | apply below_alloc | apply pw_below_drewN | apply below_drew1 | refine below_set ?_ GE217.out) | exact HB.out)) hb)
              clear HO_3
              clear BK217
              clear HB
              have HO_3 := n0_
              have HO221 := n1_
              have BK217 := n2_
              have HB := n3_
              clear n0_ n1_ n2_ n3_
              (try clear hb)
              (try clear hb2)
              (try clear hk)
              (try clear hi)
              (try clear ho0)
              obtain ⟨Ao12, co12, eo12⟩ := Kd.R_slice HO221.out
              (first | subst eo12 | (injection eo12 with f1_ f2_ f3_; have f4_ := f1_.symm; have f5_ := f3_.symm; clear f1_ f2_ f3_; subst f4_; subst f5_))
              refine hK.out _ _ ⟨(blk_cell BK217.out 0).trans rfl, (blk_cell BK217.out 1).trans rfl, (blk_cell BK217.out 2).trans rfl, (blk_cell BK217.out 3).trans rfl, (blk_cell BK217.out 4).trans rfl, (blk_cell BK217.out 5).trans rfl, (blk_cell BK217.out 6).trans rfl⟩ (fun hHeld => ?_)
              clear hK K
              refine norm_ (a' := ?_) ?_ ?_
              rotate_left
              · show Act.put _ (some 17) _ = _
                simp only [Act.put, List.setIfInBounds_toArray, List.set_cons_zero, List.set_cons_succ, i64_w, i32_w]
                rfl
              refine pure_ (i := 8) (N := some 20) (v := ?_) (a' := ?_) #[true, true, true, true, true, true, true, true, true, false, false, false] rfl rfl (any_of HT_.out (by kernel_rfl)) (fun _ _ _ h => h) (Or.inl ⟨by rfl, ?_⟩) ?_ ?_
              rotate_left
              · intro w'
                go_simp
                with_reducible rfl
              rotate_left
              · simp only [Act.put, List.setIfInBounds_toArray, List.set_cons_zero, List.set_cons_succ, i64_w, i32_w]
                rfl
              refine one_ (i := 9) (N := some 21) #[true, true, true, true, true, true, true, true, true, true, false, false] rfl rfl (one_of HT_.out (by kernel_rfl)) (by decide) (fun K hK => ?_)
              refine value_ (w1 := ?_) (v := ?_) (by rfl) rfl ?_ ?_
              rotate_left 2
              · go_simp
                constructor
                · rfl
                · rfl
              refine hK.out _ _ ⟨(blk_cell (blk_alloc BK217.out _) 0).trans rfl, (blk_cell (blk_alloc BK217.out _) 1).trans rfl, (blk_cell (blk_alloc BK217.out _) 2).trans rfl, (blk_cell (blk_alloc BK217.out _) 3).trans rfl, (blk_cell (blk_alloc BK217.out _) 4).trans rfl, (blk_cell (blk_alloc BK217.out _) 5).trans rfl, (blk_cell (blk_alloc BK217.out _) 6).trans rfl⟩ (fun hHeld => ?_)
              clear hK K
              refine norm_ (a' := ?_) ?_ ?_
              rotate_left
              · show Act.put _ (some 21) _ = _
                simp only [Act.put, List.setIfInBounds_toArray, List.set_cons_zero, List.set_cons_succ, i64_w, i32_w]
                rfl
              refine one_ (i := 10) (N := some 22) #[true, true, true, true, true, true, true, true, true, true, true, false] rfl rfl (one_of HT_.out (by kernel_rfl)) (by decide) (fun K hK => ?_)
              refine Kd.S_append_step k63 (w0 := w) w.heap.size (by rfl) (.tmp 12) (.tmp 21) 30 63 (.agg #[(.int .i64 0), (.int .i64 0), (.slice none 0 0), (.int .i64 0), (.int .i64 0), (.int .i64 0), (.int .i64 0)]) 72 rfl Try.underlying30 info63 rfl (by decide) (by omega) u3 x3_1 (⟨(rd_T63 l0 x8_1).f0, (⟨t218, t219, (⟨t222, t223, t224⟩ : S34)⟩ : S36), (rd_T63 l0 x8_1).f2⟩ : S63) [.int .i64 ((rd_T63 l0 x8_1).f0), .int .i64 t218, .slice Ao12 t219.length co12, .int .i64 t222, .int .i64 t223, .int .i64 t224, .int .i64 ((rd_T63 l0 x8_1).f2)] (fun k_ => k_ ≠ gb217) (fun k_ => some k_ = (.slice Ao12 t219.length co12 : Value).ownBlock) rfl rfl ?aP (fun k_ hk_ => ((Kd.R_mono (ok' := fun k_ => ((fun k_ => k_ ≠ gb217)) k_ ∧ some k_ ≠ (u3 : Value).ownBlock) (Kd.R_types (Kd.R_apart' (HO221.out) (Kd.S_typed HO_3.out) (by decide)) BK217.out (by decide)) (fun k_ hk => ⟨hk.2, hk.1.2⟩))).1 k_ hk_.symm) ?aF ?aO ?aB ?aS ?aL ?_
              (case aP => exact k63_mkM _ _ _ (⟨(rd_T63 l0 x8_1).f0, (⟨t218, t219, (⟨t222, t223, t224⟩ : S34)⟩ : S36), (rd_T63 l0 x8_1).f2⟩ : S63) (Kd.R_mono (Kd.R_tight rfl (Kd.R_mono (ok' := fun k_ => ((fun k_ => k_ ≠ gb217)) k_ ∧ some k_ ≠ (u3 : Value).ownBlock) (Kd.R_types (Kd.R_apart' (HO221.out) (Kd.S_typed HO_3.out) (by decide)) BK217.out (by decide)) (fun k_ hk => ⟨hk.2, hk.1.2⟩))) (fun _ h_ => h_)))
              (case aB => exact (by repeat (first | (with_reducible first | exact HB.out | apply below_alloc | apply pw_below_drewN | apply below_drew1 | refine below_set ?_ GE217.out) | exact HB.out)))
              (case aF => exact (fun k_ hk => Kd.freshB (g := gb217) (o := .cells #[.int .i64 ((rd_T63 l0 x8_1).f0), .int .i64 ((rd_T63 l0 x8_1).f1.f0), .slice A216_2 ((rd_T63 l0 x8_1).f1.f1).length c216_2, .int .i64 ((rd_T63 l0 x8_1).f1.f2.f0), .int .i64 ((rd_T63 l0 x8_1).f1.f2.f1), .int .i64 ((rd_T63 l0 x8_1).f1.f2.f2), .int .i64 ((rd_T63 l0 x8_1).f2)] 63 (0, 0)) (by (with_reducible repeat (first | refine blk_drewN ?_ _ | refine blk_drew ?_ | refine blk_alloc ?_ _)); exact BK217.out) k_ hk))
              (case aO => exact (by (with_reducible repeat (first | apply Kd.S_alloc | apply Kd.S_drewN | apply Kd.S_drew)); exact Kd.S_mono HO_3.out (fun k_ hk => ⟨hk.1, fun e_ => hk.2 e_⟩)))
              (case aS => exact (below_size (by repeat (first | (with_reducible first | exact HB.out | apply below_alloc | apply pw_below_drewN | apply below_drew1 | refine below_set ?_ GE217.out) | exact HB.out))))
              (case aL => have := LMc6.out; omega)
              intro v226 w13 ho hb hg hat
              rw [← Ny225.out] at ho
              have n0_ := Aside0.mk (blk_grown (g := gb217) (o := .cells #[.int .i64 ((rd_T63 l0 x8_1).f0), .int .i64 ((rd_T63 l0 x8_1).f1.f0), .slice A216_2 ((rd_T63 l0 x8_1).f1.f1).length c216_2, .int .i64 ((rd_T63 l0 x8_1).f1.f2.f0), .int .i64 ((rd_T63 l0 x8_1).f1.f2.f1), .int .i64 ((rd_T63 l0 x8_1).f1.f2.f2), .int .i64 ((rd_T63 l0 x8_1).f2)] 63 (0, 0)) (by (with_reducible repeat (first | refine blk_drewN ?_ _ | refine blk_drew ?_ | refine blk_alloc ?_ _)); exact BK217.out) hg (Kd.S_away HO_3.out (fun _ hk => hk.1)))
              have n1_ := Aside0.mk (hb)
              have n2_ := Aside0.mk (ho)
              clear BK217
              clear HB
              clear HO_3
              clear HO221
              have BK217 := n0_
              have HB := n1_
              have HO227 := n2_
              clear n0_ n1_ n2_
              clear ho hb hg hat
              refine hK.out _ _ ⟨(blk_cell BK217.out 0).trans rfl, (blk_cell BK217.out 1).trans rfl, (blk_cell BK217.out 2).trans rfl, (blk_cell BK217.out 3).trans rfl, (blk_cell BK217.out 4).trans rfl, (blk_cell BK217.out 5).trans rfl, (blk_cell BK217.out 6).trans rfl⟩ (fun hHeld => ?_)
              clear hK K
              refine norm_ (a' := ?_) ?_ ?_
              rotate_left
              · show Act.put _ (some 22) _ = _
                simp only [Act.put, List.setIfInBounds_toArray, List.set_cons_zero, List.set_cons_succ, i64_w, i32_w]
                rfl
              refine pure_ (i := 11) (N := some 3) (v := ?_) (a' := ?_) #[true, true, true, true, true, true, true, true, true, true, true, true] rfl rfl (any_of HT_.out (by kernel_rfl)) (fun _ _ _ h => h) (Or.inl ⟨by rfl, ?_⟩) ?_ ?_
              rotate_left
              · intro w'
                go_simp
                with_reducible rfl
              rotate_left
              · simp only [Act.put, List.setIfInBounds_toArray, List.set_cons_zero, List.set_cons_succ, i64_w, i32_w]
                rfl
              refine done_ (done_of HT_.out (by kernel_rfl)) ?_
              try go_wp2
              go_roundg k1
              case measure => have := HK1.out; omega
              case rel => exact ⟨(y225), (wrap64 (x8_1 + 1)), (by first | rfl | (simp; done) | (simp [*]; done)), H', ⟨by have := HK1.out; omega⟩, ⟨by (with_reducible repeat (first | apply Kd.S_alloc | apply Kd.S_drewN | apply Kd.S_drew)); exact Kd.S_mono HO227.out (fun _ hk => trivial)⟩, ⟨by repeat (first | (with_reducible first | exact HB.out | apply below_alloc | apply pw_below_drewN | apply below_drew1 | refine below_set ?_ GE217.out) | exact HB.out)⟩⟩
            · rw [if_neg c6] at H
              exact absurd H (by simp)
          · rw [if_neg c4] at H
            exact absurd H (by simp)
        · rw [if_neg c3] at H
          exact absurd H (by simp)
      · rw [if_neg c2] at H
        have c2b0 : decide (x8_1 < (l0.length : Int)) = false := decide_eq_false c2
        clear c2
        obtain rfl := Option.some.inj H
        go_wp2
        go_ret
        exact ⟨_, by first | rfl | (simp [errW_none, errW_some] <;> rfl) | (simp [*, errW_none, errW_some] <;> rfl), by (with_reducible repeat (first | apply Kd.S_alloc | apply Kd.S_drewN | apply Kd.S_drew)); exact HO_3.out, by repeat (first | (with_reducible first | exact HB.out | apply below_alloc | apply pw_below_drewN | apply below_drew1) | exact HB.out)⟩

-- NOT PRINTED: function 68 (impl_Part_68)

/-! ### impl_partAt: function 42 -/
def impl_partAt.l0 : Nat → List (S63) → Int → Int → Option (Int)
  | 0, _, _, _ => none
  | k + 1, x0, x1, x5 => if x5 < (x0.length : Int) then (if 0 ≤ x5 then (if ((rd_T63 x0 x5).f0) = x1 then (some x5) else (impl_partAt.l0 k x0 x1 (wrap64 (x5 + 1)))) else (none)) else (some (-1))
def impl_partAt.f (k : Nat) (l0 : List (S63)) (a1 : Int) : Option (Int) := impl_partAt.l0 k l0 a1 0
theorem impl_partAt.mono_l : ∀ k, (∀ y0 y1 y2, LeO (impl_partAt.l0 k y0 y1 y2) (impl_partAt.l0 (k + 1) y0 y1 y2))
  | 0 => fun _ _ _ r h => by simp [impl_partAt.l0] at h
  | k + 1 => by
    have ih0 := impl_partAt.mono_l k
    · intro y0 y1 y2
      unfold impl_partAt.l0
      repeat' first
      | (with_reducible exact ih0 _ _ _)
      | (with_reducible exact LeO.refl _)
      | (with_reducible exact LeO.none _)
      | (with_reducible refine LeO.ite ?_ ?_)
      | (with_reducible refine LeO.bind ?_ (fun _ => ?_))
      | exact ih0 _ _ _
      | exact LeO.none _
      | refine LeO.ite ?_ ?_
      | refine LeO.bind ?_ (fun _ => ?_)
theorem impl_partAt.mono : ∀ a0 a1 k, LeO (impl_partAt.f k a0 a1) (impl_partAt.f (k + 1) a0 a1) := by
  intro a0 a1 k
  have ih0 := impl_partAt.mono_l k
  unfold impl_partAt.f
  repeat' first
      | (with_reducible exact ih0 _ _ _)
      | (with_reducible exact LeO.refl _)
      | (with_reducible exact LeO.none _)
      | (with_reducible refine LeO.ite ?_ ?_)
      | (with_reducible refine LeO.bind ?_ (fun _ => ?_))
      | exact ih0 _ _ _
      | exact LeO.none _
      | refine LeO.ite ?_ ?_
      | refine LeO.bind ?_ (fun _ => ?_)
set_option maxHeartbeats 8000000 in
set_option maxRecDepth 100000 in
theorem impl_partAt.clo (A5 : Option Addr) (c5 : Nat) (q0 q1 q3 q4 q5 q6 : Int) (q2 : Nat) (a1 : Int) (gb : Nat) (w : World) (hg : w.cell? ⟨gb, 0, none⟩ = some (.int .i64 a1)) (hgl : gb < w.heap.size) :
    Calls Try.prog 69 #[.agg #[.int .i64 q0, .int .i64 q1, .slice A5 q2 c5, .int .i64 q3, .int .i64 q4, .int .i64 q5, .int .i64 q6], .pointer (some ⟨gb, 0, none⟩)] w fun e w' => e = .returned (.bool (q0 == a1)) ∧ Below w.heap.size w w' := by
  have hu36 := Try.underlying36
  have hu63 := Try.underlying63
  have HB := Aside0.mk (Below.refl w.heap.size w)
  go_enter Try.func69, Try.ntmps69
  go_wp2_with (first | ((with_reducible refine gate_dst (N := 2) rfl ?_); refine box_event ?hg (N := 2) ?hd (cs := #[.int .i64 q0, .int .i64 q1, .slice A5 q2 c5, .int .i64 q3, .int .i64 q4, .int .i64 q5, .int .i64 q6]) (t := 63) ?hr ?_; (case hd => rfl); (case hg => rfl); (case hr => first | (go_simp; done) | (go_simp; rfl)); intro gb1 hg1 w5 hbox hb; have hg5 := (hb.cell (p := ⟨gb, 0, none⟩) hgl).trans hg; have n0_ := Aside0.mk (below_step HB.out hb); have n1_ := Aside0.mk hbox; clear HB; have HB := n0_; have BK1 := n1_; clear n0_ n1_ hb hbox hg1; have hb1_ := (blk_cell BK1.out 0).trans rfl; clear hg))
  go_ret
  exact ⟨rfl, HB.out⟩
set_option maxHeartbeats 8000000 in
set_option maxRecDepth 100000 in
theorem impl_partAt.calls (k : Nat) (A0 : Option Addr) (c0 : Nat) (l0 : List (S63)) (a1 : Int) (r : Int) (w : World) (hr0 : Kd.C k63 w A0 l0.length l0) (hc0 : l0.length ≤ c0) (h : impl_partAt.f k l0 a1 = some r) :
    Calls Try.prog 42 #[.slice A0 l0.length c0, .int .i64 a1] w fun e w' => e = .returned (.int .i64 r) ∧ Below w.heap.size w w' := by
  have hu36 := Try.underlying36
  have hu63 := Try.underlying63
  have HR0 := Aside0.mk hr0
  clear hr0 hc0
  have HB := Aside0.mk (Below.refl w.heap.size w)
  have H' := Aside0.mk (show impl_partAt.l0 k l0 a1 0 = some r from h)
  clear h
  go_enter Try.func42, Try.ntmps42
  go_wp2_with (first | ((with_reducible refine gate_dst (N := 3) rfl ?_); refine box_event ?hg (N := 3) ?hd (cs := #[.int .i64 a1]) (t := 3) ?hr ?_; (case hd => rfl); (case hg => rfl); (case hr => first | (go_simp; done) | (go_simp; rfl)); intro gb hg1 w5 hbox hb; have n0_ := Aside0.mk (below_step HB.out hb); have n1_ := Aside0.mk hbox; clear HB; have HB := n0_; have BK1 := n1_; clear n0_ n1_ hb hbox hg1) | go_in)
  go_loopg [5, 8] k (fun kq v5 v8 w' => ∃ (x8_1 : Int), v8 = .int .i64 x8_1 ∧ Aside0 (impl_partAt.l0 kq l0 a1 x8_1 = some r) ∧ Aside0 (kq ≤ k) ∧ Aside0 (Below w.heap.size w w') ∧ Aside0 (w'.heap[gb]? = some (.cells #[.int .i64 a1] 3 (0, 0))))
  case atStart => exact ⟨0, (by first | rfl | (simp; done) | (simp [*]; done)), H', ⟨Nat.le_refl _⟩, HB, BK1⟩
  case round =>
    clear H' HB BK1
    try clear p2
    obtain ⟨x8_1, rfl, HA, HK1, HB, BK1⟩ := hrel
    cases gk with
    | zero => exact absurd HA.out (by simp [impl_partAt.l0])
    | succ k1 =>
      have H := HA.out
      clear HA
      simp only [impl_partAt.l0] at H
      by_cases c3 : x8_1 < (l0.length : Int)
      · rw [if_pos c3] at H
        have c3b0 : decide (x8_1 < (l0.length : Int)) = true := decide_eq_true c3
        clear c3
        by_cases c4 : 0 ≤ x8_1
        · rw [if_pos c4] at H
          have c4b0 : decide (0 ≤ x8_1) = true := decide_eq_true c4
          clear c4
          by_cases c5 : ((rd_T63 l0 x8_1).f0) = a1
          · rw [if_pos c5] at H
            have c5b0 : (((rd_T63 l0 x8_1).f0) == a1) = true := beq_iff_eq.mpr c5
            clear c5
            obtain rfl := Option.some.inj H
            have p1 : 0 ≤ (x8_1 : Int) := of_decide_eq_true (by first | (with_reducible assumption) | assumption)
            have q1 : x8_1 < (l0.length : Int) := of_decide_eq_true (by first | (with_reducible assumption) | assumption)
            obtain ⟨ad1, A1, c1, e1, hx0, hx1, hx2, hx3, hx4, hx5, hx6, hl1, hi1⟩ := at_T63 (Kd.C_below HR0.out HB.out) x8_1 p1 q1
            cases e1
            clear hl1 hi1
            replace p1 := eq_true p1
            replace q1 := eq_true q1
            go_wp2_with (first | (go_at_call 69; refine (impl_partAt.clo _ _ _ _ _ _ _ _ _ a1 gb _ ((blk_cell BK1.out 0).trans rfl) (blk_lt BK1.out)).mono ?_; rintro e w9 ⟨rfl, hb⟩; have n0_ := Aside0.mk (below_step (by repeat (first | (with_reducible first | exact HB.out | apply below_alloc | apply pw_below_drewN | apply below_drew1) | exact HB.out)) hb); have n1_ := Aside0.mk (blk_below BK1.out hb); clear HB BK1; have HB := n0_; have BK1 := n1_; clear n0_ n1_ hb))
            go_ret
            exact ⟨by first | rfl | (simp; done) | (simp [*]; done), HB.out⟩
          · rw [if_neg c5] at H
            have c5b0 : (((rd_T63 l0 x8_1).f0) == a1) = false := beq_eq_false_iff_ne.mpr c5
            have H' := Aside0.mk H
            clear H
            have p1 : 0 ≤ (x8_1 : Int) := of_decide_eq_true (by first | (with_reducible assumption) | assumption)
            have q1 : x8_1 < (l0.length : Int) := of_decide_eq_true (by first | (with_reducible assumption) | assumption)
            obtain ⟨ad1, A1, c1, e1, hx0, hx1, hx2, hx3, hx4, hx5, hx6, hl1, hi1⟩ := at_T63 (Kd.C_below HR0.out HB.out) x8_1 p1 q1
            cases e1
            clear hl1 hi1
            replace p1 := eq_true p1
            replace q1 := eq_true q1
            go_wp2_with (first | (go_at_call 69; refine (impl_partAt.clo _ _ _ _ _ _ _ _ _ a1 gb _ ((blk_cell BK1.out 0).trans rfl) (blk_lt BK1.out)).mono ?_; rintro e w9 ⟨rfl, hb⟩; have n0_ := Aside0.mk (below_step (by repeat (first | (with_reducible first | exact HB.out | apply below_alloc | apply pw_below_drewN | apply below_drew1) | exact HB.out)) hb); have n1_ := Aside0.mk (blk_below BK1.out hb); clear HB BK1; have HB := n0_; have BK1 := n1_; clear n0_ n1_ hb))
            go_roundg k1
            case measure => have := HK1.out; omega
            case rel => exact ⟨(wrap64 (x8_1 + 1)), (by first | rfl | (simp; done) | (simp [*]; done)), H', ⟨by have := HK1.out; omega⟩, HB, BK1⟩
        · rw [if_neg c4] at H
          exact absurd H (by simp)
      · rw [if_neg c3] at H
        have c3b0 : decide (x8_1 < (l0.length : Int)) = false := decide_eq_false c3
        clear c3
        obtain rfl := Option.some.inj H
        go_wp2
        go_ret
        exact ⟨by first | rfl | (simp; done) | (simp [*]; done), HB.out⟩


-- NOT PRINTED: function 65 (impl_Part_65)

theorem cut_add (c i k g : Nat) : (if c = i then some (⟨g, 0, none⟩ : Addr) else some ⟨g, k, none⟩) = if c = i then some ⟨g, 0, none⟩ else (some (⟨g, 0, none⟩ : Addr)).map (·.add k) := by
  by_cases h : c = i
  · rw [if_pos h, if_pos h]
  · rw [if_neg h, if_neg h, Option.map_some, add_plain]
theorem zero_run {P : Program} {t : TypeId} {z : Value} {sz by_ : Nat} (h : (P.info? t).map (fun i => (i.zero, i.size, i.bytes)) = some (some z, sz, by_)) : ∀ w, (zeroValue t).run P w = .ok z w := by
  intro w
  obtain ⟨i, hi, he⟩ := Option.map_eq_some_iff.1 h
  have hz : i.zero = some z := congrArg (fun q => q.1) he
  simp [zeroValue, typeInfo, hi, hz]
theorem clear_run {P : Program} {ops : Array Oper} {rest : List Oper} {o : Oper} {a : Act} {Q : Exit → Act → World → Prop} (w : World) (hgd : o.guard = none) (s : Operand) (t : TypeId) (ho : o.op = .call { callee := .builtin .clear, args := #[s], argTypes := #[t] }) (v : Value) (hs : a.eval s = v) {v' : Value} {w' : World} (hr : (Builtin.clear_ #[t] o.type #[v]).run P w = .ok v' w') (hN : o.dst = none) (h : wpList P ops Q rest a w') : wpList P ops Q (o :: rest) a w := by
  refine wpList_plain hgd fun K hK => ?_
  unfold Oper.wp execOp
  simp only [ho, resolve, invoke, builtin, Sem.run_bind, Sem.run_pure, Result.andThen_ok, List.map_toArray, List.map_cons, List.map_nil, hs, hr]
  show K (a.put o.dst v') w'
  rw [hN]
  exact hK _ _ h
/-- The element behind a row's end is set to zero: the row is as it was. -/
theorem S_clear {α : Type} (d : Kd α) {P : Program} {W w0 : World} {base g n c : Nat} {e t ty : TypeId} {ok : Nat → Prop} {xs : List α} (z : Value) (hO : Kd.S d e W base ok (.slice (some ⟨g, 0, none⟩) n c) xs) (hn : n < c) (ht : P.underlying t = some (.slice e)) (hz : ∀ w, (zeroValue e).run P w = .ok z w) (hzs : z.cells.size = d.sz) (h1 : (Builtin.zeroCells z.cells 1).toList.all (fun u => u.oneCell') = true) (hlen : (Builtin.zeroCells z.cells 1).toList.length = d.sz) (HB : Below base w0 W) (c2 : Nat) :
    ∃ w1, (Builtin.clear_ #[t] ty #[.slice (some ⟨g, n * d.sz, none⟩) 1 c2]).run P W = .ok (.tuple #[]) w1 ∧ Kd.S d e w1 base ok (.slice (some ⟨g, 0, none⟩) n c) xs ∧ Below base w0 w1 := by
  obtain ⟨f, hok, inner, hown, hr⟩ := hO
  rcases hown.2 with ⟨hv, _⟩ | ⟨g', cap', cur, hv, hb, hh, hnc, hcm, hcs, htake⟩
  · cases hv
  injection hv with ha hn' hc'
  injection ha with ha
  injection ha with hg' _ _
  subst hg' hc'
  have hfit : n * d.sz + (Builtin.zeroCells z.cells 1).toList.length ≤ cur.size := by
    rw [hlen, hcs, ← Nat.succ_mul]
    exact Nat.mul_le_mul_right _ hn
  have hrun := run_storeCells_cells (P := P) g (n * d.sz) (Builtin.zeroCells z.cells 1).toList 0 W (fun j hj => by rw [Nat.add_zero, blk_cell hh, Array.getElem?_eq_getElem (by omega)]; rfl) (fun j _ => blk_frozen hh _) (List.all_eq_true.1 h1)
  obtain ⟨cur', h2, h3, h4⟩ := setCells_row (Builtin.zeroCells z.cells 1).toList (n * d.sz) W cur hh hfit
  obtain ⟨s1, s2, s3, s4⟩ := setCells_same g (Builtin.zeroCells z.cells 1).toList (n * d.sz) W
  have hgb : W.grownBy (W.setCells g (n * d.sz) (Builtin.zeroCells z.cells 1).toList) (some g) := ⟨s1, s2, s3, Nat.le_of_eq s4.symm, fun k hk hne => setCells_far _ _ k (fun he => hne (by rw [he]))⟩
  refine ⟨_, by simp [Builtin.clear_, run_underlying ht, hz, hrun], ⟨f, hok, inner, ⟨hown.1, .inr ⟨g, c, cur', by rw [← hn'], hb, h2, hnc, hcm, by rw [h3, hcs], ?_⟩⟩, ?_⟩, ?_⟩
  · have e : xs.zipIdx.length * (Kd.tag f d).sz = n * d.sz := by rw [← hn']; rfl
    rw [e] at htake ⊢
    rw [← htake, h4, List.append_assoc, List.take_append_of_le_length (by rw [List.length_take, Array.length_toList]; omega), List.take_take, Nat.min_self]
  · exact hr.imp_ (fun p cs hM => (Kd.tag f d).M_move (fun k hk => setCells_far _ _ k (fun he => hk.2 (by rw [he]; rfl))) hM)
  · exact pw_below_grown HB _ (Nat.le_of_lt (Nat.lt_of_le_of_lt hb (blk_lt hh))) hgb (fun k hk => by cases hk; exact hb)
def slices_Delete_Part.T5 : Bool × List (List Nat × List Nat) := (true, [([], []), ([], []), ([0, 1], [0, 1]), ([], []), ([], []), ([3, 4], [3, 4]), ([2, 5], [2, 5]), ([6, 6, 0, 1, 2, 3, 4, 5, 6], [0, 3, 6])])
def slices_Delete_Part.B5 : List Nat := [0, 0, 3, 0, 0, 24, 63, 127]
theorem slices_Delete_Part.tab5 : rtab .any (opsOf Try.f65 5) = slices_Delete_Part.T5 := by kernel_rfl
theorem slices_Delete_Part.bits5 : waitsOk slices_Delete_Part.T5.2 slices_Delete_Part.B5 = true := by kernel_rfl
set_option maxHeartbeats 8000000 in
set_option maxRecDepth 100000 in
theorem slices_Delete_Part.calls (base : Nat) (ok : Nat → Prop) (g n c i : Nat) (xs : List S63) (w0 w : World) (hB : Below base w0 w) (hbase : base ≤ w.heap.size) (hO : Kd.S k63 63 w base ok (.slice (some ⟨g, 0, none⟩) n c) xs) (hi : i < n) :
    Calls Try.prog 65 #[.slice (some ⟨g, 0, none⟩) n c, .int .i64 i, .int .i64 ((i : Int) + 1)] w fun e w' => e = .returned (.slice (some ⟨g, 0, none⟩) (n - 1) c) ∧ Kd.S k63 63 w' base ok (.slice (some ⟨g, 0, none⟩) (n - 1) c) (xs.eraseIdx i) ∧ Below base w0 w' := by
  obtain ⟨m, rfl⟩ : ∃ m, n = m + 1 := ⟨n - 1, by omega⟩
  have HB := Aside0.mk hB
  have HO := Aside0.mk hO
  have hnc : m + 1 ≤ c := (Kd.S_reads' hO).2.1
  clear hB hO
  have q1 : ¬ ((i : Int) = ((i : Int) + 1)) := by omega
  have q2 : ((i : Int) == ((i : Int) + 1)) = false := beq_eq_false_iff_ne.mpr q1
  have q3 : i + 1 ≤ m + 1 := hi
  have q4 : i + 1 ≤ c := by omega
  have q5 : i ≤ m + 1 := by omega
  have q6 : i ≤ c := by omega
  have q7 : i ≤ i + 1 := by omega
  have q10 : ¬ (c = m) := by omega
  have q11 : (m : Int) + 1 ≤ (c : Int) := by omega
  have q12 : (m : Int) ≤ (m : Int) + 1 := by omega
  have q8 : (0 : Int) ≤ (i : Int) + 1 := by omega
  have q9 : (i : Int) + 1 ≤ (m : Int) + 1 := by omega
  go_enter Try.func65, Try.ntmps65
  go_wp2_with fail
  refine start_ (n := 8) (S := fun _ => True) (ds := []) (mk 8 0) (by kernel_rfl) rfl rfl trivial (fun hHeld => ?_)
  refine with_tabW slices_Delete_Part.tab5 slices_Delete_Part.bits5 (fun HT_ HW_ => ?_)
  refine on_ 0 20 (mk 8 0x1) ?_
  refine on_ 1 21 (mk 8 0x3) ?_
  refine on_ 2 22 (mk 8 0x7) ?_
  refine on_ 3 23 (mk 8 0xF) ?_
  refine on_ 4 24 (mk 8 0x1F) ?_
  refine on_ 5 25 (mk 8 0x3F) ?_
  refine one_ (i := 6) (N := some 26) (mk 8 0x7F) rfl rfl (one_of HT_.out (by kernel_rfl)) (by decide) (fun K hK => ?_)
  refine Kd.S_delete_step k63 (w0 := w0) base (by rfl) (.tmp 22) (.tmp 25) 30 63 rfl Try.underlying30 (by kernel_rfl) (g := g) (n := m + 1) (c := c) (k := i) (m := m - i) (c2 := c - (i + 1)) (A := if c = i + 1 then some ⟨g, 0, none⟩ else (some (⟨g, 0, none⟩ : Addr)).map (·.add ((i + 1) * k63.sz))) rfl ?hx rfl (by omega) (Kd.S_drew HO.out) hi (below_drew HB.out) hbase ?_
  case hx => exact congrArg (fun z => Value.slice z (m - i) (c - (i + 1))) (cut_add c (i + 1) ((i + 1) * 7) g)
  intro w1 ho hb1 hg
  refine hK.out _ _ trivial (fun hHeld => nk_ 26 ?_)
  clear hK K
  refine on_ 7 0 (mk 8 0xFF) ?_
  refine dn_ ?_
  generalize (if c = i + 1 then some (⟨g, 0, none⟩ : Addr) else some ⟨g, (i + 1) * 7, none⟩) = zA
  go_wp2_with (((with_reducible refine gate_builtin (b := .clear) (xs := #[.tmp 31]) rfl ?_); obtain ⟨w2, hr2, ho2, hb2⟩ := S_clear k63 (P := Try.prog) (ty := 0) (t := 30) _ ho (show m < c by omega) Try.underlying30 (zero_run info63) rfl (by kernel_rfl) (by kernel_rfl) hb1 (c - m); refine clear_run _ rfl (.tmp 31) 30 rfl _ rfl hr2 rfl ?_))
  go_ret
  exact ⟨rfl, ho2, hb2⟩
/-! ### impl_TakePart: function 27 -/
def impl_TakePart.j0 : Nat → List (S63) → Int → Bool → Option ((List (S63)) × Bool)
  | 0, _, _, _ => none
  | k + 1, x6, x7, x19 => if x19 = true then (some (x6, false)) else (if 0 ≤ x7 then (if x7 < (x6.length : Int) then (if ((rd_T63 x6 x7).f2) = 1 then (if x7 ≤ (x6.length : Int) then (if 0 ≤ (wrap64 (x7 + 1)) then (if (wrap64 (x7 + 1)) ≤ (x6.length : Int) then (some ((x6.eraseIdx (x7 : Int).toNat), true)) else (none)) else (none)) else (none)) else (some ((x6.set (x7 : Int).toNat (⟨(rd_T63 x6 x7).f0, (⟨(rd_T63 x6 x7).f1.f0, (rd_T63 x6 x7).f1.f1, (⟨(rd_T63 x6 x7).f1.f2.f0, (rd_T63 x6 x7).f1.f2.f1, (rd_T63 x6 x7).f1.f2.f2⟩ : S34)⟩ : S36), wrap64 (((rd_T63 x6 x7).f2) - 1)⟩ : S63)), true))) else (none)) else (none))
def impl_TakePart.f (k : Nat) (l0 : List (S63)) (a1 : Int) : Option ((List (S63)) × Bool) := (impl_copyParts.f k l0).bind fun t229 => ((impl_partAt.f k t229 a1).bind fun t232 => ((impl_IsStore.f k l0).bind fun t233 => (if t233 = true then (impl_TakePart.j0 k t229 t232 (decide (t232 < 0))) else (impl_TakePart.j0 k t229 t232 true))))
theorem impl_TakePart.mono_l : ∀ k, (∀ y0 y1 y2, LeO (impl_TakePart.j0 k y0 y1 y2) (impl_TakePart.j0 (k + 1) y0 y1 y2))
  | 0 => fun _ _ _ r h => by simp [impl_TakePart.j0] at h
  | k + 1 => by
    have ih0 := impl_TakePart.mono_l k
    · intro y0 y1 y2
      unfold impl_TakePart.j0
      repeat' first
      | (with_reducible exact ih0 _ _ _)
      | (with_reducible exact impl_IsStore.mono _ _)
      | (with_reducible exact impl_copyParts.mono _ _)
      | (with_reducible exact impl_partAt.mono _ _ _)
      | (with_reducible exact LeO.refl _)
      | (with_reducible exact LeO.none _)
      | (with_reducible refine LeO.ite ?_ ?_)
      | (with_reducible refine LeO.bind ?_ (fun _ => ?_))
      | exact ih0 _ _ _
      | exact impl_IsStore.mono _ _
      | exact impl_copyParts.mono _ _
      | exact impl_partAt.mono _ _ _
      | exact LeO.none _
      | refine LeO.ite ?_ ?_
      | refine LeO.bind ?_ (fun _ => ?_)
theorem impl_TakePart.mono : ∀ a0 a1 k, LeO (impl_TakePart.f k a0 a1) (impl_TakePart.f (k + 1) a0 a1) := by
  intro a0 a1 k
  have ih0 := impl_TakePart.mono_l k
  unfold impl_TakePart.f
  repeat' first
      | (with_reducible exact ih0 _ _ _)
      | (with_reducible exact impl_IsStore.mono _ _)
      | (with_reducible exact impl_copyParts.mono _ _)
      | (with_reducible exact impl_partAt.mono _ _ _)
      | (with_reducible exact LeO.refl _)
      | (with_reducible exact LeO.none _)
      | (with_reducible refine LeO.ite ?_ ?_)
      | (with_reducible refine LeO.bind ?_ (fun _ => ?_))
      | exact ih0 _ _ _
      | exact impl_IsStore.mono _ _
      | exact impl_copyParts.mono _ _
      | exact impl_partAt.mono _ _ _
      | exact LeO.none _
      | refine LeO.ite ?_ ?_
      | refine LeO.bind ?_ (fun _ => ?_)
set_option maxHeartbeats 8000000 in
set_option maxRecDepth 100000 in
theorem impl_TakePart.calls (k : Nat) (A0 : Option Addr) (c0 : Nat) (l0 : List (S63)) (a1 : Int) (r1 : List (S63)) (r2 : Bool) (w : World) (hr0 : Kd.C k63 w A0 l0.length l0) (hc0 : l0.length ≤ c0) (h : impl_TakePart.f k l0 a1 = some (r1, r2)) :
    Calls Try.prog 27 #[.slice A0 l0.length c0, .int .i64 a1] w fun e w' => ∃ v0_ : Value, e = .returned (.tuple #[v0_, .bool r2]) ∧ Kd.S k63 63 w' w.heap.size (fun _ => True) v0_ r1 ∧ Below w.heap.size w w' := by
  have hu63 := Try.underlying63
  have HR0 := Aside0.mk hr0
  have HC0 := Aside0.mk hc0
  clear hr0 hc0
  have HB := Aside0.mk (Below.refl w.heap.size w)
  obtain ⟨t1, A3, H⟩ := Option.bind_eq_some_iff.mp h
  obtain ⟨t2, A4, H⟩ := Option.bind_eq_some_iff.mp H
  clear h
  replace A3 := Aside0.mk A3
  replace A4 := Aside0.mk A4
  have HC4 := Aside0.mk H
  clear H
  go_enter Try.func27, Try.ntmps27
  go_upto_region 3 with (first | ((with_reducible refine gate_callee (f := 41) rfl ?_); refine goesL_ (some 9) rfl rfl Try.func41 (by kernel_rfl) rfl #[.slice A0 l0.length c0] rfl (by (try simp only [List.map_toArray, List.map_cons, List.map_nil]); first | done | rfl) ?_; refine (impl_copyParts.calls k _ _ l0 t1 _ HR0.out HC0.out A3.out).mono ?_; rintro e w6 ⟨v1, rfl, ho0, hb⟩; refine ⟨_, rfl, ?_⟩; have HO := Aside0.mk (Kd.S_lower ho0 (below_size HB.out)); have n1_ := Aside0.mk (below_step HB.out hb); clear HB ho0 hb; have HB := n1_; clear n1_; obtain ⟨Ao, co, eo⟩ := Kd.S_slice HO.out; subst eo) | ((with_reducible refine gate_callee (f := 42) rfl ?_); refine goesL_ (some 12) rfl rfl Try.func42 (by kernel_rfl) rfl #[.slice Ao t1.length co, .int .i64 a1] rfl (by (try simp only [List.map_toArray, List.map_cons, List.map_nil]); first | done | rfl) ?_; refine (impl_partAt.calls k _ _ t1 a1 t2 _ (Kd.S_reads' HO.out).2.2 (Kd.S_reads' HO.out).2.1 A4.out).mono ?_; rintro e w8 ⟨rfl, hb⟩; refine ⟨_, rfl, ?_⟩; have n0_ := Aside0.mk (Kd.S_below HO.out hb); have n1_ := Aside0.mk (below_step HB.out hb); clear HO HB hb; have HO := n0_; have HB := n1_; clear n0_ n1_))
  (try simp only [Act.put, List.setIfInBounds_toArray, List.set_cons_zero, List.set_cons_succ])
  go_cut [19] (fun v19 wc => ∃ (kq : Nat) (x19_4 : Bool), v19 = .bool x19_4 ∧ Aside0 (impl_TakePart.j0 kq t1 t2 x19_4 = some (r1, r2)) ∧ Aside0 (kq ≤ k) ∧ Aside0 (Kd.S k63 63 wc w.heap.size (fun _ => True) (.slice Ao t1.length co) t1) ∧ Aside0 (Below w.heap.size w wc))
  case first =>
    obtain ⟨t9, A9, H⟩ := Option.bind_eq_some_iff.mp HC4.out
    clear HC4
    replace A9 := Aside0.mk A9
    by_cases c6 : t9 = true
    · subst c6
      rw [if_pos rfl] at H
      have H' := Aside0.mk H
      clear H
      go_wp2_with (first | ((with_reducible refine gate_callee (f := 25) rfl ?_); refine goesL_ (some 14) rfl rfl Try.func25 (by kernel_rfl) rfl #[.slice A0 l0.length c0] rfl (by (try simp only [List.map_toArray, List.map_cons, List.map_nil]); first | done | rfl) ?_; refine (impl_IsStore.calls k _ _ l0 _ _ (Kd.C_below HR0.out HB.out) HC0.out A9.out).mono ?_; rintro e w11 ⟨rfl, hb⟩; refine ⟨_, rfl, ?_⟩; have n0_ := Aside0.mk (Kd.S_below HO.out hb); have n1_ := Aside0.mk (below_step HB.out hb); clear HO HB hb; have HO := n0_; have HB := n1_; clear n0_ n1_))
      go_meet
      case rel => exact ⟨_, decide (t2 < 0), (by first | rfl | (simp; done) | (simp [*]; done)), H', ⟨Nat.le_refl _⟩, HO, ⟨(by repeat (first | (with_reducible first | exact HB.out | apply below_alloc | apply pw_below_drewN | apply below_drew1) | exact HB.out))⟩⟩
    · replace c6 := Bool.eq_false_iff.mpr c6
      subst c6
      rw [if_neg (show ¬ (false = true) by decide)] at H
      have H' := Aside0.mk H
      clear H
      go_wp2_with (first | ((with_reducible refine gate_callee (f := 25) rfl ?_); refine goesL_ (some 14) rfl rfl Try.func25 (by kernel_rfl) rfl #[.slice A0 l0.length c0] rfl (by (try simp only [List.map_toArray, List.map_cons, List.map_nil]); first | done | rfl) ?_; refine (impl_IsStore.calls k _ _ l0 _ _ (Kd.C_below HR0.out HB.out) HC0.out A9.out).mono ?_; rintro e w11 ⟨rfl, hb⟩; refine ⟨_, rfl, ?_⟩; have n0_ := Aside0.mk (Kd.S_below HO.out hb); have n1_ := Aside0.mk (below_step HB.out hb); clear HO HB hb; have HO := n0_; have HB := n1_; clear n0_ n1_))
      go_meet
      case rel => exact ⟨_, true, (by first | rfl | (simp; done) | (simp [*]; done)), H', ⟨Nat.le_refl _⟩, HO, ⟨(by repeat (first | (with_reducible first | exact HB.out | apply below_alloc | apply pw_below_drewN | apply below_drew1) | exact HB.out))⟩⟩
  case rest =>
    clear HC4
    try clear p2
    try clear HO HB
    obtain ⟨kq, x19_4, rfl, HA, HJ4, HO, HB⟩ := hcut
    cases kq with
    | zero => exact absurd HA.out (by simp [impl_TakePart.j0])
    | succ kj4 =>
      have H := HA.out
      clear HA
      simp only [impl_TakePart.j0] at H
      by_cases c13 : x19_4 = true
      · subst c13
        rw [if_pos rfl] at H
        simp only [Option.some.injEq, Prod.mk.injEq] at H
        obtain ⟨rfl, rfl⟩ := H
        go_wp2
        go_ret2
        exact ⟨_, (by first | rfl | (simp [errW_none, errW_some] <;> rfl) | (simp [*, errW_none, errW_some] <;> rfl)), HO.out, (by repeat (first | (with_reducible first | exact HB.out | apply below_alloc | apply pw_below_drewN | apply below_drew1) | exact HB.out))⟩
      · replace c13 := Bool.eq_false_iff.mpr c13
        subst c13
        rw [if_neg (show ¬ (false = true) by decide)] at H
        by_cases c14 : 0 ≤ t2
        · rw [if_pos c14] at H
          obtain ⟨i, rfl⟩ := Int.eq_ofNat_of_zero_le c14
          by_cases c15 : (i : Int) < (t1.length : Int)
          · rw [if_pos c15] at H
            have hin : i < t1.length := by omega
            have hmax := (Kd.S_reads' HO.out).2.2.2.1
            have hwr : wrap64 ((i : Int) + 1) = (i : Int) + 1 := by unfold wrap64; omega
            have hwi : IntKind.i64.wrap ((i : Int) + 1) = (i : Int) + 1 := (i64_w _).trans hwr
            obtain ⟨g, cg, eg, GB, _, _⟩ := Kd.S_form HO.out (by omega)
            injection eg with ea _ ec
            subst ea ec
            obtain ⟨ad, A2, c2, e2, hx0, hx1, hx2, hx3, hx4, hx5, hx6, hl2, hi2⟩ := at_T63 (Kd.S_reads' HO.out).2.2 (i : Int) c14 c15
            injection e2 with e2
            subst e2
            simp only [add_plain] at hx6
            obtain ⟨⟨d, ⟨kd, bd, ⟨ho, pa, qu⟩⟩, us⟩, hx⟩ : ∃ x, rd_T63 t1 (i : Int) = x := ⟨_, rfl⟩
            simp only [hx] at H hx6
            have p14 := eq_true c14
            have p15 := eq_true c15
            have hx6' : wc.cell? ⟨g, i * 7 + 6, none⟩ = some (.int .i64 us) := hx6
            clear hx0 hx1 hx2 hx3 hx4 hx5 hl2 hi2
            by_cases c16 : us = 1
            · subst c16
              rw [if_pos rfl, if_pos (by omega), hwr, if_pos (by omega), if_pos (by omega)] at H
              simp only [Option.some.injEq, Prod.mk.injEq] at H
              obtain ⟨e1, e2⟩ := H
              subst e2
              have E1 := Aside0.mk e1
              clear e1 hwr
              go_wp2_with (first | ((with_reducible refine gate_callee (f := 65) rfl ?_); refine goesL_ (some 31) rfl rfl Try.func65 (by kernel_rfl) rfl #[.slice (some ⟨g, 0, none⟩) t1.length co, .int .i64 i, .int .i64 ((i : Int) + 1)] rfl (by (try simp only [List.map_toArray, List.map_cons, List.map_nil]); first | done | rfl) ?_; refine (slices_Delete_Part.calls w.heap.size (fun _ => True) g t1.length co i t1 w _ HB.out (below_size HB.out) HO.out hin).mono ?_; rintro e w31 ⟨rfl, ho, hb⟩; refine ⟨_, rfl, ?_⟩; clear HO HB; have HO := Aside0.mk ho; have HB := Aside0.mk hb; clear ho hb))
              go_ret2
              refine ⟨_, (by first | rfl | (simp [errW_none, errW_some] <;> rfl) | (simp [*, errW_none, errW_some] <;> rfl)), ?_, (by repeat (first | (with_reducible first | exact HB.out | apply below_alloc | apply pw_below_drewN | apply below_drew1) | exact HB.out))⟩
              rw [← E1.out]
              exact HO.out
            · rw [if_neg c16] at H
              have c16b0 : (us == 1) = false := beq_eq_false_iff_ne.mpr c16
              simp only [Option.some.injEq, Prod.mk.injEq] at H
              obtain ⟨e1, e2⟩ := H
              subst e2
              have E1 := Aside0.mk e1
              clear e1 hwr hwi c16
              have HX := Aside0.mk (show Kd.S k63 63 wc w.heap.size (fun k_ => True ∧ ¬ False) (.slice (some ⟨g, 0, none⟩) t1.length co) t1 from Kd.S_mono HO.out (fun k_ hk => ⟨trivial, fun e_ => e_⟩))
              obtain ⟨oki, ce, hcl, hM, hcc, hfr, hoki, hH⟩ := Kd.S_elem HX.out z63 (i : Int) c14 c15
              rw [show t1.getD (i : Int).toNat z63 = _ from hx] at hM
              obtain ⟨ve, rfl, ge⟩ := k63_openM hM
              have HP := Aside0.mk (Kd.S_seg (ok := fun _ => True) (okg := fun _ => False) hH c14 c15 (seg := [.int .i64 (wrap64 (us - 1))]) (j := 6) (show 7 ≤ 7 from by decide) (x' := (⟨d, (⟨kd, bd, (⟨ho, pa, qu⟩ : S34)⟩ : S36), wrap64 (us - 1)⟩ : S63)) (k63_mkM _ _ _ (⟨d, (⟨kd, bd, (⟨ho, pa, qu⟩ : S34)⟩ : S36), wrap64 (us - 1)⟩ : S63) (Kd.R_mono ge (fun _ h_ => Or.inl h_))) (fun _ hk => hk) (fun k_ hk_ => hk_.elim))
              have hf6 : wc.frozen? ⟨g, i * 7 + 6, none⟩ = false := hfr 6
              clear hcl hcc hfr hM hoki hH HX ge
              go_wp2_with (first | ((with_reducible refine gate_store (t := 3) (p := 39) rfl ?_); refine store_event (t := 3) (p := 39) (v := ?vo) (w1 := (wc.setCell ⟨g, i * 7 + 6, none⟩ (.int .i64 (wrap64 (us - 1))))) ?hg ?ho ?hn ?hr ?_; (case ho => rfl); (case hg => rfl); (case hn => rfl); (case hr => first | (go_simp; done) | (go_simp; rfl)); intro w28 hw; have n0_ := Aside0.mk (show Kd.S k63 63 w28 w.heap.size (fun _ => True) (.slice (some ⟨g, 0, none⟩) t1.length co) (t1.set i (⟨d, (⟨kd, bd, (⟨ho, pa, qu⟩ : S34)⟩ : S36), wrap64 (us - 1)⟩ : S63)) from hw ▸ HP.out.1); have n1_ := Aside0.mk (show Below w.heap.size w w28 from hw ▸ below_set HB.out GB); clear HO HB hw; have HO := n0_; have HB := n1_; clear n0_ n1_))
              go_ret2
              refine ⟨_, (by first | rfl | (simp [errW_none, errW_some] <;> rfl) | (simp [*, errW_none, errW_some] <;> rfl)), ?_, (by repeat (first | (with_reducible first | exact HB.out | apply below_alloc | apply pw_below_drewN | apply below_drew1) | exact HB.out))⟩
              rw [← E1.out]
              exact HO.out
          · rw [if_neg c15] at H
            exact absurd H (by simp)
        · rw [if_neg c14] at H
          exact absurd H (by simp)

/-! ### spec_l1In: function 67 -/
def spec_l1In.f (a0 : Int) (a1 : Int) (a2 : Int) : Option (Bool) := if a0 ≥ a1 then (some (decide (a0 ≤ a2))) else (some false)
set_option maxHeartbeats 8000000 in
set_option maxRecDepth 100000 in
theorem spec_l1In.calls (a0 : Int) (a1 : Int) (a2 : Int) (r : Bool) (w : World) (h : spec_l1In.f a0 a1 a2 = some r) :
    Calls Try.prog 67 #[.int .i64 a0, .int .i64 a1, .int .i64 a2] w fun e w' => e = .returned (.bool r) ∧ Drawn0 w w' := by
  have H : (if a0 ≥ a1 then (some (decide (a0 ≤ a2))) else (some false)) = some r := h
  clear h
  by_cases c4 : a0 ≥ a1
  · rw [if_pos c4] at H
    have c4b0 : decide (a1 ≤ a0) = true := decide_eq_true c4
    clear c4
    obtain rfl := Option.some.inj H
    go_enter Try.func67, Try.ntmps67
    go_wp2
    go_ret
    exact ⟨by first | rfl | (simp; done) | (simp [*]; done), by repeat (first | exact Drawn0.refl _ | apply Drawn0.step)⟩
  · rw [if_neg c4] at H
    have c4b0 : decide (a1 ≤ a0) = false := decide_eq_false c4
    clear c4
    obtain rfl := Option.some.inj H
    go_enter Try.func67, Try.ntmps67
    go_wp2
    go_ret
    exact ⟨by first | rfl | (simp; done) | (simp [*]; done), by repeat (first | exact Drawn0.refl _ | apply Drawn0.step)⟩

/-! ### spec_Mod: function 79 -/
def spec_Mod.f (a0 : Int) (a1 : Int) : Option (Int) := (spec_l1In.f a1 1 1000000000000).bind fun t248 => (if t248 = true then (if a1 = 0 then (none) else (some (Int.tmod (wrap64 ((Int.tmod a0 a1) + a1)) a1))) else (some 0))
set_option maxHeartbeats 8000000 in
set_option maxRecDepth 100000 in
theorem spec_Mod.calls (a0 : Int) (a1 : Int) (r : Int) (w : World) (h : spec_Mod.f a0 a1 = some r) :
    Calls Try.prog 79 #[.int .i64 a0, .int .i64 a1] w fun e w' => e = .returned (.int .i64 r) ∧ Drawn0 w w' := by
  have H : ((spec_l1In.f a1 1 1000000000000).bind fun t248 => (if t248 = true then (if a1 = 0 then (none) else (some (Int.tmod (wrap64 ((Int.tmod a0 a1) + a1)) a1))) else (some 0))) = some r := h
  clear h
  replace H := Option.bind_eq_some_iff.mp H
  obtain ⟨t248, A30, H⟩ := H
  replace H : (if t248 = true then (if a1 = 0 then (none) else (some (Int.tmod (wrap64 ((Int.tmod a0 a1) + a1)) a1))) else (some 0)) = some r := H
  have A3 := Aside0.mk A30
  clear A30
  by_cases c4 : t248 = true
  · subst c4
    have H1 : (if a1 = 0 then (none) else (some (Int.tmod (wrap64 ((Int.tmod a0 a1) + a1)) a1))) = some r := by rw [if_pos rfl] at H; exact H
    clear H
    have H := H1
    clear H1
    by_cases c5 : a1 = 0
    · rw [if_pos c5] at H
      exact absurd H (by simp)
    · rw [if_neg c5] at H
      have c5b0 : (a1 == 0) = false := beq_eq_false_iff_ne.mpr c5
      have c5b1 : (a1 != 0) = true := bne_iff_ne.mpr c5
      obtain rfl := Option.some.inj H
      go_enter Try.func79, Try.ntmps79
      go_wp2_with (first | ((with_reducible refine gate_callee (f := 67) rfl ?_); refine goesL_ (some 6) rfl rfl Try.func67 (by kernel_rfl) rfl #[.int .i64 a1, .int .i64 1, .int .i64 1000000000000] rfl (by (try simp only [List.map_toArray, List.map_cons, List.map_nil]); first | done | rfl | (simp only [List.length_drop, List.length_take]; rfl)) ?_; (with_reducible refine (spec_l1In.calls a1 1 1000000000000 true _ A3.out).mono ?_); rintro e w' ⟨rfl, ⟨nd, rfl⟩⟩; refine ⟨_, rfl, ?_⟩))
      go_ret
      exact ⟨by first | rfl | (simp; done) | (simp [*]; done), by repeat (first | exact Drawn0.refl _ | apply Drawn0.step)⟩
  · replace c4 := Bool.eq_false_iff.mpr c4
    subst c4
    have H1 : (some 0) = some r := by rw [if_neg (show ¬ (false = true) by decide)] at H; exact H
    clear H
    have H := H1
    clear H1
    obtain rfl := Option.some.inj H
    go_enter Try.func79, Try.ntmps79
    go_wp2_with (first | ((with_reducible refine gate_callee (f := 67) rfl ?_); refine goesL_ (some 6) rfl rfl Try.func67 (by kernel_rfl) rfl #[.int .i64 a1, .int .i64 1, .int .i64 1000000000000] rfl (by (try simp only [List.map_toArray, List.map_cons, List.map_nil]); first | done | rfl | (simp only [List.length_drop, List.length_take]; rfl)) ?_; (with_reducible refine (spec_l1In.calls a1 1 1000000000000 false _ A3.out).mono ?_); rintro e w' ⟨rfl, ⟨nd, rfl⟩⟩; refine ⟨_, rfl, ?_⟩))
    go_ret
    exact ⟨by first | rfl | (simp; done) | (simp [*]; done), by repeat (first | exact Drawn0.refl _ | apply Drawn0.step)⟩

/-! ### spec_Hash: function 59 -/
def spec_Hash.l0 : Nat → List Int → Int → Int → Option (Int)
  | 0, _, _, _ => none
  | k + 1, x0, x3, x4 => if x4 < (x0.length : Int) then (if 0 ≤ x4 then ((spec_Mod.f (rd x0 x4) 2147483647).bind fun t250 => (spec_Hash.l0 k x0 (Int.tmod (wrap64 ((wrap64 ((wrap64 (x3 * 1000003)) + t250)) + 13)) 2147483647) (wrap64 (x4 + 1)))) else (none)) else (some x3)
def spec_Hash.f (k : Nat) (l0 : List Int) : Option (Int) := spec_Hash.l0 k l0 11 0
theorem spec_Hash.mono_l : ∀ k, (∀ y0 y1 y2, LeO (spec_Hash.l0 k y0 y1 y2) (spec_Hash.l0 (k + 1) y0 y1 y2))
  | 0 => fun _ _ _ r h => by simp [spec_Hash.l0] at h
  | k + 1 => by
    have ih0 := spec_Hash.mono_l k
    · intro y0 y1 y2
      unfold spec_Hash.l0
      repeat' first
      | (with_reducible exact ih0 _ _ _)
      | (with_reducible exact LeO.refl _)
      | (with_reducible exact LeO.none _)
      | (with_reducible refine LeO.ite ?_ ?_)
      | (with_reducible refine LeO.bind ?_ (fun _ => ?_))
      | exact ih0 _ _ _
      | exact LeO.none _
      | refine LeO.ite ?_ ?_
      | refine LeO.bind ?_ (fun _ => ?_)
theorem spec_Hash.mono : ∀ a0 k, LeO (spec_Hash.f k a0) (spec_Hash.f (k + 1) a0) := by
  intro a0 k
  have ih0 := spec_Hash.mono_l k
  unfold spec_Hash.f
  repeat' first
      | (with_reducible exact ih0 _ _ _)
      | (with_reducible exact LeO.refl _)
      | (with_reducible exact LeO.none _)
      | (with_reducible refine LeO.ite ?_ ?_)
      | (with_reducible refine LeO.bind ?_ (fun _ => ?_))
      | exact ih0 _ _ _
      | exact LeO.none _
      | refine LeO.ite ?_ ?_
      | refine LeO.bind ?_ (fun _ => ?_)
set_option maxHeartbeats 8000000 in
set_option maxRecDepth 100000 in
theorem spec_Hash.calls (k : Nat) (A0 : Option Addr) (c0 : Nat) (l0 : List Int) (r : Int) (w : World) (hr0 : Kd.C (Kd.int .i64) w A0 l0.length l0) (hc0 : l0.length ≤ c0) (h : spec_Hash.f k l0 = some r) :
    Calls Try.prog 59 #[.slice A0 l0.length c0] w fun e w' => e = .returned (.int .i64 r) ∧ Drawn0 w w' := by
  have HR0 := Aside0.mk hr0
  have HC0 := Aside0.mk hc0
  clear hr0 hc0
  have H : (spec_Hash.l0 k l0 11 0) = some r := h
  clear h
  have H' := Aside0.mk H
  clear H
  go_enter Try.func59, Try.ntmps59
  go_wp2
  go_loopg [3, 4] k (fun kq v3 v4 w' => ∃ (x3_1 : Int) (x4_1 : Int), v3 = .int .i64 x3_1 ∧ v4 = .int .i64 x4_1 ∧ Aside0 (spec_Hash.l0 kq l0 x3_1 x4_1 = some r) ∧ Aside0 (kq ≤ k) ∧ Drawn0 w w')
  case atStart => exact ⟨(11), (0), (by first | rfl | (simp; done) | (simp [*]; done)), (by first | rfl | (simp; done) | (simp [*]; done)), H', ⟨Nat.le_refl _⟩, by repeat (first | exact Drawn0.refl _ | apply Drawn0.step)⟩
  case round =>
    clear H'
    obtain ⟨x3_1, x4_1, rfl, rfl, HA, HK1, ⟨m1, rfl⟩⟩ := hrel
    cases gk with
    | zero => exact absurd HA.out (by simp [spec_Hash.l0])
    | succ k1 =>
      have H := HA.out
      clear HA
      simp only [spec_Hash.l0] at H
      by_cases c2 : x4_1 < (l0.length : Int)
      · rw [if_pos c2] at H
        have c2b0 : decide (x4_1 < (l0.length : Int)) = true := decide_eq_true c2
        clear c2
        by_cases c3 : 0 ≤ x4_1
        · rw [if_pos c3] at H
          have c3b0 : decide (0 ≤ x4_1) = true := decide_eq_true c3
          clear c3
          replace H := Option.bind_eq_some_iff.mp H
          obtain ⟨t250, A40, H⟩ := H
          replace H : (spec_Hash.l0 k1 l0 (Int.tmod (wrap64 ((wrap64 ((wrap64 (x3_1 * 1000003)) + t250)) + 13)) 2147483647) (wrap64 (x4_1 + 1))) = some r := H
          have A4 := Aside0.mk A40
          clear A40
          have H' := Aside0.mk H
          clear H
          have p249 : 0 ≤ (x4_1 : Int) := of_decide_eq_true (by first | (with_reducible assumption) | assumption)
          have q249 : x4_1 < (l0.length : Int) := of_decide_eq_true (by first | (with_reducible assumption) | assumption)
          obtain ⟨ad249, e249, hx249_0⟩ := Kd.at_int HR0.out x4_1 p249 q249
          cases e249
          replace p249 := eq_true p249
          replace q249 := eq_true q249
          go_wp2_with (first | ((with_reducible refine gate_callee (f := 79) rfl ?_); refine goesL_ (some 17) rfl rfl Try.func79 (by kernel_rfl) rfl #[.int .i64 (rd l0 x4_1), .int .i64 2147483647] rfl (by (try simp only [List.map_toArray, List.map_cons, List.map_nil]); first | done | rfl | (simp only [List.length_drop, List.length_take]; rfl)) ?_; (with_reducible refine (spec_Mod.calls (rd l0 x4_1) 2147483647 t250 _ A4.out).mono ?_); rintro e w' ⟨rfl, ⟨nd, rfl⟩⟩; refine ⟨_, rfl, ?_⟩))
          go_roundg k1
          case measure => have := HK1.out; omega
          case rel => exact ⟨(Int.tmod (wrap64 ((wrap64 ((wrap64 (x3_1 * 1000003)) + t250)) + 13)) 2147483647), (wrap64 (x4_1 + 1)), (by first | rfl | (simp; done) | (simp [*]; done)), (by first | rfl | (simp; done) | (simp [*]; done)), H', ⟨by have := HK1.out; omega⟩, by repeat (first | exact Drawn0.refl _ | apply Drawn0.step)⟩
        · rw [if_neg c3] at H
          exact absurd H (by simp)
      · rw [if_neg c2] at H
        have c2b0 : decide (x4_1 < (l0.length : Int)) = false := decide_eq_false c2
        clear c2
        obtain rfl := Option.some.inj H
        go_wp2
        go_ret
        exact ⟨by first | rfl | (simp; done) | (simp [*]; done), by repeat (first | exact Drawn0.refl _ | apply Drawn0.step)⟩

/-! ### spec_ResourceInts: function 60 -/
def spec_ResourceInts.f (a0_0 : Int) (l0_1 : List Int) (a0_2 : Int) (a0_3 : Int) (a0_4 : Int) : Option (List Int) := (some (([a0_0, a0_2, a0_3, a0_4, (l0_1.length : Int)] : List Int) : List Int)).bind fun y252 => (if y252.length + l0_1.length < 17592186044416 then (some (y252 ++ l0_1)) else (none))
set_option maxHeartbeats 8000000 in
set_option maxRecDepth 100000 in
theorem spec_ResourceInts.calls (a0_0 : Int) (A0_1 : Option Addr) (c0_1 : Nat) (l0_1 : List Int) (a0_2 : Int) (a0_3 : Int) (a0_4 : Int) (r : List Int) (w : World) (hr0_1 : Kd.C (Kd.int .i64) w A0_1 l0_1.length l0_1) (hc0_1 : l0_1.length ≤ c0_1) (h : spec_ResourceInts.f a0_0 l0_1 a0_2 a0_3 a0_4 = some r) :
    Calls Try.prog 60 #[.agg #[.int .i64 a0_0, .slice A0_1 l0_1.length c0_1, .int .i64 a0_2, .int .i64 a0_3, .int .i64 a0_4]] w fun e w' => ∃ v0_ : Value, e = .returned (v0_) ∧ Kd.R (Kd.int .i64) 3 w' w.heap.size (fun _ => True) v0_ r ∧ Below w.heap.size w w' := by
  have hu36 := Try.underlying36
  have HR0_1 := Aside0.mk hr0_1
  have HC0_1 := Aside0.mk hc0_1
  clear hr0_1 hc0_1
  have HB := Aside0.mk (Below.refl w.heap.size w)
  have H : ((some (([a0_0, a0_2, a0_3, a0_4, (l0_1.length : Int)] : List Int) : List Int)).bind fun y252 => (if y252.length + l0_1.length < 17592186044416 then (some (y252 ++ l0_1)) else (none))) = some r := h
  clear h
  obtain ⟨y252, hy252⟩ : ∃ y_ : List Int, y_ = (([a0_0, a0_2, a0_3, a0_4, (l0_1.length : Int)] : List Int)) := ⟨_, rfl⟩
  replace H : (if y252.length + l0_1.length < 17592186044416 then (some (y252 ++ l0_1)) else (none)) = some r := by first | (rw [hy252]; with_reducible exact H) | (have H2_ := (Option.bind_some _ _).symm.trans H; rw [hy252]; with_reducible exact H2_) | (have H2_ := (Option.bind_some _ _).symm.trans H; with_reducible exact H2_) | with_reducible exact H | (rw [hy252]; exact H) | exact H
  have Ny252 := Aside0.mk hy252
  clear hy252
  by_cases c2 : y252.length + l0_1.length < 17592186044416
  · rw [if_pos c2] at H
    have LMc2 := Aside0.mk c2
    clear c2
    obtain ⟨y255, hy255⟩ : ∃ y_ : List Int, y_ = (y252 ++ l0_1) := ⟨_, rfl⟩
    replace H : (some y255) = some r := by first | (rw [hy255]; with_reducible exact H) | (have H2_ := (Option.bind_some _ _).symm.trans H; rw [hy255]; with_reducible exact H2_) | (have H2_ := (Option.bind_some _ _).symm.trans H; with_reducible exact H2_) | with_reducible exact H | (rw [hy255]; exact H) | exact H
    have Ny255 := Aside0.mk hy255
    clear hy255
    obtain rfl := Option.some.inj H
    go_enter Try.func60, Try.ntmps60
    go_wp2_with (first | ((with_reducible refine gate_dst (N := 1) rfl ?_); refine box_event ?hg (N := 1) ?hd (cs := #[.int .i64 a0_0, .slice A0_1 l0_1.length c0_1, .int .i64 a0_2, .int .i64 a0_3, .int .i64 a0_4]) (t := 36) ?hr ?_; (case hd => rfl); (case hg => rfl); (case hr => first | (go_simp; done) | (go_simp; rfl)); intro gb251 hg w3 hbox hb; have n0_ := Aside0.mk (below_step (by repeat (first | (with_reducible first | exact HB.out | apply below_alloc | apply pw_below_drewN | apply below_drew1) | exact HB.out)) hb); have n1_ := Aside0.mk (hbox); have n2_ := Aside0.mk ((by rw [hg]; exact (below_size (by repeat (first | (with_reducible first | exact HB.out | apply below_alloc | apply pw_below_drewN | apply below_drew1) | exact HB.out))) : w.heap.size ≤ gb251)); have n3_ := Aside0.mk ((by rw [hg]; exact (below_size (by repeat (first | (with_reducible first | exact HB.out | apply below_alloc | apply pw_below_drewN | apply below_drew1) | exact HB.out))) : w.heap.size ≤ gb251)); clear HB; have HB := n0_; have BK251 := n1_; have GW251 := n2_; have GE251 := n3_; clear n0_ n1_ n2_ n3_; clear hb hbox hg; have hcz4_0 : w3.cell? ⟨gb251, 0, none⟩ = some (.int .i64 a0_0) := (blk_cell BK251.out 0).trans rfl; have hcz4_1 : w3.cell? ⟨gb251, 1, none⟩ = some (.slice A0_1 l0_1.length c0_1) := (blk_cell BK251.out 1).trans rfl; have hcz4_2 : w3.cell? ⟨gb251, 2, none⟩ = some (.int .i64 a0_2) := (blk_cell BK251.out 2).trans rfl; have hcz4_3 : w3.cell? ⟨gb251, 3, none⟩ = some (.int .i64 a0_3) := (blk_cell BK251.out 3).trans rfl; have hcz4_4 : w3.cell? ⟨gb251, 4, none⟩ = some (.int .i64 a0_4) := (blk_cell BK251.out 4).trans rfl; have hfz4_0 := blk_frozen BK251.out 0; have hfz4_1 := blk_frozen BK251.out 1; have hfz4_2 := blk_frozen BK251.out 2; have hfz4_3 := blk_frozen BK251.out 3; have hfz4_4 := blk_frozen BK251.out 4) | ((with_reducible refine gate_dst (N := 17) rfl ?_); refine Kd.R_lit (Kd.int .i64) _ 3 ?hg (N := 17) ?hd (xs := ([a0_0, a0_2, a0_3, a0_4, (l0_1.length : Int)] : List Int)) (inner := [.int .i64 a0_0, .int .i64 a0_2, .int .i64 a0_3, .int .i64 a0_4, .int .i64 (l0_1.length : Int)]) (ok := fun _ => True) (okp := fun _ => True) ?hr ?hp (fun _ hk => hk) trivial (Below.refl _ _) (Nat.le_refl _) (by simp) ?_; (case hd => rfl); (case hg => rfl); (case hr => first | (go_simp; done) | (go_simp; rfl)); (case hp => exact (Reps.one (show Kd.M (Kd.int .i64) _ _ _ a0_0 [.int .i64 a0_0] from rfl) (Reps.one (show Kd.M (Kd.int .i64) _ _ _ a0_2 [.int .i64 a0_2] from rfl) (Reps.one (show Kd.M (Kd.int .i64) _ _ _ a0_3 [.int .i64 a0_3] from rfl) (Reps.one (show Kd.M (Kd.int .i64) _ _ _ a0_4 [.int .i64 a0_4] from rfl) (Reps.one (show Kd.M (Kd.int .i64) _ _ _ (l0_1.length : Int) [.int .i64 (l0_1.length : Int)] from rfl) (Reps.none _ _))))))); intro v253 w5 ho6 hb hg_ hnew_; clear hg_ hnew_; (first | rw [← Ny252.out] at ho6 | (simp only [Int.reduceToNat] at ho6; rw [← Ny252.out] at ho6)); have n0_ := Aside0.mk (Kd.R_lower ho6 (below_size (by repeat (first | (with_reducible first | exact HB.out | apply below_alloc | apply pw_below_drewN | apply below_drew1 | refine below_set ?_ GE251.out) | exact HB.out)))); have n1_ := Aside0.mk (blk_below (g := gb251) (o := .cells #[.int .i64 a0_0, .slice A0_1 l0_1.length c0_1, .int .i64 a0_2, .int .i64 a0_3, .int .i64 a0_4] 36 (0, 0)) (by (with_reducible repeat (first | refine blk_drewN ?_ _ | refine blk_drew ?_ | refine blk_alloc ?_ _)); exact BK251.out) hb); have n2_ := Aside0.mk (below_step (by repeat (first | (with_reducible first | exact HB.out | apply below_alloc | apply pw_below_drewN | apply below_drew1 | refine below_set ?_ GE251.out) | exact HB.out)) hb); clear BK251; clear HB; have HO254 := n0_; have BK251 := n1_; have HB := n2_; clear n0_ n1_ n2_; clear hb ho6; have hcz7_0 : w5.cell? ⟨gb251, 0, none⟩ = some (.int .i64 a0_0) := (blk_cell BK251.out 0).trans rfl; have hcz7_1 : w5.cell? ⟨gb251, 1, none⟩ = some (.slice A0_1 l0_1.length c0_1) := (blk_cell BK251.out 1).trans rfl; have hcz7_2 : w5.cell? ⟨gb251, 2, none⟩ = some (.int .i64 a0_2) := (blk_cell BK251.out 2).trans rfl; have hcz7_3 : w5.cell? ⟨gb251, 3, none⟩ = some (.int .i64 a0_3) := (blk_cell BK251.out 3).trans rfl; have hcz7_4 : w5.cell? ⟨gb251, 4, none⟩ = some (.int .i64 a0_4) := (blk_cell BK251.out 4).trans rfl; have hfz7_0 := blk_frozen BK251.out 0; have hfz7_1 := blk_frozen BK251.out 1; have hfz7_2 := blk_frozen BK251.out 2; have hfz7_3 := blk_frozen BK251.out 3; have hfz7_4 := blk_frozen BK251.out 4) | ((with_reducible refine gate_builtin (b := .append) (xs := #[.tmp 17, .tmp 19]) rfl ?_); at_builtin; refine Kd.R_append_rows (Kd.int .i64) (w0 := w) w.heap.size rfl (.tmp 17) (.tmp 19) 23 3 (.int .i64 0) 8 rfl Try.underlying23 info3 rfl (by decide) (by omega) v253 y252 l0_1 _ _ _ (fun _ => True) (fun _ => False) rfl rfl ?aO ?aR (fun _ _ h => h) (fun _ h => h.elim) ?aF ?aB ?aS ?aL ?_; (case aR => repeat (first | exact (Kd.C_below HR0_1.out HB.out) | (with_reducible refine Kd.C_alloc ?_ _) | (with_reducible refine Kd.C_drewN ?_ _) | (with_reducible refine Kd.C_drew ?_))); (case aB => exact (by repeat (first | (with_reducible first | exact HB.out | apply below_alloc | apply pw_below_drewN | apply below_drew1 | refine below_set ?_ GE251.out) | exact HB.out))); (case aF => exact (fun _ _ => trivial)); (case aO => exact (by (with_reducible repeat (first | apply Kd.R_alloc | apply Kd.R_drewN | apply Kd.R_drew)); exact HO254.out)); (case aS => exact (below_size (by repeat (first | (with_reducible first | exact HB.out | apply below_alloc | apply pw_below_drewN | apply below_drew1 | refine below_set ?_ GE251.out) | exact HB.out)))); (case aL => have := LMc2.out; omega); intro v256 w8 ho hb hg hat; rw [← Ny255.out] at ho; have n0_ := Aside0.mk (blk_grown (g := gb251) (o := .cells #[.int .i64 a0_0, .slice A0_1 l0_1.length c0_1, .int .i64 a0_2, .int .i64 a0_3, .int .i64 a0_4] 36 (0, 0)) (by (with_reducible repeat (first | refine blk_drewN ?_ _ | refine blk_drew ?_ | refine blk_alloc ?_ _)); exact BK251.out) hg (Kd.R_ne HO254.out BK251.out (by decide))); have n1_ := Aside0.mk (hb); have n2_ := Aside0.mk (ho); clear BK251; clear HB; clear HO254; have BK251 := n0_; have HB := n1_; have HO257 := n2_; clear n0_ n1_ n2_; clear ho hb hg hat))
    go_ret
    exact ⟨_, by first | rfl | (simp [errW_none, errW_some] <;> rfl) | (simp [*, errW_none, errW_some] <;> rfl), by (with_reducible repeat (first | apply Kd.R_alloc | apply Kd.R_drewN | apply Kd.R_drew)); exact HO257.out, by repeat (first | (with_reducible first | exact HB.out | apply below_alloc | apply pw_below_drewN | apply below_drew1 | refine below_set ?_ GE251.out) | exact HB.out)⟩
  · rw [if_neg c2] at H
    exact absurd H (by simp)

end Go.Proofs.Ytlpfobakbgipbaa.QFnExactTakePart
