/- The Go functions that the law FnExactFollowAt comes to, each as a Lean function, with a proof that the call does what it says; written by a program of this session over the print of the kit. No conditions. -/
import Derived.Test.YtgcidlnhgpjdpadQFnExactFollowAtx0
import Derived.Test.YtgcidlnhgpjdpadQFnExactFollowAtx1
import Derived.Test.YtgcidlnhgpjdpadQFnExactFollowAtx5
namespace Go.Proofs.Ytgcidlnhgpjdpad.QFnExactFollowAt
open Go.RowKit Go.Proofs.YtgcidlnhgpjdpadW.PrintWords Go.Proofs.YtgcidlnhgpjdpadW.PrintLast Go.Proofs.YtgcidlnhgpjdpadW.PrintMore
attribute [local go_sem] max2_int min2_int max_two min_two max_three min_three max_four min_four   -- for this text's walks alone
set_option linter.unusedVariables false
set_option linter.unusedSimpArgs false
set_option maxHeartbeats 8000000
set_option maxRecDepth 100000
attribute [local go_sem high] eqA37
def impl_AnswerAt.l0 : Nat → List (S82) → Int → Int → Int → Int → Int → Option (Int × List Int × Int × Int × Int)
  | 0, _, _, _, _, _, _ => none
  | k + 1, x0, x2, x7, x234000, x234001, x234002 => if x7 ≥ 0 then (if 0 ≤ x7 then (if x7 < (x0.length : Int) then (if (((rd_T82 x0 x7).f0.f0) == x234000 && (((rd_T82 x0 x7).f0.f1) == x234001 && (((rd_T82 x0 x7).f0.f2) == x234002))) = true then (if ((rd_T82 x0 x7).f1) ≤ x2 then ((impl_copyResource.f ((rd_T82 x0 x7).f2.f0) ((rd_T82 x0 x7).f2.f1) ((rd_T82 x0 x7).f2.f2.f0) ((rd_T82 x0 x7).f2.f2.f1) ((rd_T82 x0 x7).f2.f2.f2)).bind fun bt238 => (some (bt238.1, bt238.2.1, bt238.2.2.1, bt238.2.2.2.1, bt238.2.2.2.2))) else (impl_AnswerAt.l0 k x0 x2 (wrap64 (x7 - 1)) x234000 x234001 x234002)) else (impl_AnswerAt.l0 k x0 x2 (wrap64 (x7 - 1)) x234000 x234001 x234002)) else (none)) else (none)) else (some (4, ([] : List Int), 0, 0, 0))
def impl_AnswerAt.f (k : Nat) (l0 : List (S82)) (a1_0 : Int) (a1_1 : Int) (a1_2 : Int) (a2 : Int) : Option (Int × List Int × Int × Int × Int) := impl_AnswerAt.l0 k l0 a2 (wrap64 ((l0.length : Int) - 1)) a1_0 a1_1 a1_2
theorem impl_AnswerAt.mono_l : ∀ k, (∀ y0 y1 y2 y3 y4 y5, LeO (impl_AnswerAt.l0 k y0 y1 y2 y3 y4 y5) (impl_AnswerAt.l0 (k + 1) y0 y1 y2 y3 y4 y5))
  | 0 => fun _ _ _ _ _ _ r h => by simp [impl_AnswerAt.l0] at h
  | k + 1 => by
    have ih0 := impl_AnswerAt.mono_l k
    · intro y0 y1 y2 y3 y4 y5
      unfold impl_AnswerAt.l0
      repeat' first
      | (with_reducible exact ih0 _ _ _ _ _ _)
      | (with_reducible exact LeO.refl _)
      | (with_reducible exact LeO.none _)
      | (with_reducible refine LeO.ite ?_ ?_)
      | (with_reducible refine LeO.bind ?_ (fun _ => ?_))
      | exact ih0 _ _ _ _ _ _
      | exact LeO.none _
      | refine LeO.ite ?_ ?_
      | refine LeO.bind ?_ (fun _ => ?_)
theorem impl_AnswerAt.mono : ∀ a0 a1 a2 a3 a4 k, LeO (impl_AnswerAt.f k a0 a1 a2 a3 a4) (impl_AnswerAt.f (k + 1) a0 a1 a2 a3 a4) := by
  intro a0 a1 a2 a3 a4 k
  have ih0 := impl_AnswerAt.mono_l k
  unfold impl_AnswerAt.f
  repeat' first
      | (with_reducible exact ih0 _ _ _ _ _ _)
      | (with_reducible exact LeO.refl _)
      | (with_reducible exact LeO.none _)
      | (with_reducible refine LeO.ite ?_ ?_)
      | (with_reducible refine LeO.bind ?_ (fun _ => ?_))
      | exact ih0 _ _ _ _ _ _
      | exact LeO.none _
      | refine LeO.ite ?_ ?_
      | refine LeO.bind ?_ (fun _ => ?_)
theorem impl_AnswerAt.calls (k : Nat) (A0 : Option Addr) (c0 : Nat) (l0 : List (S82)) (a1_0 : Int) (a1_1 : Int) (a1_2 : Int) (a2 : Int) (r1 : Int) (r2 : List Int) (r3 : Int) (r4 : Int) (r5 : Int) (w : World) (hr0 : Kd.C k82 w A0 l0.length l0) (hc0 : l0.length ≤ c0) (h : impl_AnswerAt.f k l0 a1_0 a1_1 a1_2 a2 = some (r1,r2,r3,r4,r5)) :
  Calls Try.prog 20 #[.slice A0 l0.length c0,.agg #[.int .i64 a1_0,.int .i64 a1_1,.int .i64 a1_2],.int .i64 a2] w fun e w' => ∃ v1_ : Value,e = .returned (.agg #[.int .i64 r1,v1_,.int .i64 r3,.int .i64 r4,.int .i64 r5]) ∧ Kd.R (Kd.int .i64) 3 w' w.heap.size (fun _ => True) v1_ r2 ∧ Below w.heap.size w w':=by
 have hu37:=Try.underlying37
 have hu39:=Try.underlying39
 have HR0:=Aside0.mk hr0;have HC0:=Aside0.mk hc0;clear hr0 hc0;have HB:=Aside0.mk (Below.refl w.heap.size w)
 have H : (impl_AnswerAt.l0 k l0 a2 (wrap64 ((l0.length : Int) - 1)) a1_0 a1_1 a1_2) = some (r1,r2,r3,r4,r5):=h
 clear h;have H':=Aside0.mk H;clear H;go_enter Try.func20,Try.ntmps20
 go_wp2_with (first|((with_reducible refine gate_dst (N:=4) rfl ?_);refine box_event ?hg (N:=4) ?hd (cs:=#[.int .i64 a1_0,.int .i64 a1_1,.int .i64 a1_2]) (t:=37) ?hr ?_;(case hd => rfl);(case hg => rfl);(case hr => first|(go_simp;done)|(go_simp;rfl));intro gb233 hg w4 hbox hb;have n0_:=Aside0.mk (below_step (by repeat (first|(with_reducible first|exact HB.out|apply below_alloc|apply pw_below_drewN|apply below_drew1)|exact HB.out)) hb);have n1_:=Aside0.mk (hbox);have n2_:=Aside0.mk ((by rw [hg];exact (below_size (by repeat (first|(with_reducible first|exact HB.out|apply below_alloc|apply pw_below_drewN|apply below_drew1)|exact HB.out))) : w.heap.size ≤ gb233));have n3_:=Aside0.mk ((by rw [hg];exact (below_size (by repeat (first|(with_reducible first|exact HB.out|apply below_alloc|apply pw_below_drewN|apply below_drew1)|exact HB.out))) : w.heap.size ≤ gb233));clear HB;have HB:=n0_;have BK233:=n1_;have GW233:=n2_;have GE233:=n3_;clear n0_ n1_ n2_ n3_;clear hb hbox hg)|((with_reducible refine gate_dst (N:=6) rfl ?_);refine box_event ?hg (N:=6) ?hd (cs:=#[.int .i64 0,.slice none 0 0,.int .i64 0,.int .i64 0,.int .i64 0]) (t:=39) ?hr ?_;(case hd => rfl);(case hg => rfl);(case hr => first|(go_simp;done)|(go_simp;rfl));intro gb234 hg w5 hbox hb;have n0_:=Aside0.mk (blk_below (g:=gb233) (o:=.cells #[.int .i64 a1_0,.int .i64 a1_1,.int .i64 a1_2] 37 (0,0)) (by (with_reducible repeat (first|refine blk_drewN ?_ _|refine blk_drew ?_|refine blk_alloc ?_ _));exact BK233.out) hb);have n1_:=Aside0.mk (below_step (by repeat (first|(with_reducible first|exact HB.out|apply below_alloc|apply pw_below_drewN|apply below_drew1|refine below_set ?_ GE233.out)|exact HB.out)) hb);have n2_:=Aside0.mk (hbox);have n3_:=Aside0.mk ((by rw [hg];exact (below_size (by repeat (first|(with_reducible first|exact HB.out|apply below_alloc|apply pw_below_drewN|apply below_drew1|refine below_set ?_ GE233.out)|exact HB.out))) : w.heap.size ≤ gb234));have n4_:=Aside0.mk ((by rw [hg];exact (below_size (by repeat (first|(with_reducible first|exact HB.out|apply below_alloc|apply pw_below_drewN|apply below_drew1|refine below_set ?_ GE233.out)|exact HB.out))) : w.heap.size ≤ gb234));have n5_:=Aside0.mk ((by rw [hg];exact Nat.ne_of_lt (blk_lt (g:=gb233) (o:=.cells #[.int .i64 a1_0,.int .i64 a1_1,.int .i64 a1_2] 37 (0,0)) (by (with_reducible repeat (first|refine blk_drewN ?_ _|refine blk_drew ?_|refine blk_alloc ?_ _));exact BK233.out)) : gb233 ≠ gb234));have n6_:=Aside0.mk ((by rw [hg];exact Nat.ne_of_gt (blk_lt (g:=gb233) (o:=.cells #[.int .i64 a1_0,.int .i64 a1_1,.int .i64 a1_2] 37 (0,0)) (by (with_reducible repeat (first|refine blk_drewN ?_ _|refine blk_drew ?_|refine blk_alloc ?_ _));exact BK233.out)) : gb234 ≠ gb233));clear BK233;clear HB;have BK233:=n0_;have HB:=n1_;have BK234:=n2_;have GW234:=n3_;have GE234:=n4_;have NB233_234:=n5_;have NB234_233:=n6_;clear n0_ n1_ n2_ n3_ n4_ n5_ n6_;clear hb hbox hg))
 repeat (go_quiet (first|((with_reducible refine gate_dst (N:=4) rfl ?_);refine box_event ?hg (N:=4) ?hd (cs:=#[.int .i64 a1_0,.int .i64 a1_1,.int .i64 a1_2]) (t:=37) ?hr ?_;(case hd => rfl);(case hg => rfl);(case hr => first|(go_simp;done)|(go_simp;rfl));intro gb233 hg w4 hbox hb;have n0_:=Aside0.mk (below_step (by repeat (first|(with_reducible first|exact HB.out|apply below_alloc|apply pw_below_drewN|apply below_drew1)|exact HB.out)) hb);have n1_:=Aside0.mk (hbox);have n2_:=Aside0.mk ((by rw [hg];exact (below_size (by repeat (first|(with_reducible first|exact HB.out|apply below_alloc|apply pw_below_drewN|apply below_drew1)|exact HB.out))) : w.heap.size ≤ gb233));have n3_:=Aside0.mk ((by rw [hg];exact (below_size (by repeat (first|(with_reducible first|exact HB.out|apply below_alloc|apply pw_below_drewN|apply below_drew1)|exact HB.out))) : w.heap.size ≤ gb233));clear HB;have HB:=n0_;have BK233:=n1_;have GW233:=n2_;have GE233:=n3_;clear n0_ n1_ n2_ n3_;clear hb hbox hg)|((with_reducible refine gate_dst (N:=6) rfl ?_);refine box_event ?hg (N:=6) ?hd (cs:=#[.int .i64 0,.slice none 0 0,.int .i64 0,.int .i64 0,.int .i64 0]) (t:=39) ?hr ?_;(case hd => rfl);(case hg => rfl);(case hr => first|(go_simp;done)|(go_simp;rfl));intro gb234 hg w5 hbox hb;have n0_:=Aside0.mk (blk_below (g:=gb233) (o:=.cells #[.int .i64 a1_0,.int .i64 a1_1,.int .i64 a1_2] 37 (0,0)) (by (with_reducible repeat (first|refine blk_drewN ?_ _|refine blk_drew ?_|refine blk_alloc ?_ _));exact BK233.out) hb);have n1_:=Aside0.mk (below_step (by repeat (first|(with_reducible first|exact HB.out|apply below_alloc|apply pw_below_drewN|apply below_drew1|refine below_set ?_ GE233.out)|exact HB.out)) hb);have n2_:=Aside0.mk (hbox);have n3_:=Aside0.mk ((by rw [hg];exact (below_size (by repeat (first|(with_reducible first|exact HB.out|apply below_alloc|apply pw_below_drewN|apply below_drew1|refine below_set ?_ GE233.out)|exact HB.out))) : w.heap.size ≤ gb234));have n4_:=Aside0.mk ((by rw [hg];exact (below_size (by repeat (first|(with_reducible first|exact HB.out|apply below_alloc|apply pw_below_drewN|apply below_drew1|refine below_set ?_ GE233.out)|exact HB.out))) : w.heap.size ≤ gb234));have n5_:=Aside0.mk ((by rw [hg];exact Nat.ne_of_lt (blk_lt (g:=gb233) (o:=.cells #[.int .i64 a1_0,.int .i64 a1_1,.int .i64 a1_2] 37 (0,0)) (by (with_reducible repeat (first|refine blk_drewN ?_ _|refine blk_drew ?_|refine blk_alloc ?_ _));exact BK233.out)) : gb233 ≠ gb234));have n6_:=Aside0.mk ((by rw [hg];exact Nat.ne_of_gt (blk_lt (g:=gb233) (o:=.cells #[.int .i64 a1_0,.int .i64 a1_1,.int .i64 a1_2] 37 (0,0)) (by (with_reducible repeat (first|refine blk_drewN ?_ _|refine blk_drew ?_|refine blk_alloc ?_ _));exact BK233.out)) : gb234 ≠ gb233));clear BK233;clear HB;have BK233:=n0_;have HB:=n1_;have BK234:=n2_;have GW234:=n3_;have GE234:=n4_;have NB233_234:=n5_;have NB234_233:=n6_;clear n0_ n1_ n2_ n3_ n4_ n5_ n6_;clear hb hbox hg));try go_wp2_with (first|((with_reducible refine gate_dst (N:=4) rfl ?_);refine box_event ?hg (N:=4) ?hd (cs:=#[.int .i64 a1_0,.int .i64 a1_1,.int .i64 a1_2]) (t:=37) ?hr ?_;(case hd => rfl);(case hg => rfl);(case hr => first|(go_simp;done)|(go_simp;rfl));intro gb233 hg w4 hbox hb;have n0_:=Aside0.mk (below_step (by repeat (first|(with_reducible first|exact HB.out|apply below_alloc|apply pw_below_drewN|apply below_drew1)|exact HB.out)) hb);have n1_:=Aside0.mk (hbox);have n2_:=Aside0.mk ((by rw [hg];exact (below_size (by repeat (first|(with_reducible first|exact HB.out|apply below_alloc|apply pw_below_drewN|apply below_drew1)|exact HB.out))) : w.heap.size ≤ gb233));have n3_:=Aside0.mk ((by rw [hg];exact (below_size (by repeat (first|(with_reducible first|exact HB.out|apply below_alloc|apply pw_below_drewN|apply below_drew1)|exact HB.out))) : w.heap.size ≤ gb233));clear HB;have HB:=n0_;have BK233:=n1_;have GW233:=n2_;have GE233:=n3_;clear n0_ n1_ n2_ n3_;clear hb hbox hg)|((with_reducible refine gate_dst (N:=6) rfl ?_);refine box_event ?hg (N:=6) ?hd (cs:=#[.int .i64 0,.slice none 0 0,.int .i64 0,.int .i64 0,.int .i64 0]) (t:=39) ?hr ?_;(case hd => rfl);(case hg => rfl);(case hr => first|(go_simp;done)|(go_simp;rfl));intro gb234 hg w5 hbox hb;have n0_:=Aside0.mk (blk_below (g:=gb233) (o:=.cells #[.int .i64 a1_0,.int .i64 a1_1,.int .i64 a1_2] 37 (0,0)) (by (with_reducible repeat (first|refine blk_drewN ?_ _|refine blk_drew ?_|refine blk_alloc ?_ _));exact BK233.out) hb);have n1_:=Aside0.mk (below_step (by repeat (first|(with_reducible first|exact HB.out|apply below_alloc|apply pw_below_drewN|apply below_drew1|refine below_set ?_ GE233.out)|exact HB.out)) hb);have n2_:=Aside0.mk (hbox);have n3_:=Aside0.mk ((by rw [hg];exact (below_size (by repeat (first|(with_reducible first|exact HB.out|apply below_alloc|apply pw_below_drewN|apply below_drew1|refine below_set ?_ GE233.out)|exact HB.out))) : w.heap.size ≤ gb234));have n4_:=Aside0.mk ((by rw [hg];exact (below_size (by repeat (first|(with_reducible first|exact HB.out|apply below_alloc|apply pw_below_drewN|apply below_drew1|refine below_set ?_ GE233.out)|exact HB.out))) : w.heap.size ≤ gb234));have n5_:=Aside0.mk ((by rw [hg];exact Nat.ne_of_lt (blk_lt (g:=gb233) (o:=.cells #[.int .i64 a1_0,.int .i64 a1_1,.int .i64 a1_2] 37 (0,0)) (by (with_reducible repeat (first|refine blk_drewN ?_ _|refine blk_drew ?_|refine blk_alloc ?_ _));exact BK233.out)) : gb233 ≠ gb234));have n6_:=Aside0.mk ((by rw [hg];exact Nat.ne_of_gt (blk_lt (g:=gb233) (o:=.cells #[.int .i64 a1_0,.int .i64 a1_1,.int .i64 a1_2] 37 (0,0)) (by (with_reducible repeat (first|refine blk_drewN ?_ _|refine blk_drew ?_|refine blk_alloc ?_ _));exact BK233.out)) : gb234 ≠ gb233));clear BK233;clear HB;have BK233:=n0_;have HB:=n1_;have BK234:=n2_;have GW234:=n3_;have GE234:=n4_;have NB233_234:=n5_;have NB234_233:=n6_;clear n0_ n1_ n2_ n3_ n4_ n5_ n6_;clear hb hbox hg)))
 go_loopg [7] k (fun kq v7 w' => ∃ (x7_1 : Int) (x235000_1 : Int) (x235002_1 : Int) (x235003_1 : Int) (x235004_1 : Int),v7 = .int .i64 x7_1 ∧ Aside0 (impl_AnswerAt.l0 kq l0 a2 x7_1 a1_0 a1_1 a1_2 = some (r1,r2,r3,r4,r5)) ∧ Aside0 (kq ≤ k) ∧ Aside0 (w'.heap[gb233]? = some (.cells #[.int .i64 a1_0,.int .i64 a1_1,.int .i64 a1_2] 37 (0,0))) ∧ Aside0 (w'.heap[gb234]? = some (.cells #[.int .i64 x235000_1,(.slice none 0 0),.int .i64 x235002_1,.int .i64 x235003_1,.int .i64 x235004_1] 39 (0,0))) ∧ Aside0 (Below w.heap.size w w'))
 case atStart => exact ⟨(wrap64 ((l0.length : Int) - 1)),(0),(0),(0),(0),(by first|rfl|(simp;done)|(simp [*];done)),H',⟨Nat.le_refl _⟩,⟨by (with_reducible repeat (first|refine blk_drewN ?_ _|refine blk_drew ?_|refine blk_alloc ?_ _));exact BK233.out⟩,⟨by (with_reducible repeat (first|refine blk_drewN ?_ _|refine blk_drew ?_|refine blk_alloc ?_ _));exact BK234.out⟩,⟨by repeat (first|(with_reducible first|exact HB.out|apply below_alloc|apply pw_below_drewN|apply below_drew1|refine below_set ?_ GE233.out|refine below_set ?_ GE234.out)|exact HB.out)⟩⟩
 case round =>
  clear H';try clear c2
  try clear p2
  obtain ⟨x7_1,x235000_1,x235002_1,x235003_1,x235004_1,rfl,HA,HK1,BK233,BK234,HB⟩:=hrel;cases gk with
 |zero => exact absurd HA.out (by simp [impl_AnswerAt.l0])
 |succ k1 =>
   have H:=HA.out;clear HA;simp only [impl_AnswerAt.l0] at H
   by_cases c6 : x7_1 ≥ 0
   ·rw [if_pos c6] at H
    have c6b0 : decide (0 ≤ x7_1) = true:=decide_eq_true c6
    clear c6;by_cases c7 : 0 ≤ x7_1
    ·rw [if_pos c7] at H
     have c7b0 : decide (0 ≤ x7_1) = true:=decide_eq_true c7
     clear c7;by_cases c8 : x7_1 < (l0.length : Int)
     ·rw [if_pos c8] at H
      have c8b0 : decide (x7_1 < (l0.length : Int)) = true:=decide_eq_true c8
      clear c8;by_cases c9 : (((rd_T82 l0 x7_1).f0.f0) == a1_0 && (((rd_T82 l0 x7_1).f0.f1) == a1_1 && (((rd_T82 l0 x7_1).f0.f2) == a1_2))) = true
      ·rw [if_pos c9] at H
       have c9b0 : (((rd_T82 l0 x7_1).f0.f0) == a1_0 && (((rd_T82 l0 x7_1).f0.f1) == a1_1 && (((rd_T82 l0 x7_1).f0.f2) == a1_2))) = true:=c9
       (try (have c9b1 : decide (((rd_T82 l0 x7_1).f0.f0) = a1_0 && (((rd_T82 l0 x7_1).f0.f1) == a1_1 && (((rd_T82 l0 x7_1).f0.f2) == a1_2))) = true:=by simpa using c9))
       (try (have c9b2 : (((rd_T82 l0 x7_1).f0.f0) == a1_0 && (((rd_T82 l0 x7_1).f0.f1) == a1_1 && (((rd_T82 l0 x7_1).f0.f2) == a1_2))) = true:=by simpa using c9))
       clear c9;by_cases c10 : ((rd_T82 l0 x7_1).f1) ≤ a2
       ·rw [if_pos c10] at H
        have c10b0 : decide (((rd_T82 l0 x7_1).f1) ≤ a2) = true:=decide_eq_true c10
        clear c10;replace H:=Option.bind_eq_some_iff.mp H
        obtain ⟨⟨t238,t239,t242,t243,t244⟩,A110,H⟩:=H
        replace H : (some (t238,t239,t242,t243,t244)) = some (r1,r2,r3,r4,r5):=H
        have A11:=Aside0.mk A110;clear A110;simp only [Option.some.injEq,Prod.mk.injEq] at H
        obtain ⟨rfl,rfl,rfl,rfl,rfl⟩:=H;have p235 : 0 ≤ (x7_1 : Int):=of_decide_eq_true (by first|(with_reducible assumption)|assumption)
        have q235 : x7_1 < (l0.length : Int):=of_decide_eq_true (by first|(with_reducible assumption)|assumption)
        obtain ⟨ad235,A235_5,c235_5,e235,hx235_0,hx235_1,hx235_2,hx235_3,hx235_4,hx235_5,hx235_6,hx235_7,hx235_8,hl235_5,hi235_5⟩:=at_T82 HR0.out x7_1 p235 q235
        cases e235
        replace hx235_0:=(HB.out.cell (World.block_lt_of_cell? w _ hx235_0)).trans hx235_0
        replace hx235_1:=(HB.out.cell (World.block_lt_of_cell? w _ hx235_1)).trans hx235_1
        replace hx235_2:=(HB.out.cell (World.block_lt_of_cell? w _ hx235_2)).trans hx235_2
        replace hx235_3:=(HB.out.cell (World.block_lt_of_cell? w _ hx235_3)).trans hx235_3
        replace hx235_4:=(HB.out.cell (World.block_lt_of_cell? w _ hx235_4)).trans hx235_4
        replace hx235_5:=(HB.out.cell (World.block_lt_of_cell? w _ hx235_5)).trans hx235_5
        replace hx235_6:=(HB.out.cell (World.block_lt_of_cell? w _ hx235_6)).trans hx235_6
        replace hx235_7:=(HB.out.cell (World.block_lt_of_cell? w _ hx235_7)).trans hx235_7
        replace hx235_8:=(HB.out.cell (World.block_lt_of_cell? w _ hx235_8)).trans hx235_8
        have HR235_5:=Aside0.mk hi235_5;have HC235_5:=Aside0.mk hl235_5;clear hi235_5 hl235_5;replace p235:=eq_true p235
        replace q235:=eq_true q235
        have hnb12:=NB233_234.out;have hnc12:=NB234_233.out;have hcz13_0 : wr.cell? ⟨gb233,0,none⟩ = some (.int .i64 a1_0):=(blk_cell BK233.out 0).trans rfl
        have hcz13_1 : wr.cell? ⟨gb233,1,none⟩ = some (.int .i64 a1_1):=(blk_cell BK233.out 1).trans rfl
        have hcz13_2 : wr.cell? ⟨gb233,2,none⟩ = some (.int .i64 a1_2):=(blk_cell BK233.out 2).trans rfl
        have hfz13_0:=blk_frozen BK233.out 0
        have hfz13_1:=blk_frozen BK233.out 1
        have hfz13_2:=blk_frozen BK233.out 2
        have p236 : 0 ≤ (x7_1 : Int):=of_decide_eq_true (by first|(with_reducible assumption)|assumption)
        have q236 : x7_1 < (l0.length : Int):=of_decide_eq_true (by first|(with_reducible assumption)|assumption)
        obtain ⟨ad236,A236_5,c236_5,e236,hx236_0,hx236_1,hx236_2,hx236_3,hx236_4,hx236_5,hx236_6,hx236_7,hx236_8,hl236_5,hi236_5⟩:=at_T82 HR0.out x7_1 p236 q236
        obtain rfl : ad235 = ad236:=(by injection e236)
        replace hx236_0:=(HB.out.cell (World.block_lt_of_cell? w _ hx236_0)).trans hx236_0
        replace hx236_1:=(HB.out.cell (World.block_lt_of_cell? w _ hx236_1)).trans hx236_1
        replace hx236_2:=(HB.out.cell (World.block_lt_of_cell? w _ hx236_2)).trans hx236_2
        replace hx236_3:=(HB.out.cell (World.block_lt_of_cell? w _ hx236_3)).trans hx236_3
        replace hx236_4:=(HB.out.cell (World.block_lt_of_cell? w _ hx236_4)).trans hx236_4
        replace hx236_5:=(HB.out.cell (World.block_lt_of_cell? w _ hx236_5)).trans hx236_5
        replace hx236_6:=(HB.out.cell (World.block_lt_of_cell? w _ hx236_6)).trans hx236_6
        replace hx236_7:=(HB.out.cell (World.block_lt_of_cell? w _ hx236_7)).trans hx236_7
        replace hx236_8:=(HB.out.cell (World.block_lt_of_cell? w _ hx236_8)).trans hx236_8
        have HR236_5:=Aside0.mk hi236_5;have HC236_5:=Aside0.mk hl236_5;clear hi236_5 hl236_5;replace p236:=eq_true p236
        replace q236:=eq_true q236
        have ea_:=Option.some.inj (hx235_5.symm.trans hx236_5)
        injection ea_ with ea_ en_ ec_
        subst ea_
        subst ec_
        clear en_;have p237 : 0 ≤ (x7_1 : Int):=of_decide_eq_true (by first|(with_reducible assumption)|assumption)
        have q237 : x7_1 < (l0.length : Int):=of_decide_eq_true (by first|(with_reducible assumption)|assumption)
        obtain ⟨ad237,A237_5,c237_5,e237,hx237_0,hx237_1,hx237_2,hx237_3,hx237_4,hx237_5,hx237_6,hx237_7,hx237_8,hl237_5,hi237_5⟩:=at_T82 HR0.out x7_1 p237 q237
        obtain rfl : ad235 = ad237:=(by injection e237)
        replace hx237_0:=(HB.out.cell (World.block_lt_of_cell? w _ hx237_0)).trans hx237_0
        replace hx237_1:=(HB.out.cell (World.block_lt_of_cell? w _ hx237_1)).trans hx237_1
        replace hx237_2:=(HB.out.cell (World.block_lt_of_cell? w _ hx237_2)).trans hx237_2
        replace hx237_3:=(HB.out.cell (World.block_lt_of_cell? w _ hx237_3)).trans hx237_3
        replace hx237_4:=(HB.out.cell (World.block_lt_of_cell? w _ hx237_4)).trans hx237_4
        replace hx237_5:=(HB.out.cell (World.block_lt_of_cell? w _ hx237_5)).trans hx237_5
        replace hx237_6:=(HB.out.cell (World.block_lt_of_cell? w _ hx237_6)).trans hx237_6
        replace hx237_7:=(HB.out.cell (World.block_lt_of_cell? w _ hx237_7)).trans hx237_7
        replace hx237_8:=(HB.out.cell (World.block_lt_of_cell? w _ hx237_8)).trans hx237_8
        have HR237_5:=Aside0.mk hi237_5;have HC237_5:=Aside0.mk hl237_5;clear hi237_5 hl237_5;replace p237:=eq_true p237
        replace q237:=eq_true q237
        have ea_:=Option.some.inj (hx235_5.symm.trans hx237_5)
        injection ea_ with ea_ en_ ec_
        subst ea_
        subst ec_
        clear en_;go_wp2_with (first|(go_at_call 54;(with_reducible refine (impl_copyResource.calls ((rd_T82 l0 x7_1).f2.f0) _ _ ((rd_T82 l0 x7_1).f2.f1) ((rd_T82 l0 x7_1).f2.f2.f0) ((rd_T82 l0 x7_1).f2.f2.f1) ((rd_T82 l0 x7_1).f2.f2.f2) t238 t239 t242 t243 t244 _ ?side1 ?side2 A11.out).mono ?_);(case side1 => repeat (first|exact (Kd.C_below HR237_5.out HB.out)|(with_reducible refine Kd.C_alloc ?_ _)|(with_reducible refine Kd.C_drewN ?_ _)|(with_reducible refine Kd.C_drew ?_)));(case side2 => exact HC237_5.out);rintro e w14 ⟨v240,rfl,ho0,hb⟩;have n0_:=Aside0.mk (Kd.R_lower ho0 (below_size (by repeat (first|(with_reducible first|exact HB.out|apply below_alloc|apply pw_below_drewN|apply below_drew1|refine below_set ?_ GE233.out|refine below_set ?_ GE234.out)|exact HB.out))));have n1_:=Aside0.mk (blk_below (g:=gb233) (o:=.cells #[.int .i64 a1_0,.int .i64 a1_1,.int .i64 a1_2] 37 (0,0)) (by (with_reducible repeat (first|refine blk_drewN ?_ _|refine blk_drew ?_|refine blk_alloc ?_ _));exact BK233.out) hb);have n2_:=Aside0.mk (blk_below (g:=gb234) (o:=.cells #[.int .i64 x235000_1,.slice none 0 0,.int .i64 x235002_1,.int .i64 x235003_1,.int .i64 x235004_1] 39 (0,0)) (by (with_reducible repeat (first|refine blk_drewN ?_ _|refine blk_drew ?_|refine blk_alloc ?_ _));exact BK234.out) hb);have n3_:=Aside0.mk (below_step (by repeat (first|(with_reducible first|exact HB.out|apply below_alloc|apply pw_below_drewN|apply below_drew1|refine below_set ?_ GE233.out|refine below_set ?_ GE234.out)|exact HB.out)) hb);clear BK233;clear BK234;clear HB;have HO241:=n0_;have BK233:=n1_;have BK234:=n2_;have HB:=n3_;clear n0_ n1_ n2_ n3_;(try clear hb);(try clear hk);(try clear ho0);have hcz15_0 : w14.cell? ⟨gb234,0,none⟩ = some (.int .i64 x235000_1):=(blk_cell BK234.out 0).trans rfl;have hcz15_1 : w14.cell? ⟨gb234,1,none⟩ = some (.slice none 0 0):=(blk_cell BK234.out 1).trans rfl;have hcz15_2 : w14.cell? ⟨gb234,2,none⟩ = some (.int .i64 x235002_1):=(blk_cell BK234.out 2).trans rfl;have hcz15_3 : w14.cell? ⟨gb234,3,none⟩ = some (.int .i64 x235003_1):=(blk_cell BK234.out 3).trans rfl;have hcz15_4 : w14.cell? ⟨gb234,4,none⟩ = some (.int .i64 x235004_1):=(blk_cell BK234.out 4).trans rfl;have hfz15_0:=blk_frozen BK234.out 0;have hfz15_1:=blk_frozen BK234.out 1;have hfz15_2:=blk_frozen BK234.out 2;have hfz15_3:=blk_frozen BK234.out 3;have hfz15_4:=blk_frozen BK234.out 4;obtain ⟨Ao16,co16,eo16⟩:=Kd.R_slice HO241.out;subst eo16))
        repeat (go_quiet (first|(go_at_call 54;(with_reducible refine (impl_copyResource.calls ((rd_T82 l0 x7_1).f2.f0) _ _ ((rd_T82 l0 x7_1).f2.f1) ((rd_T82 l0 x7_1).f2.f2.f0) ((rd_T82 l0 x7_1).f2.f2.f1) ((rd_T82 l0 x7_1).f2.f2.f2) t238 t239 t242 t243 t244 _ ?side1 ?side2 A11.out).mono ?_);(case side1 => repeat (first|exact (Kd.C_below HR237_5.out HB.out)|(with_reducible refine Kd.C_alloc ?_ _)|(with_reducible refine Kd.C_drewN ?_ _)|(with_reducible refine Kd.C_drew ?_)));(case side2 => exact HC237_5.out);rintro e w14 ⟨v240,rfl,ho0,hb⟩;have n0_:=Aside0.mk (Kd.R_lower ho0 (below_size (by repeat (first|(with_reducible first|exact HB.out|apply below_alloc|apply pw_below_drewN|apply below_drew1|refine below_set ?_ GE233.out|refine below_set ?_ GE234.out)|exact HB.out))));have n1_:=Aside0.mk (blk_below (g:=gb233) (o:=.cells #[.int .i64 a1_0,.int .i64 a1_1,.int .i64 a1_2] 37 (0,0)) (by (with_reducible repeat (first|refine blk_drewN ?_ _|refine blk_drew ?_|refine blk_alloc ?_ _));exact BK233.out) hb);have n2_:=Aside0.mk (blk_below (g:=gb234) (o:=.cells #[.int .i64 x235000_1,.slice none 0 0,.int .i64 x235002_1,.int .i64 x235003_1,.int .i64 x235004_1] 39 (0,0)) (by (with_reducible repeat (first|refine blk_drewN ?_ _|refine blk_drew ?_|refine blk_alloc ?_ _));exact BK234.out) hb);have n3_:=Aside0.mk (below_step (by repeat (first|(with_reducible first|exact HB.out|apply below_alloc|apply pw_below_drewN|apply below_drew1|refine below_set ?_ GE233.out|refine below_set ?_ GE234.out)|exact HB.out)) hb);clear BK233;clear BK234;clear HB;have HO241:=n0_;have BK233:=n1_;have BK234:=n2_;have HB:=n3_;clear n0_ n1_ n2_ n3_;(try clear hb);(try clear hk);(try clear ho0);have hcz15_0 : w14.cell? ⟨gb234,0,none⟩ = some (.int .i64 x235000_1):=(blk_cell BK234.out 0).trans rfl;have hcz15_1 : w14.cell? ⟨gb234,1,none⟩ = some (.slice none 0 0):=(blk_cell BK234.out 1).trans rfl;have hcz15_2 : w14.cell? ⟨gb234,2,none⟩ = some (.int .i64 x235002_1):=(blk_cell BK234.out 2).trans rfl;have hcz15_3 : w14.cell? ⟨gb234,3,none⟩ = some (.int .i64 x235003_1):=(blk_cell BK234.out 3).trans rfl;have hcz15_4 : w14.cell? ⟨gb234,4,none⟩ = some (.int .i64 x235004_1):=(blk_cell BK234.out 4).trans rfl;have hfz15_0:=blk_frozen BK234.out 0;have hfz15_1:=blk_frozen BK234.out 1;have hfz15_2:=blk_frozen BK234.out 2;have hfz15_3:=blk_frozen BK234.out 3;have hfz15_4:=blk_frozen BK234.out 4;obtain ⟨Ao16,co16,eo16⟩:=Kd.R_slice HO241.out;subst eo16));try go_wp2_with (first|(go_at_call 54;(with_reducible refine (impl_copyResource.calls ((rd_T82 l0 x7_1).f2.f0) _ _ ((rd_T82 l0 x7_1).f2.f1) ((rd_T82 l0 x7_1).f2.f2.f0) ((rd_T82 l0 x7_1).f2.f2.f1) ((rd_T82 l0 x7_1).f2.f2.f2) t238 t239 t242 t243 t244 _ ?side1 ?side2 A11.out).mono ?_);(case side1 => repeat (first|exact (Kd.C_below HR237_5.out HB.out)|(with_reducible refine Kd.C_alloc ?_ _)|(with_reducible refine Kd.C_drewN ?_ _)|(with_reducible refine Kd.C_drew ?_)));(case side2 => exact HC237_5.out);rintro e w14 ⟨v240,rfl,ho0,hb⟩;have n0_:=Aside0.mk (Kd.R_lower ho0 (below_size (by repeat (first|(with_reducible first|exact HB.out|apply below_alloc|apply pw_below_drewN|apply below_drew1|refine below_set ?_ GE233.out|refine below_set ?_ GE234.out)|exact HB.out))));have n1_:=Aside0.mk (blk_below (g:=gb233) (o:=.cells #[.int .i64 a1_0,.int .i64 a1_1,.int .i64 a1_2] 37 (0,0)) (by (with_reducible repeat (first|refine blk_drewN ?_ _|refine blk_drew ?_|refine blk_alloc ?_ _));exact BK233.out) hb);have n2_:=Aside0.mk (blk_below (g:=gb234) (o:=.cells #[.int .i64 x235000_1,.slice none 0 0,.int .i64 x235002_1,.int .i64 x235003_1,.int .i64 x235004_1] 39 (0,0)) (by (with_reducible repeat (first|refine blk_drewN ?_ _|refine blk_drew ?_|refine blk_alloc ?_ _));exact BK234.out) hb);have n3_:=Aside0.mk (below_step (by repeat (first|(with_reducible first|exact HB.out|apply below_alloc|apply pw_below_drewN|apply below_drew1|refine below_set ?_ GE233.out|refine below_set ?_ GE234.out)|exact HB.out)) hb);clear BK233;clear BK234;clear HB;have HO241:=n0_;have BK233:=n1_;have BK234:=n2_;have HB:=n3_;clear n0_ n1_ n2_ n3_;(try clear hb);(try clear hk);(try clear ho0);have hcz15_0 : w14.cell? ⟨gb234,0,none⟩ = some (.int .i64 x235000_1):=(blk_cell BK234.out 0).trans rfl;have hcz15_1 : w14.cell? ⟨gb234,1,none⟩ = some (.slice none 0 0):=(blk_cell BK234.out 1).trans rfl;have hcz15_2 : w14.cell? ⟨gb234,2,none⟩ = some (.int .i64 x235002_1):=(blk_cell BK234.out 2).trans rfl;have hcz15_3 : w14.cell? ⟨gb234,3,none⟩ = some (.int .i64 x235003_1):=(blk_cell BK234.out 3).trans rfl;have hcz15_4 : w14.cell? ⟨gb234,4,none⟩ = some (.int .i64 x235004_1):=(blk_cell BK234.out 4).trans rfl;have hfz15_0:=blk_frozen BK234.out 0;have hfz15_1:=blk_frozen BK234.out 1;have hfz15_2:=blk_frozen BK234.out 2;have hfz15_3:=blk_frozen BK234.out 3;have hfz15_4:=blk_frozen BK234.out 4;obtain ⟨Ao16,co16,eo16⟩:=Kd.R_slice HO241.out;subst eo16)))
        refine bodyPost_ret (results_cell_row rfl _ _ gb234 39 #[.int .i64 t238,.slice Ao16 t239.length co16,.int .i64 t242,.int .i64 t243,.int .i64 t244] (0,0) _ rfl (by (with_reducible repeat (first|refine blk_drewN ?_ _|refine blk_drew ?_|refine blk_alloc ?_ _));refine blk_put (cs:=#[.int .i64 t238,.slice Ao16 t239.length co16,.int .i64 t242,.int .i64 t243,.int .i64 x235004_1]) ?_ 4 _ rfl;(with_reducible repeat (first|refine blk_drewN ?_ _|refine blk_drew ?_|refine blk_alloc ?_ _));refine blk_put (cs:=#[.int .i64 t238,.slice Ao16 t239.length co16,.int .i64 t242,.int .i64 x235003_1,.int .i64 x235004_1]) ?_ 3 _ rfl;(with_reducible repeat (first|refine blk_drewN ?_ _|refine blk_drew ?_|refine blk_alloc ?_ _));refine blk_put (cs:=#[.int .i64 t238,.slice Ao16 t239.length co16,.int .i64 x235002_1,.int .i64 x235003_1,.int .i64 x235004_1]) ?_ 2 _ rfl;(with_reducible repeat (first|refine blk_drewN ?_ _|refine blk_drew ?_|refine blk_alloc ?_ _));refine blk_put (cs:=#[.int .i64 t238,.slice none 0 0,.int .i64 x235002_1,.int .i64 x235003_1,.int .i64 x235004_1]) ?_ 1 _ rfl;(with_reducible repeat (first|refine blk_drewN ?_ _|refine blk_drew ?_|refine blk_alloc ?_ _));refine blk_put (cs:=#[.int .i64 x235000_1,.slice none 0 0,.int .i64 x235002_1,.int .i64 x235003_1,.int .i64 x235004_1]) ?_ 0 _ rfl;(with_reducible repeat (first|refine blk_drewN ?_ _|refine blk_drew ?_|refine blk_alloc ?_ _));exact BK234.out) Try.underlying39 rfl (by kernel_rfl)) rfl ?_
        exact ⟨_,by first|rfl|(simp [errW_none,errW_some] <;> rfl)|(simp [*,errW_none,errW_some] <;> rfl),by (with_reducible repeat (first|apply Kd.R_alloc|apply Kd.R_drewN|apply Kd.R_drew));exact Kd.R_mono (Kd.R_far (p:=⟨gb234,4,none⟩) (Kd.R_far (p:=⟨gb234,3,none⟩) (Kd.R_far (p:=⟨gb234,2,none⟩) (Kd.R_far (p:=⟨gb234,1,none⟩) (Kd.R_far (p:=⟨gb234,0,none⟩) (Kd.R_types HO241.out BK234.out (by decide)) (fun _ hk => hk.2) (.int .i64 t238)) (fun _ hk => hk.2) (.slice Ao16 t239.length co16)) (fun _ hk => hk.2) (.int .i64 t242)) (fun _ hk => hk.2) (.int .i64 t243)) (fun _ hk => hk.2) (.int .i64 t244)) (fun _ hk => trivial),by repeat (first|(with_reducible first|exact HB.out|apply below_alloc|apply pw_below_drewN|apply below_drew1|refine below_set ?_ GE233.out|refine below_set ?_ GE234.out)|exact HB.out)⟩
       ·rw [if_neg c10] at H
        have c10b0 : decide (((rd_T82 l0 x7_1).f1) ≤ a2) = false:=decide_eq_false c10
        clear c10;have H':=Aside0.mk H;clear H;have p235 : 0 ≤ (x7_1 : Int):=of_decide_eq_true (by first|(with_reducible assumption)|assumption)
        have q235 : x7_1 < (l0.length : Int):=of_decide_eq_true (by first|(with_reducible assumption)|assumption)
        obtain ⟨ad235,A235_5,c235_5,e235,hx235_0,hx235_1,hx235_2,hx235_3,hx235_4,hx235_5,hx235_6,hx235_7,hx235_8,hl235_5,hi235_5⟩:=at_T82 HR0.out x7_1 p235 q235
        cases e235
        replace hx235_0:=(HB.out.cell (World.block_lt_of_cell? w _ hx235_0)).trans hx235_0
        replace hx235_1:=(HB.out.cell (World.block_lt_of_cell? w _ hx235_1)).trans hx235_1
        replace hx235_2:=(HB.out.cell (World.block_lt_of_cell? w _ hx235_2)).trans hx235_2
        replace hx235_3:=(HB.out.cell (World.block_lt_of_cell? w _ hx235_3)).trans hx235_3
        replace hx235_4:=(HB.out.cell (World.block_lt_of_cell? w _ hx235_4)).trans hx235_4
        replace hx235_5:=(HB.out.cell (World.block_lt_of_cell? w _ hx235_5)).trans hx235_5
        replace hx235_6:=(HB.out.cell (World.block_lt_of_cell? w _ hx235_6)).trans hx235_6
        replace hx235_7:=(HB.out.cell (World.block_lt_of_cell? w _ hx235_7)).trans hx235_7
        replace hx235_8:=(HB.out.cell (World.block_lt_of_cell? w _ hx235_8)).trans hx235_8
        have HR235_5:=Aside0.mk hi235_5;have HC235_5:=Aside0.mk hl235_5;clear hi235_5 hl235_5;replace p235:=eq_true p235
        replace q235:=eq_true q235
        have hnb17:=NB233_234.out;have hnc17:=NB234_233.out;have hcz18_0 : wr.cell? ⟨gb233,0,none⟩ = some (.int .i64 a1_0):=(blk_cell BK233.out 0).trans rfl
        have hcz18_1 : wr.cell? ⟨gb233,1,none⟩ = some (.int .i64 a1_1):=(blk_cell BK233.out 1).trans rfl
        have hcz18_2 : wr.cell? ⟨gb233,2,none⟩ = some (.int .i64 a1_2):=(blk_cell BK233.out 2).trans rfl
        have hfz18_0:=blk_frozen BK233.out 0
        have hfz18_1:=blk_frozen BK233.out 1
        have hfz18_2:=blk_frozen BK233.out 2
        have p236 : 0 ≤ (x7_1 : Int):=of_decide_eq_true (by first|(with_reducible assumption)|assumption)
        have q236 : x7_1 < (l0.length : Int):=of_decide_eq_true (by first|(with_reducible assumption)|assumption)
        obtain ⟨ad236,A236_5,c236_5,e236,hx236_0,hx236_1,hx236_2,hx236_3,hx236_4,hx236_5,hx236_6,hx236_7,hx236_8,hl236_5,hi236_5⟩:=at_T82 HR0.out x7_1 p236 q236
        obtain rfl : ad235 = ad236:=(by injection e236)
        replace hx236_0:=(HB.out.cell (World.block_lt_of_cell? w _ hx236_0)).trans hx236_0
        replace hx236_1:=(HB.out.cell (World.block_lt_of_cell? w _ hx236_1)).trans hx236_1
        replace hx236_2:=(HB.out.cell (World.block_lt_of_cell? w _ hx236_2)).trans hx236_2
        replace hx236_3:=(HB.out.cell (World.block_lt_of_cell? w _ hx236_3)).trans hx236_3
        replace hx236_4:=(HB.out.cell (World.block_lt_of_cell? w _ hx236_4)).trans hx236_4
        replace hx236_5:=(HB.out.cell (World.block_lt_of_cell? w _ hx236_5)).trans hx236_5
        replace hx236_6:=(HB.out.cell (World.block_lt_of_cell? w _ hx236_6)).trans hx236_6
        replace hx236_7:=(HB.out.cell (World.block_lt_of_cell? w _ hx236_7)).trans hx236_7
        replace hx236_8:=(HB.out.cell (World.block_lt_of_cell? w _ hx236_8)).trans hx236_8
        have HR236_5:=Aside0.mk hi236_5;have HC236_5:=Aside0.mk hl236_5;clear hi236_5 hl236_5;replace p236:=eq_true p236
        replace q236:=eq_true q236
        have ea_:=Option.some.inj (hx235_5.symm.trans hx236_5)
        injection ea_ with ea_ en_ ec_
        subst ea_
        subst ec_
        clear en_;go_wp2
        repeat (go_quiet (fail);try go_wp2)
        go_roundg k1
        case measure => have:=HK1.out;omega
        case rel => exact ⟨(wrap64 (x7_1 - 1)),(x235000_1),(x235002_1),(x235003_1),(x235004_1),(by first|rfl|(simp;done)|(simp [*];done)),H',⟨by have:=HK1.out;omega⟩,⟨by (with_reducible repeat (first|refine blk_drewN ?_ _|refine blk_drew ?_|refine blk_alloc ?_ _));exact BK233.out⟩,⟨by (with_reducible repeat (first|refine blk_drewN ?_ _|refine blk_drew ?_|refine blk_alloc ?_ _));exact BK234.out⟩,⟨by repeat (first|(with_reducible first|exact HB.out|apply below_alloc|apply pw_below_drewN|apply below_drew1|refine below_set ?_ GE233.out|refine below_set ?_ GE234.out)|exact HB.out)⟩⟩
      ·rw [if_neg c9] at H
       have c9b0 : (((rd_T82 l0 x7_1).f0.f0) == a1_0 && (((rd_T82 l0 x7_1).f0.f1) == a1_1 && (((rd_T82 l0 x7_1).f0.f2) == a1_2))) = false:=by simpa using c9
       (try (have c9b1 : decide (((rd_T82 l0 x7_1).f0.f0) = a1_0 && (((rd_T82 l0 x7_1).f0.f1) == a1_1 && (((rd_T82 l0 x7_1).f0.f2) == a1_2))) = false:=by simpa using c9))
       (try (have c9b2 : (((rd_T82 l0 x7_1).f0.f0) == a1_0 && (((rd_T82 l0 x7_1).f0.f1) == a1_1 && (((rd_T82 l0 x7_1).f0.f2) == a1_2))) = false:=by simpa using c9))
       (try (have c9b3 : ¬ (((rd_T82 l0 x7_1).f0.f0) = a1_0 && (((rd_T82 l0 x7_1).f0.f1) == a1_1 && (((rd_T82 l0 x7_1).f0.f2) == a1_2))):=by simpa using c9))
       clear c9;have H':=Aside0.mk H;clear H;have p235 : 0 ≤ (x7_1 : Int):=of_decide_eq_true (by first|(with_reducible assumption)|assumption)
       have q235 : x7_1 < (l0.length : Int):=of_decide_eq_true (by first|(with_reducible assumption)|assumption)
       obtain ⟨ad235,A235_5,c235_5,e235,hx235_0,hx235_1,hx235_2,hx235_3,hx235_4,hx235_5,hx235_6,hx235_7,hx235_8,hl235_5,hi235_5⟩:=at_T82 HR0.out x7_1 p235 q235
       cases e235
       replace hx235_0:=(HB.out.cell (World.block_lt_of_cell? w _ hx235_0)).trans hx235_0
       replace hx235_1:=(HB.out.cell (World.block_lt_of_cell? w _ hx235_1)).trans hx235_1
       replace hx235_2:=(HB.out.cell (World.block_lt_of_cell? w _ hx235_2)).trans hx235_2
       replace hx235_3:=(HB.out.cell (World.block_lt_of_cell? w _ hx235_3)).trans hx235_3
       replace hx235_4:=(HB.out.cell (World.block_lt_of_cell? w _ hx235_4)).trans hx235_4
       replace hx235_5:=(HB.out.cell (World.block_lt_of_cell? w _ hx235_5)).trans hx235_5
       replace hx235_6:=(HB.out.cell (World.block_lt_of_cell? w _ hx235_6)).trans hx235_6
       replace hx235_7:=(HB.out.cell (World.block_lt_of_cell? w _ hx235_7)).trans hx235_7
       replace hx235_8:=(HB.out.cell (World.block_lt_of_cell? w _ hx235_8)).trans hx235_8
       have HR235_5:=Aside0.mk hi235_5;have HC235_5:=Aside0.mk hl235_5;clear hi235_5 hl235_5;replace p235:=eq_true p235
       replace q235:=eq_true q235
       have hnb19:=NB233_234.out;have hnc19:=NB234_233.out;have hcz20_0 : wr.cell? ⟨gb233,0,none⟩ = some (.int .i64 a1_0):=(blk_cell BK233.out 0).trans rfl
       have hcz20_1 : wr.cell? ⟨gb233,1,none⟩ = some (.int .i64 a1_1):=(blk_cell BK233.out 1).trans rfl
       have hcz20_2 : wr.cell? ⟨gb233,2,none⟩ = some (.int .i64 a1_2):=(blk_cell BK233.out 2).trans rfl
       have hfz20_0:=blk_frozen BK233.out 0
       have hfz20_1:=blk_frozen BK233.out 1
       have hfz20_2:=blk_frozen BK233.out 2
       go_wp2
       repeat (go_quiet (fail);try go_wp2)
       go_roundg k1
       case measure => have:=HK1.out;omega
       case rel => exact ⟨(wrap64 (x7_1 - 1)),(x235000_1),(x235002_1),(x235003_1),(x235004_1),(by first|rfl|(simp;done)|(simp [*];done)),H',⟨by have:=HK1.out;omega⟩,⟨by (with_reducible repeat (first|refine blk_drewN ?_ _|refine blk_drew ?_|refine blk_alloc ?_ _));exact BK233.out⟩,⟨by (with_reducible repeat (first|refine blk_drewN ?_ _|refine blk_drew ?_|refine blk_alloc ?_ _));exact BK234.out⟩,⟨by repeat (first|(with_reducible first|exact HB.out|apply below_alloc|apply pw_below_drewN|apply below_drew1|refine below_set ?_ GE233.out|refine below_set ?_ GE234.out)|exact HB.out)⟩⟩
     ·rw [if_neg c8] at H
      exact absurd H (by simp)
    ·rw [if_neg c7] at H
     exact absurd H (by simp)
   ·rw [if_neg c6] at H
    have c6b0 : decide (0 ≤ x7_1) = false:=decide_eq_false c6
    clear c6;simp only [Option.some.injEq,Prod.mk.injEq] at H
    obtain ⟨rfl,rfl,rfl,rfl,rfl⟩:=H;have hnb21:=NB234_233.out;have hnc21:=NB233_234.out;have hcz22_0 : wr.cell? ⟨gb234,0,none⟩ = some (.int .i64 x235000_1):=(blk_cell BK234.out 0).trans rfl
    have hcz22_1 : wr.cell? ⟨gb234,1,none⟩ = some (.slice none 0 0):=(blk_cell BK234.out 1).trans rfl
    have hcz22_2 : wr.cell? ⟨gb234,2,none⟩ = some (.int .i64 x235002_1):=(blk_cell BK234.out 2).trans rfl
    have hcz22_3 : wr.cell? ⟨gb234,3,none⟩ = some (.int .i64 x235003_1):=(blk_cell BK234.out 3).trans rfl
    have hcz22_4 : wr.cell? ⟨gb234,4,none⟩ = some (.int .i64 x235004_1):=(blk_cell BK234.out 4).trans rfl
    have hfz22_0:=blk_frozen BK234.out 0
    have hfz22_1:=blk_frozen BK234.out 1
    have hfz22_2:=blk_frozen BK234.out 2
    have hfz22_3:=blk_frozen BK234.out 3
    have hfz22_4:=blk_frozen BK234.out 4
    go_wp2
    repeat (go_quiet (fail);try go_wp2)
    refine bodyPost_ret (results_cell_row rfl _ _ gb234 39 #[.int .i64 4,.slice none 0 0,.int .i64 0,.int .i64 0,.int .i64 0] (0,0) _ rfl (by (with_reducible repeat (first|refine blk_drewN ?_ _|refine blk_drew ?_|refine blk_alloc ?_ _));refine blk_put (cs:=#[.int .i64 4,.slice none 0 0,.int .i64 0,.int .i64 0,.int .i64 x235004_1]) ?_ 4 _ rfl;(with_reducible repeat (first|refine blk_drewN ?_ _|refine blk_drew ?_|refine blk_alloc ?_ _));refine blk_put (cs:=#[.int .i64 4,.slice none 0 0,.int .i64 0,.int .i64 x235003_1,.int .i64 x235004_1]) ?_ 3 _ rfl;(with_reducible repeat (first|refine blk_drewN ?_ _|refine blk_drew ?_|refine blk_alloc ?_ _));refine blk_put (cs:=#[.int .i64 4,.slice none 0 0,.int .i64 x235002_1,.int .i64 x235003_1,.int .i64 x235004_1]) ?_ 2 _ rfl;(with_reducible repeat (first|refine blk_drewN ?_ _|refine blk_drew ?_|refine blk_alloc ?_ _));refine blk_put (cs:=#[.int .i64 4,.slice none 0 0,.int .i64 x235002_1,.int .i64 x235003_1,.int .i64 x235004_1]) ?_ 1 _ rfl;(with_reducible repeat (first|refine blk_drewN ?_ _|refine blk_drew ?_|refine blk_alloc ?_ _));refine blk_put (cs:=#[.int .i64 x235000_1,.slice none 0 0,.int .i64 x235002_1,.int .i64 x235003_1,.int .i64 x235004_1]) ?_ 0 _ rfl;(with_reducible repeat (first|refine blk_drewN ?_ _|refine blk_drew ?_|refine blk_alloc ?_ _));exact BK234.out) Try.underlying39 rfl (by kernel_rfl)) rfl ?_
    exact ⟨_,by first|rfl|(simp [errW_none,errW_some] <;> rfl)|(simp [*,errW_none,errW_some] <;> rfl),by first|exact Kd.R_nil _ _ _ _ _|exact Kd.N_nil _ _ _ _ _|exact Kd.V_nil _ _ _ _ _|exact Kd.Q_nil _ _ _ _ _|exact Kd.S_nil _ _ _ _ _,by repeat (first|(with_reducible first|exact HB.out|apply below_alloc|apply pw_below_drewN|apply below_drew1|refine below_set ?_ GE233.out|refine below_set ?_ GE234.out)|exact HB.out)⟩
def impl_Address_92.l0 : Nat → List (S37) → Int → Int → Int → Int → Int → Option (Int)
|0,_,_,_,_,_,_ => none
|k + 1,x0,x7,x8,x246000,x246001,x246002 => if x8 < x7 then (if 0 ≤ x8 then (if x8 < (x0.length : Int) then (if (x246000 == ((rd_T37 x0 x8).f0) && (x246001 == ((rd_T37 x0 x8).f1) && (x246002 == ((rd_T37 x0 x8).f2)))) = true then (some x8) else (impl_Address_92.l0 k x0 x7 (wrap64 (x8 + 1)) x246000 x246001 x246002)) else (none)) else (none)) else (some (-1))
def impl_Address_92.f (k : Nat) (l0 : List (S37)) (a1_0 : Int) (a1_1 : Int) (a1_2 : Int) : Option (Int):=impl_Address_92.l0 k l0 (l0.length : Int) 0 a1_0 a1_1 a1_2
theorem impl_Address_92.mono_l : ∀ k,(∀ y0 y1 y2 y3 y4 y5,LeO (impl_Address_92.l0 k y0 y1 y2 y3 y4 y5) (impl_Address_92.l0 (k + 1) y0 y1 y2 y3 y4 y5))
|0 => fun _ _ _ _ _ _ r h => by simp [impl_Address_92.l0] at h
|k + 1 => by
  have ih0:=impl_Address_92.mono_l k
  ·intro y0 y1 y2 y3 y4 y5;unfold impl_Address_92.l0
   repeat' first
  |(with_reducible exact ih0 _ _ _ _ _ _)
  |(with_reducible exact LeO.refl _)
  |(with_reducible exact LeO.none _)
  |(with_reducible refine LeO.ite ?_ ?_)
  |(with_reducible refine LeO.bind ?_ (fun _ => ?_))
  |exact ih0 _ _ _ _ _ _
  |exact LeO.none _
  |refine LeO.ite ?_ ?_
  |refine LeO.bind ?_ (fun _ => ?_)
theorem impl_Address_92.mono : ∀ a0 a1 a2 a3 k,LeO (impl_Address_92.f k a0 a1 a2 a3) (impl_Address_92.f (k + 1) a0 a1 a2 a3):=by
 intro a0 a1 a2 a3 k;have ih0:=impl_Address_92.mono_l k
 unfold impl_Address_92.f
 repeat' first
  |(with_reducible exact ih0 _ _ _ _ _ _)
  |(with_reducible exact LeO.refl _)
  |(with_reducible exact LeO.none _)
  |(with_reducible refine LeO.ite ?_ ?_)
  |(with_reducible refine LeO.bind ?_ (fun _ => ?_))
  |exact ih0 _ _ _ _ _ _
  |exact LeO.none _
  |refine LeO.ite ?_ ?_
  |refine LeO.bind ?_ (fun _ => ?_)
theorem impl_Address_92.calls (k : Nat) (A0 : Option Addr) (c0 : Nat) (l0 : List (S37)) (a1_0 : Int) (a1_1 : Int) (a1_2 : Int) (r : Int) (w : World) (hr0 : Kd.C k37 w A0 l0.length l0) (hc0 : l0.length ≤ c0) (h : impl_Address_92.f k l0 a1_0 a1_1 a1_2 = some r) :
  Calls Try.prog 92 #[.slice A0 l0.length c0,.agg #[.int .i64 a1_0,.int .i64 a1_1,.int .i64 a1_2]] w fun e w' => e = .returned (.int .i64 r) ∧ Below w.heap.size w w':=by
 have hu37:=Try.underlying37
 have HR0:=Aside0.mk hr0;have HC0:=Aside0.mk hc0;clear hr0 hc0;have HB:=Aside0.mk (Below.refl w.heap.size w)
 have H : (impl_Address_92.l0 k l0 (l0.length : Int) 0 a1_0 a1_1 a1_2) = some r:=h
 clear h;have H':=Aside0.mk H;clear H;go_enter Try.func92,Try.ntmps92
 go_wp2_with (first|((with_reducible refine gate_dst (N:=3) rfl ?_);refine box_event ?hg (N:=3) ?hd (cs:=#[.int .i64 a1_0,.int .i64 a1_1,.int .i64 a1_2]) (t:=37) ?hr ?_;(case hd => rfl);(case hg => rfl);(case hr => first|(go_simp;done)|(go_simp;rfl));intro gb245 hg w3 hbox hb;have n0_:=Aside0.mk (below_step (by repeat (first|(with_reducible first|exact HB.out|apply below_alloc|apply pw_below_drewN|apply below_drew1)|exact HB.out)) hb);have n1_:=Aside0.mk (hbox);have n2_:=Aside0.mk ((by rw [hg];exact (below_size (by repeat (first|(with_reducible first|exact HB.out|apply below_alloc|apply pw_below_drewN|apply below_drew1)|exact HB.out))) : w.heap.size ≤ gb245));have n3_:=Aside0.mk ((by rw [hg];exact (below_size (by repeat (first|(with_reducible first|exact HB.out|apply below_alloc|apply pw_below_drewN|apply below_drew1)|exact HB.out))) : w.heap.size ≤ gb245));clear HB;have HB:=n0_;have BK245:=n1_;have GW245:=n2_;have GE245:=n3_;clear n0_ n1_ n2_ n3_;clear hb hbox hg))
 repeat (go_quiet (first|((with_reducible refine gate_dst (N:=3) rfl ?_);refine box_event ?hg (N:=3) ?hd (cs:=#[.int .i64 a1_0,.int .i64 a1_1,.int .i64 a1_2]) (t:=37) ?hr ?_;(case hd => rfl);(case hg => rfl);(case hr => first|(go_simp;done)|(go_simp;rfl));intro gb245 hg w3 hbox hb;have n0_:=Aside0.mk (below_step (by repeat (first|(with_reducible first|exact HB.out|apply below_alloc|apply pw_below_drewN|apply below_drew1)|exact HB.out)) hb);have n1_:=Aside0.mk (hbox);have n2_:=Aside0.mk ((by rw [hg];exact (below_size (by repeat (first|(with_reducible first|exact HB.out|apply below_alloc|apply pw_below_drewN|apply below_drew1)|exact HB.out))) : w.heap.size ≤ gb245));have n3_:=Aside0.mk ((by rw [hg];exact (below_size (by repeat (first|(with_reducible first|exact HB.out|apply below_alloc|apply pw_below_drewN|apply below_drew1)|exact HB.out))) : w.heap.size ≤ gb245));clear HB;have HB:=n0_;have BK245:=n1_;have GW245:=n2_;have GE245:=n3_;clear n0_ n1_ n2_ n3_;clear hb hbox hg));try go_wp2_with (first|((with_reducible refine gate_dst (N:=3) rfl ?_);refine box_event ?hg (N:=3) ?hd (cs:=#[.int .i64 a1_0,.int .i64 a1_1,.int .i64 a1_2]) (t:=37) ?hr ?_;(case hd => rfl);(case hg => rfl);(case hr => first|(go_simp;done)|(go_simp;rfl));intro gb245 hg w3 hbox hb;have n0_:=Aside0.mk (below_step (by repeat (first|(with_reducible first|exact HB.out|apply below_alloc|apply pw_below_drewN|apply below_drew1)|exact HB.out)) hb);have n1_:=Aside0.mk (hbox);have n2_:=Aside0.mk ((by rw [hg];exact (below_size (by repeat (first|(with_reducible first|exact HB.out|apply below_alloc|apply pw_below_drewN|apply below_drew1)|exact HB.out))) : w.heap.size ≤ gb245));have n3_:=Aside0.mk ((by rw [hg];exact (below_size (by repeat (first|(with_reducible first|exact HB.out|apply below_alloc|apply pw_below_drewN|apply below_drew1)|exact HB.out))) : w.heap.size ≤ gb245));clear HB;have HB:=n0_;have BK245:=n1_;have GW245:=n2_;have GE245:=n3_;clear n0_ n1_ n2_ n3_;clear hb hbox hg)))
 go_loopg [8] k (fun kq v8 w' => ∃ (x8_1 : Int),v8 = .int .i64 x8_1 ∧ Aside0 (impl_Address_92.l0 kq l0 (l0.length : Int) x8_1 a1_0 a1_1 a1_2 = some r) ∧ Aside0 (kq ≤ k) ∧ Aside0 (w'.heap[gb245]? = some (.cells #[.int .i64 a1_0,.int .i64 a1_1,.int .i64 a1_2] 37 (0,0))) ∧ Aside0 (Below w.heap.size w w'))
 case atStart => exact ⟨(0),(by first|rfl|(simp;done)|(simp [*];done)),H',⟨Nat.le_refl _⟩,⟨by (with_reducible repeat (first|refine blk_drewN ?_ _|refine blk_drew ?_|refine blk_alloc ?_ _));exact BK245.out⟩,⟨by repeat (first|(with_reducible first|exact HB.out|apply below_alloc|apply pw_below_drewN|apply below_drew1|refine below_set ?_ GE245.out)|exact HB.out)⟩⟩
 case round =>
  clear H';try clear p2
  obtain ⟨x8_1,rfl,HA,HK1,BK245,HB⟩:=hrel;cases gk with
 |zero => exact absurd HA.out (by simp [impl_Address_92.l0])
 |succ k1 =>
   have H:=HA.out;clear HA;simp only [impl_Address_92.l0] at H
   by_cases c4 : x8_1 < (l0.length : Int)
   ·rw [if_pos c4] at H
    have c4b0 : decide (x8_1 < (l0.length : Int)) = true:=decide_eq_true c4
    clear c4;by_cases c5 : 0 ≤ x8_1
    ·rw [if_pos c5] at H
     have c5b0 : decide (0 ≤ x8_1) = true:=decide_eq_true c5
     clear c5;by_cases c6 : x8_1 < (l0.length : Int)
     ·rw [if_pos c6] at H
      have c6b0 : decide (x8_1 < (l0.length : Int)) = true:=decide_eq_true c6
      clear c6;by_cases c7 : (a1_0 == ((rd_T37 l0 x8_1).f0) && (a1_1 == ((rd_T37 l0 x8_1).f1) && (a1_2 == ((rd_T37 l0 x8_1).f2)))) = true
      ·rw [if_pos c7] at H
       have c7b0 : (a1_0 == ((rd_T37 l0 x8_1).f0) && (a1_1 == ((rd_T37 l0 x8_1).f1) && (a1_2 == ((rd_T37 l0 x8_1).f2)))) = true:=c7
       (try (have c7b1 : decide (a1_0 = ((rd_T37 l0 x8_1).f0) && (a1_1 == ((rd_T37 l0 x8_1).f1) && (a1_2 == ((rd_T37 l0 x8_1).f2)))) = true:=by simpa using c7))
       (try (have c7b2 : (a1_0 == ((rd_T37 l0 x8_1).f0) && (a1_1 == ((rd_T37 l0 x8_1).f1) && (a1_2 == ((rd_T37 l0 x8_1).f2)))) = true:=by simpa using c7))
       clear c7;obtain rfl:=Option.some.inj H
       have hcz8_0 : wr.cell? ⟨gb245,0,none⟩ = some (.int .i64 a1_0):=(blk_cell BK245.out 0).trans rfl
       have hcz8_1 : wr.cell? ⟨gb245,1,none⟩ = some (.int .i64 a1_1):=(blk_cell BK245.out 1).trans rfl
       have hcz8_2 : wr.cell? ⟨gb245,2,none⟩ = some (.int .i64 a1_2):=(blk_cell BK245.out 2).trans rfl
       have hfz8_0:=blk_frozen BK245.out 0
       have hfz8_1:=blk_frozen BK245.out 1
       have hfz8_2:=blk_frozen BK245.out 2
       have p246 : 0 ≤ (x8_1 : Int):=of_decide_eq_true (by first|(with_reducible assumption)|assumption)
       have q246 : x8_1 < (l0.length : Int):=of_decide_eq_true (by first|(with_reducible assumption)|assumption)
       obtain ⟨ad246,e246,hx246_0,hx246_1,hx246_2⟩:=at_T37 HR0.out x8_1 p246 q246
       cases e246
       replace hx246_0:=(HB.out.cell (World.block_lt_of_cell? w _ hx246_0)).trans hx246_0
       replace hx246_1:=(HB.out.cell (World.block_lt_of_cell? w _ hx246_1)).trans hx246_1
       replace hx246_2:=(HB.out.cell (World.block_lt_of_cell? w _ hx246_2)).trans hx246_2
       replace p246:=eq_true p246
       replace q246:=eq_true q246
       go_wp2
       repeat (go_quiet (fail);try go_wp2)
       go_ret
       exact ⟨by first|rfl|(simp [errW_none,errW_some] <;> rfl)|(simp [*,errW_none,errW_some] <;> rfl),by repeat (first|(with_reducible first|exact HB.out|apply below_alloc|apply pw_below_drewN|apply below_drew1|refine below_set ?_ GE245.out)|exact HB.out)⟩
      ·rw [if_neg c7] at H
       have c7b0 : (a1_0 == ((rd_T37 l0 x8_1).f0) && (a1_1 == ((rd_T37 l0 x8_1).f1) && (a1_2 == ((rd_T37 l0 x8_1).f2)))) = false:=by simpa using c7
       (try (have c7b1 : decide (a1_0 = ((rd_T37 l0 x8_1).f0) && (a1_1 == ((rd_T37 l0 x8_1).f1) && (a1_2 == ((rd_T37 l0 x8_1).f2)))) = false:=by simpa using c7))
       (try (have c7b2 : (a1_0 == ((rd_T37 l0 x8_1).f0) && (a1_1 == ((rd_T37 l0 x8_1).f1) && (a1_2 == ((rd_T37 l0 x8_1).f2)))) = false:=by simpa using c7))
       (try (have c7b3 : ¬ (a1_0 = ((rd_T37 l0 x8_1).f0) && (a1_1 == ((rd_T37 l0 x8_1).f1) && (a1_2 == ((rd_T37 l0 x8_1).f2)))):=by simpa using c7))
       clear c7;have H':=Aside0.mk H;clear H;have hcz9_0 : wr.cell? ⟨gb245,0,none⟩ = some (.int .i64 a1_0):=(blk_cell BK245.out 0).trans rfl
       have hcz9_1 : wr.cell? ⟨gb245,1,none⟩ = some (.int .i64 a1_1):=(blk_cell BK245.out 1).trans rfl
       have hcz9_2 : wr.cell? ⟨gb245,2,none⟩ = some (.int .i64 a1_2):=(blk_cell BK245.out 2).trans rfl
       have hfz9_0:=blk_frozen BK245.out 0
       have hfz9_1:=blk_frozen BK245.out 1
       have hfz9_2:=blk_frozen BK245.out 2
       have p246 : 0 ≤ (x8_1 : Int):=of_decide_eq_true (by first|(with_reducible assumption)|assumption)
       have q246 : x8_1 < (l0.length : Int):=of_decide_eq_true (by first|(with_reducible assumption)|assumption)
       obtain ⟨ad246,e246,hx246_0,hx246_1,hx246_2⟩:=at_T37 HR0.out x8_1 p246 q246
       cases e246
       replace hx246_0:=(HB.out.cell (World.block_lt_of_cell? w _ hx246_0)).trans hx246_0
       replace hx246_1:=(HB.out.cell (World.block_lt_of_cell? w _ hx246_1)).trans hx246_1
       replace hx246_2:=(HB.out.cell (World.block_lt_of_cell? w _ hx246_2)).trans hx246_2
       replace p246:=eq_true p246
       replace q246:=eq_true q246
       go_wp2
       repeat (go_quiet (fail);try go_wp2)
       go_roundg k1
       case measure => have:=HK1.out;omega
       case rel => exact ⟨(wrap64 (x8_1 + 1)),(by first|rfl|(simp;done)|(simp [*];done)),H',⟨by have:=HK1.out;omega⟩,⟨by (with_reducible repeat (first|refine blk_drewN ?_ _|refine blk_drew ?_|refine blk_alloc ?_ _));exact BK245.out⟩,⟨by repeat (first|(with_reducible first|exact HB.out|apply below_alloc|apply pw_below_drewN|apply below_drew1|refine below_set ?_ GE245.out)|exact HB.out)⟩⟩
     ·rw [if_neg c6] at H
      exact absurd H (by simp)
    ·rw [if_neg c5] at H
     exact absurd H (by simp)
   ·rw [if_neg c4] at H
    have c4b0 : decide (x8_1 < (l0.length : Int)) = false:=decide_eq_false c4
    clear c4;obtain rfl:=Option.some.inj H
    go_wp2
    repeat (go_quiet (fail);try go_wp2)
    go_ret
    exact ⟨by first|rfl|(simp [errW_none,errW_some] <;> rfl)|(simp [*,errW_none,errW_some] <;> rfl),by repeat (first|(with_reducible first|exact HB.out|apply below_alloc|apply pw_below_drewN|apply below_drew1|refine below_set ?_ GE245.out)|exact HB.out)⟩
def impl_Address_74.f (k : Nat) (l0 : List (S37)) (a1_0 : Int) (a1_1 : Int) (a1_2 : Int) : Option (Bool):=(impl_Address_92.f k l0 a1_0 a1_1 a1_2).bind fun t248 => (some (decide (t248 ≥ 0)))
theorem impl_Address_74.mono : ∀ a0 a1 a2 a3 k,LeO (impl_Address_74.f k a0 a1 a2 a3) (impl_Address_74.f (k + 1) a0 a1 a2 a3):=by
 intro a0 a1 a2 a3 k;unfold impl_Address_74.f
 repeat' first
  |(with_reducible exact impl_Address_92.mono _ _ _ _ _)
  |(with_reducible exact LeO.refl _)
  |(with_reducible exact LeO.none _)
  |(with_reducible refine LeO.ite ?_ ?_)
  |(with_reducible refine LeO.bind ?_ (fun _ => ?_))
  |exact impl_Address_92.mono _ _ _ _ _
  |exact LeO.none _
  |refine LeO.ite ?_ ?_
  |refine LeO.bind ?_ (fun _ => ?_)
theorem impl_Address_74.calls (k : Nat) (A0 : Option Addr) (c0 : Nat) (l0 : List (S37)) (a1_0 : Int) (a1_1 : Int) (a1_2 : Int) (r : Bool) (w : World) (hr0 : Kd.C k37 w A0 l0.length l0) (hc0 : l0.length ≤ c0) (h : impl_Address_74.f k l0 a1_0 a1_1 a1_2 = some r) :
  Calls Try.prog 74 #[.slice A0 l0.length c0,.agg #[.int .i64 a1_0,.int .i64 a1_1,.int .i64 a1_2]] w fun e w' => e = .returned (.bool r) ∧ Below w.heap.size w w':=by
 have hu37:=Try.underlying37
 have HR0:=Aside0.mk hr0;have HC0:=Aside0.mk hc0;clear hr0 hc0;have HB:=Aside0.mk (Below.refl w.heap.size w)
 have H : ((impl_Address_92.f k l0 a1_0 a1_1 a1_2).bind fun t248 => (some (decide (t248 ≥ 0)))) = some r:=h
 clear h;replace H:=Option.bind_eq_some_iff.mp H
 obtain ⟨t248,A30,H⟩:=H;replace H : (some (decide (t248 ≥ 0))) = some r:=H
 have A3:=Aside0.mk A30;clear A30;obtain rfl:=Option.some.inj H
 go_enter Try.func74,Try.ntmps74
 go_wp2_with (first|((with_reducible refine gate_dst (N:=3) rfl ?_);refine box_event ?hg (N:=3) ?hd (cs:=#[.int .i64 a1_0,.int .i64 a1_1,.int .i64 a1_2]) (t:=37) ?hr ?_;(case hd => rfl);(case hg => rfl);(case hr => first|(go_simp;done)|(go_simp;rfl));intro gb247 hg w4 hbox hb;have n0_:=Aside0.mk (below_step (by repeat (first|(with_reducible first|exact HB.out|apply below_alloc|apply pw_below_drewN|apply below_drew1)|exact HB.out)) hb);have n1_:=Aside0.mk (hbox);have n2_:=Aside0.mk ((by rw [hg];exact (below_size (by repeat (first|(with_reducible first|exact HB.out|apply below_alloc|apply pw_below_drewN|apply below_drew1)|exact HB.out))) : w.heap.size ≤ gb247));have n3_:=Aside0.mk ((by rw [hg];exact (below_size (by repeat (first|(with_reducible first|exact HB.out|apply below_alloc|apply pw_below_drewN|apply below_drew1)|exact HB.out))) : w.heap.size ≤ gb247));clear HB;have HB:=n0_;have BK247:=n1_;have GW247:=n2_;have GE247:=n3_;clear n0_ n1_ n2_ n3_;clear hb hbox hg;have hcz5_0 : w4.cell? ⟨gb247,0,none⟩ = some (.int .i64 a1_0):=(blk_cell BK247.out 0).trans rfl;have hcz5_1 : w4.cell? ⟨gb247,1,none⟩ = some (.int .i64 a1_1):=(blk_cell BK247.out 1).trans rfl;have hcz5_2 : w4.cell? ⟨gb247,2,none⟩ = some (.int .i64 a1_2):=(blk_cell BK247.out 2).trans rfl;have hfz5_0:=blk_frozen BK247.out 0;have hfz5_1:=blk_frozen BK247.out 1;have hfz5_2:=blk_frozen BK247.out 2)|((with_reducible refine gate_callee (f:=92) rfl ?_);refine goesL_ (some 7) rfl rfl Try.func92 (by kernel_rfl) rfl #[.slice A0 l0.length c0,.agg #[.int .i64 a1_0,.int .i64 a1_1,.int .i64 a1_2]] rfl (by (try simp only [List.map_toArray,List.map_cons,List.map_nil]);first|done|rfl|(simp only [List.length_drop,List.length_take];rfl)) ?_;(with_reducible refine (impl_Address_92.calls k _ _ l0 a1_0 a1_1 a1_2 t248 _ ?side1 ?side2 A3.out).mono ?_);(case side1 => repeat (first|exact (Kd.C_below HR0.out HB.out)|(with_reducible refine Kd.C_alloc ?_ _)|(with_reducible refine Kd.C_drewN ?_ _)|(with_reducible refine Kd.C_drew ?_)));(case side2 => exact HC0.out);rintro e w6 ⟨rfl,hb⟩;refine ⟨_,rfl,?_⟩;have n0_:=Aside0.mk (blk_below (g:=gb247) (o:=.cells #[.int .i64 a1_0,.int .i64 a1_1,.int .i64 a1_2] 37 (0,0)) (by (with_reducible repeat (first|refine blk_drewN ?_ _|refine blk_drew ?_|refine blk_alloc ?_ _));exact BK247.out) hb);have n1_:=Aside0.mk (below_step (by repeat (first|(with_reducible first|exact HB.out|apply below_alloc|apply pw_below_drewN|apply below_drew1|refine below_set ?_ GE247.out)|exact HB.out)) hb);clear BK247;clear HB;have BK247:=n0_;have HB:=n1_;clear n0_ n1_;(try clear hb);(try clear hk)))
 go_ret
 exact ⟨by first|rfl|(simp [errW_none,errW_some] <;> rfl)|(simp [*,errW_none,errW_some] <;> rfl),by repeat (first|(with_reducible first|exact HB.out|apply below_alloc|apply pw_below_drewN|apply below_drew1|refine below_set ?_ GE247.out)|exact HB.out)⟩
def impl_FollowAt.l0 : Nat → List (S82) → Int → List (S37) → Int → List Int → Int → Int → Int → Option (Int × List Int × Int × Int × Int × (List (S37)))
|0,_,_,_,_,_,_,_,_ => none
|k + 1,x0,x2,x9,x259000,x259001,x259002,x259003,x259004 => if x259000 = 3 then (if (x9.length : Int) ≤ 4 then ((impl_Address_74.f k x9 x259002 x259003 x259004).bind fun t262 => (if t262 = true then (some (x259000,x259001,x259002,x259003,x259004,x9)) else (if x9.length < 5864062014805 then ((impl_AnswerAt.f k x0 x259002 x259003 x259004 x2).bind fun bt266 => (impl_FollowAt.l0 k x0 x2 (x9 ++ [(⟨x259002,x259003,x259004⟩ : S37)]) bt266.1 bt266.2.1 bt266.2.2.1 bt266.2.2.2.1 bt266.2.2.2.2)) else (none)))) else (some (x259000,x259001,x259002,x259003,x259004,x9))) else (some (x259000,x259001,x259002,x259003,x259004,x9))
def impl_FollowAt.f (k : Nat) (l0 : List (S82)) (a1_0 : Int) (a1_1 : Int) (a1_2 : Int) (a2 : Int) : Option (Int × List Int × Int × Int × Int × (List (S37))):=(impl_AnswerAt.f k l0 a1_0 a1_1 a1_2 a2).bind fun bt251 => (impl_FollowAt.l0 k l0 a2 (([(⟨a1_0,a1_1,a1_2⟩ : S37)] : List (S37))) bt251.1 bt251.2.1 bt251.2.2.1 bt251.2.2.2.1 bt251.2.2.2.2)
theorem impl_FollowAt.mono_l : ∀ k,(∀ y0 y1 y2 y3 y4 y5 y6 y7,LeO (impl_FollowAt.l0 k y0 y1 y2 y3 y4 y5 y6 y7) (impl_FollowAt.l0 (k + 1) y0 y1 y2 y3 y4 y5 y6 y7))
|0 => fun _ _ _ _ _ _ _ _ r h => by simp [impl_FollowAt.l0] at h
|k + 1 => by
  have ih0:=impl_FollowAt.mono_l k
  ·intro y0 y1 y2 y3 y4 y5 y6 y7;unfold impl_FollowAt.l0
   repeat' first
  |(with_reducible exact ih0 _ _ _ _ _ _ _ _)
  |(with_reducible exact impl_Address_74.mono _ _ _ _ _)
  |(with_reducible exact impl_AnswerAt.mono _ _ _ _ _ _)
  |(with_reducible exact LeO.refl _)
  |(with_reducible exact LeO.none _)
  |(with_reducible refine LeO.ite ?_ ?_)
  |(with_reducible refine LeO.bind ?_ (fun _ => ?_))
  |exact ih0 _ _ _ _ _ _ _ _
  |exact impl_Address_74.mono _ _ _ _ _
  |exact impl_AnswerAt.mono _ _ _ _ _ _
  |exact LeO.none _
  |refine LeO.ite ?_ ?_
  |refine LeO.bind ?_ (fun _ => ?_)
theorem impl_FollowAt.mono : ∀ a0 a1 a2 a3 a4 k,LeO (impl_FollowAt.f k a0 a1 a2 a3 a4) (impl_FollowAt.f (k + 1) a0 a1 a2 a3 a4):=by
 intro a0 a1 a2 a3 a4 k;have ih0:=impl_FollowAt.mono_l k
 unfold impl_FollowAt.f
 repeat' first
  |(with_reducible exact ih0 _ _ _ _ _ _ _ _)
  |(with_reducible exact impl_Address_74.mono _ _ _ _ _)
  |(with_reducible exact impl_AnswerAt.mono _ _ _ _ _ _)
  |(with_reducible exact LeO.refl _)
  |(with_reducible exact LeO.none _)
  |(with_reducible refine LeO.ite ?_ ?_)
  |(with_reducible refine LeO.bind ?_ (fun _ => ?_))
  |exact ih0 _ _ _ _ _ _ _ _
  |exact impl_Address_74.mono _ _ _ _ _
  |exact impl_AnswerAt.mono _ _ _ _ _ _
  |exact LeO.none _
  |refine LeO.ite ?_ ?_
  |refine LeO.bind ?_ (fun _ => ?_)
theorem impl_FollowAt.calls (k : Nat) (A0 : Option Addr) (c0 : Nat) (l0 : List (S82)) (a1_0 : Int) (a1_1 : Int) (a1_2 : Int) (a2 : Int) (r1 : Int) (r2 : List Int) (r3 : Int) (r4 : Int) (r5 : Int) (r6 : List (S37)) (w : World) (hr0 : Kd.C k82 w A0 l0.length l0) (hc0 : l0.length ≤ c0) (h : impl_FollowAt.f k l0 a1_0 a1_1 a1_2 a2 = some (r1,r2,r3,r4,r5,r6)) :
  Calls Try.prog 37 #[.slice A0 l0.length c0,.agg #[.int .i64 a1_0,.int .i64 a1_1,.int .i64 a1_2],.int .i64 a2] w fun e w' => ∃ v1_ v5_ : Value,e = .returned (.tuple #[.agg #[.int .i64 r1,v1_,.int .i64 r3,.int .i64 r4,.int .i64 r5],v5_]) ∧ Kd.R (Kd.int .i64) 3 w' w.heap.size (fun _ => True) v1_ r2 ∧ Kd.R k37 37 w' w.heap.size (fun _ => True) v5_ r6 ∧ Below w.heap.size w w':=by
 have hu37:=Try.underlying37
 have hu39:=Try.underlying39
 have HR0:=Aside0.mk hr0;have HC0:=Aside0.mk hc0;clear hr0 hc0;have HB:=Aside0.mk (Below.refl w.heap.size w)
 have H : ((impl_AnswerAt.f k l0 a1_0 a1_1 a1_2 a2).bind fun bt251 => (impl_FollowAt.l0 k l0 a2 (([(⟨a1_0,a1_1,a1_2⟩ : S37)] : List (S37))) bt251.1 bt251.2.1 bt251.2.2.1 bt251.2.2.2.1 bt251.2.2.2.2)) = some (r1,r2,r3,r4,r5,r6):=h
 clear h;replace H:=Option.bind_eq_some_iff.mp H
 obtain ⟨⟨t251,t252,t255,t256,t257⟩,A40,H⟩:=H
 replace H : (impl_FollowAt.l0 k l0 a2 (([(⟨a1_0,a1_1,a1_2⟩ : S37)] : List (S37))) t251 t252 t255 t256 t257) = some (r1,r2,r3,r4,r5,r6):=H
 have A4:=Aside0.mk A40;clear A40;obtain ⟨y259,hy259⟩ : ∃ y_ : List (S37),y_ = (([(⟨a1_0,a1_1,a1_2⟩ : S37)] : List (S37))):=⟨_,rfl⟩
 replace H : (impl_FollowAt.l0 k l0 a2 y259 t251 t252 t255 t256 t257) = some (r1,r2,r3,r4,r5,r6):=by first|(rw [hy259];with_reducible exact H)|(have H2_:=(Option.bind_some _ _).symm.trans H;rw [hy259];with_reducible exact H2_)|(have H2_:=(Option.bind_some _ _).symm.trans H;with_reducible exact H2_)|with_reducible exact H|(rw [hy259];exact H)|exact H
 have Ny259:=Aside0.mk hy259;clear hy259;have H':=Aside0.mk H;clear H;go_enter Try.func37,Try.ntmps37
 go_wp2_with (first|((with_reducible refine gate_dst (N:=4) rfl ?_);(try (refine gate_guard (by rfl) ?_;dsimp only));refine box_event ?hg (N:=4) ?hd (cs:=#[.int .i64 a1_0,.int .i64 a1_1,.int .i64 a1_2]) (t:=37) ?hr ?_;(case hd => rfl);(case hg => rfl);(case hr => first|(go_simp;done)|(go_simp;rfl));intro gb249 hg w5 hbox hb;have n0_:=Aside0.mk (below_step (by repeat (first|(with_reducible first|exact HB.out|apply below_alloc|apply pw_below_drewN|apply below_drew1)|exact HB.out)) hb);have n1_:=Aside0.mk (hbox);have n2_:=Aside0.mk ((by rw [hg];exact (below_size (by repeat (first|(with_reducible first|exact HB.out|apply below_alloc|apply pw_below_drewN|apply below_drew1)|exact HB.out))) : w.heap.size ≤ gb249));have n3_:=Aside0.mk ((by rw [hg];exact (below_size (by repeat (first|(with_reducible first|exact HB.out|apply below_alloc|apply pw_below_drewN|apply below_drew1)|exact HB.out))) : w.heap.size ≤ gb249));clear HB;have HB:=n0_;have BK249:=n1_;have GW249:=n2_;have GE249:=n3_;clear n0_ n1_ n2_ n3_;clear hb hbox hg)|((with_reducible refine gate_dst (N:=6) rfl ?_);(try (refine gate_guard (by rfl) ?_;dsimp only));refine box_event ?hg (N:=6) ?hd (cs:=#[.int .i64 0,.slice none 0 0,.int .i64 0,.int .i64 0,.int .i64 0]) (t:=39) ?hr ?_;(case hd => rfl);(case hg => rfl);(case hr => first|(go_simp;done)|(go_simp;rfl));intro gb250 hg w6 hbox hb;have n0_:=Aside0.mk (blk_below (g:=gb249) (o:=.cells #[.int .i64 a1_0,.int .i64 a1_1,.int .i64 a1_2] 37 (0,0)) (by (with_reducible repeat (first|refine blk_drewN ?_ _|refine blk_drew ?_|refine blk_alloc ?_ _));exact BK249.out) hb);have n1_:=Aside0.mk (below_step (by repeat (first|(with_reducible first|exact HB.out|apply below_alloc|apply pw_below_drewN|apply below_drew1|refine below_set ?_ GE249.out)|exact HB.out)) hb);have n2_:=Aside0.mk (hbox);have n3_:=Aside0.mk ((by rw [hg];exact (below_size (by repeat (first|(with_reducible first|exact HB.out|apply below_alloc|apply pw_below_drewN|apply below_drew1|refine below_set ?_ GE249.out)|exact HB.out))) : w.heap.size ≤ gb250));have n4_:=Aside0.mk ((by rw [hg];exact (below_size (by repeat (first|(with_reducible first|exact HB.out|apply below_alloc|apply pw_below_drewN|apply below_drew1|refine below_set ?_ GE249.out)|exact HB.out))) : w.heap.size ≤ gb250));have n5_:=Aside0.mk ((by rw [hg];exact Nat.ne_of_lt (blk_lt (g:=gb249) (o:=.cells #[.int .i64 a1_0,.int .i64 a1_1,.int .i64 a1_2] 37 (0,0)) (by (with_reducible repeat (first|refine blk_drewN ?_ _|refine blk_drew ?_|refine blk_alloc ?_ _));exact BK249.out)) : gb249 ≠ gb250));have n6_:=Aside0.mk ((by rw [hg];exact Nat.ne_of_gt (blk_lt (g:=gb249) (o:=.cells #[.int .i64 a1_0,.int .i64 a1_1,.int .i64 a1_2] 37 (0,0)) (by (with_reducible repeat (first|refine blk_drewN ?_ _|refine blk_drew ?_|refine blk_alloc ?_ _));exact BK249.out)) : gb250 ≠ gb249));clear BK249;clear HB;have BK249:=n0_;have HB:=n1_;have BK250:=n2_;have GW250:=n3_;have GE250:=n4_;have NB249_250:=n5_;have NB250_249:=n6_;clear n0_ n1_ n2_ n3_ n4_ n5_ n6_;clear hb hbox hg;have hnb7:=NB249_250.out;have hnc7:=NB250_249.out;have hcz8_0 : w6.cell? ⟨gb249,0,none⟩ = some (.int .i64 a1_0):=(blk_cell BK249.out 0).trans rfl;have hcz8_1 : w6.cell? ⟨gb249,1,none⟩ = some (.int .i64 a1_1):=(blk_cell BK249.out 1).trans rfl;have hcz8_2 : w6.cell? ⟨gb249,2,none⟩ = some (.int .i64 a1_2):=(blk_cell BK249.out 2).trans rfl;have hfz8_0:=blk_frozen BK249.out 0;have hfz8_1:=blk_frozen BK249.out 1;have hfz8_2:=blk_frozen BK249.out 2)|((with_reducible refine gate_callee (f:=20) rfl ?_);refine goesL_ (some 13) rfl rfl Try.func20 (by kernel_rfl) rfl #[.slice A0 l0.length c0,.agg #[.int .i64 a1_0,.int .i64 a1_1,.int .i64 a1_2],.int .i64 a2] rfl (by (try simp only [List.map_toArray,List.map_cons,List.map_nil]);first|done|rfl|(simp only [List.length_drop,List.length_take];rfl)) ?_;(with_reducible refine (impl_AnswerAt.calls k _ _ l0 a1_0 a1_1 a1_2 a2 t251 t252 t255 t256 t257 _ ?side1 ?side2 A4.out).mono ?_);(case side1 => repeat (first|exact (Kd.C_below HR0.out HB.out)|(with_reducible refine Kd.C_alloc ?_ _)|(with_reducible refine Kd.C_drewN ?_ _)|(with_reducible refine Kd.C_drew ?_)));(case side2 => exact HC0.out);rintro e w9 ⟨v253,rfl,ho0,hb⟩;refine ⟨_,rfl,?_⟩;have n0_:=Aside0.mk (Kd.R_lower ho0 (below_size (by repeat (first|(with_reducible first|exact HB.out|apply below_alloc|apply pw_below_drewN|apply below_drew1|refine below_set ?_ GE249.out|refine below_set ?_ GE250.out)|exact HB.out))));have n1_:=Aside0.mk (blk_below (g:=gb249) (o:=.cells #[.int .i64 a1_0,.int .i64 a1_1,.int .i64 a1_2] 37 (0,0)) (by (with_reducible repeat (first|refine blk_drewN ?_ _|refine blk_drew ?_|refine blk_alloc ?_ _));exact BK249.out) hb);have n2_:=Aside0.mk (blk_below (g:=gb250) (o:=.cells #[.int .i64 0,.slice none 0 0,.int .i64 0,.int .i64 0,.int .i64 0] 39 (0,0)) (by (with_reducible repeat (first|refine blk_drewN ?_ _|refine blk_drew ?_|refine blk_alloc ?_ _));exact BK250.out) hb);have n3_:=Aside0.mk (below_step (by repeat (first|(with_reducible first|exact HB.out|apply below_alloc|apply pw_below_drewN|apply below_drew1|refine below_set ?_ GE249.out|refine below_set ?_ GE250.out)|exact HB.out)) hb);clear BK249;clear BK250;clear HB;have HO254:=n0_;have BK249:=n1_;have BK250:=n2_;have HB:=n3_;clear n0_ n1_ n2_ n3_;(try clear hb);(try clear hk);(try clear ho0))|((with_reducible refine gate_dst (N:=8) rfl ?_);(try (refine gate_guard (by rfl) ?_;dsimp only));refine box_event ?hg (N:=8) ?hd (cs:=#[.int .i64 0,.slice none 0 0,.int .i64 0,.int .i64 0,.int .i64 0]) (t:=39) ?hr ?_;(case hd => rfl);(case hg => rfl);(case hr => first|(go_simp;done)|(go_simp;rfl));intro gb258 hg w10 hbox hb;have n0_:=Aside0.mk (Kd.R_below (by (with_reducible repeat (first|apply Kd.R_alloc|apply Kd.R_drewN|apply Kd.R_drew));exact HO254.out) hb);have n1_:=Aside0.mk (blk_below (g:=gb249) (o:=.cells #[.int .i64 a1_0,.int .i64 a1_1,.int .i64 a1_2] 37 (0,0)) (by (with_reducible repeat (first|refine blk_drewN ?_ _|refine blk_drew ?_|refine blk_alloc ?_ _));exact BK249.out) hb);have n2_:=Aside0.mk (blk_below (g:=gb250) (o:=.cells #[.int .i64 0,.slice none 0 0,.int .i64 0,.int .i64 0,.int .i64 0] 39 (0,0)) (by (with_reducible repeat (first|refine blk_drewN ?_ _|refine blk_drew ?_|refine blk_alloc ?_ _));exact BK250.out) hb);have n3_:=Aside0.mk (below_step (by repeat (first|(with_reducible first|exact HB.out|apply below_alloc|apply pw_below_drewN|apply below_drew1|refine below_set ?_ GE249.out|refine below_set ?_ GE250.out)|exact HB.out)) hb);have n4_:=Aside0.mk (hbox);have n5_:=Aside0.mk ((by rw [hg];exact (below_size (by repeat (first|(with_reducible first|exact HB.out|apply below_alloc|apply pw_below_drewN|apply below_drew1|refine below_set ?_ GE249.out|refine below_set ?_ GE250.out)|exact HB.out))) : w.heap.size ≤ gb258));have n6_:=Aside0.mk ((by rw [hg];exact (below_size (by repeat (first|(with_reducible first|exact HB.out|apply below_alloc|apply pw_below_drewN|apply below_drew1|refine below_set ?_ GE249.out|refine below_set ?_ GE250.out)|exact HB.out))) : w.heap.size ≤ gb258));have n7_:=Aside0.mk ((by rw [hg];exact Nat.ne_of_lt (blk_lt (g:=gb249) (o:=.cells #[.int .i64 a1_0,.int .i64 a1_1,.int .i64 a1_2] 37 (0,0)) (by (with_reducible repeat (first|refine blk_drewN ?_ _|refine blk_drew ?_|refine blk_alloc ?_ _));exact BK249.out)) : gb249 ≠ gb258));have n8_:=Aside0.mk ((by rw [hg];exact Nat.ne_of_gt (blk_lt (g:=gb249) (o:=.cells #[.int .i64 a1_0,.int .i64 a1_1,.int .i64 a1_2] 37 (0,0)) (by (with_reducible repeat (first|refine blk_drewN ?_ _|refine blk_drew ?_|refine blk_alloc ?_ _));exact BK249.out)) : gb258 ≠ gb249));have n9_:=Aside0.mk ((by rw [hg];exact Nat.ne_of_lt (blk_lt (g:=gb250) (o:=.cells #[.int .i64 0,.slice none 0 0,.int .i64 0,.int .i64 0,.int .i64 0] 39 (0,0)) (by (with_reducible repeat (first|refine blk_drewN ?_ _|refine blk_drew ?_|refine blk_alloc ?_ _));exact BK250.out)) : gb250 ≠ gb258));have n10_:=Aside0.mk ((by rw [hg];exact Nat.ne_of_gt (blk_lt (g:=gb250) (o:=.cells #[.int .i64 0,.slice none 0 0,.int .i64 0,.int .i64 0,.int .i64 0] 39 (0,0)) (by (with_reducible repeat (first|refine blk_drewN ?_ _|refine blk_drew ?_|refine blk_alloc ?_ _));exact BK250.out)) : gb258 ≠ gb250));clear HO254;clear BK249;clear BK250;clear HB;have HO254:=n0_;have BK249:=n1_;have BK250:=n2_;have HB:=n3_;have BK258:=n4_;have GW258:=n5_;have GE258:=n6_;have NB249_258:=n7_;have NB258_249:=n8_;have NB250_258:=n9_;have NB258_250:=n10_;clear n0_ n1_ n2_ n3_ n4_ n5_ n6_ n7_ n8_ n9_ n10_;clear hb hbox hg;have hnb11:=NB258_249.out;have hnc11:=NB249_258.out;have hnb12:=NB258_250.out;have hnc12:=NB250_258.out;have hcz13_0 : w10.cell? ⟨gb258,0,none⟩ = some (.int .i64 0):=(blk_cell BK258.out 0).trans rfl;have hcz13_1 : w10.cell? ⟨gb258,1,none⟩ = some (.slice none 0 0):=(blk_cell BK258.out 1).trans rfl;have hcz13_2 : w10.cell? ⟨gb258,2,none⟩ = some (.int .i64 0):=(blk_cell BK258.out 2).trans rfl;have hcz13_3 : w10.cell? ⟨gb258,3,none⟩ = some (.int .i64 0):=(blk_cell BK258.out 3).trans rfl;have hcz13_4 : w10.cell? ⟨gb258,4,none⟩ = some (.int .i64 0):=(blk_cell BK258.out 4).trans rfl;have hfz13_0:=blk_frozen BK258.out 0;have hfz13_1:=blk_frozen BK258.out 1;have hfz13_2:=blk_frozen BK258.out 2;have hfz13_3:=blk_frozen BK258.out 3;have hfz13_4:=blk_frozen BK258.out 4;obtain ⟨Ao14,co14,eo14⟩:=Kd.R_slice HO254.out;subst eo14;have hcz15_0 : w10.cell? ⟨gb249,0,none⟩ = some (.int .i64 a1_0):=(blk_cell BK249.out 0).trans rfl;have hcz15_1 : w10.cell? ⟨gb249,1,none⟩ = some (.int .i64 a1_1):=(blk_cell BK249.out 1).trans rfl;have hcz15_2 : w10.cell? ⟨gb249,2,none⟩ = some (.int .i64 a1_2):=(blk_cell BK249.out 2).trans rfl;have hfz15_0:=blk_frozen BK249.out 0;have hfz15_1:=blk_frozen BK249.out 1;have hfz15_2:=blk_frozen BK249.out 2)|((with_reducible refine gate_dst (N:=15) rfl ?_);(try (refine gate_guard (by rfl) ?_;dsimp only));refine Kd.R_lit k37 _ 37 ?hg (N:=15) ?hd (xs:=([(⟨a1_0,a1_1,a1_2⟩ : S37)] : List (S37))) (inner:=[.int .i64 a1_0,.int .i64 a1_1,.int .i64 a1_2]) (ok:=fun _ => True) (okp:=fun _ => True) ?hr ?hp (fun _ hk => hk) trivial (Below.refl _ _) (Nat.le_refl _) (by simp) ?_;(case hd => rfl);(case hg => rfl);(case hr => first|(go_simp;done)|(go_simp;rfl));(case hp => exact (Reps.c3 (show Kd.M k37 _ _ _ (⟨a1_0,a1_1,a1_2⟩ : S37) [.int .i64 a1_0,.int .i64 a1_1,.int .i64 a1_2] from (k37_mkM _ _ _ (⟨a1_0,a1_1,a1_2⟩ : S37) )) (Reps.none _ _)));intro v260 w16 ho17 hb hg_ hnew_;clear hg_ hnew_;(first|rw [← Ny259.out] at ho17|(simp only [Int.reduceToNat] at ho17;rw [← Ny259.out] at ho17));have n0_:=Aside0.mk (Kd.R_below (by (with_reducible repeat (first|apply Kd.R_alloc|apply Kd.R_drewN|apply Kd.R_drew));exact (Kd.R_mono (Kd.R_far (p:=⟨gb258,4,none⟩) (Kd.R_far (p:=⟨gb258,3,none⟩) (Kd.R_far (p:=⟨gb258,2,none⟩) (Kd.R_far (p:=⟨gb258,1,none⟩) (Kd.R_far (p:=⟨gb258,0,none⟩) (Kd.R_types HO254.out BK258.out (by decide)) (fun _ hk => hk.2) (.int .i64 t251)) (fun _ hk => hk.2) (.slice Ao14 t252.length co14)) (fun _ hk => hk.2) (.int .i64 t255)) (fun _ hk => hk.2) (.int .i64 t256)) (fun _ hk => hk.2) (.int .i64 t257)) (fun _ h_ => h_.1))) hb);have n1_:=Aside0.mk (Kd.R_lower (Kd.R_newB ho17 (g:=gb249) (o:=.cells #[.int .i64 a1_0,.int .i64 a1_1,.int .i64 a1_2] 37 (0,0)) (by (with_reducible repeat (first|refine blk_drewN ?_ _|refine blk_drew ?_|refine blk_alloc ?_ _));refine blk_far ?_ NB249_258.out _;(with_reducible repeat (first|refine blk_drewN ?_ _|refine blk_drew ?_|refine blk_alloc ?_ _));refine blk_far ?_ NB249_258.out _;(with_reducible repeat (first|refine blk_drewN ?_ _|refine blk_drew ?_|refine blk_alloc ?_ _));refine blk_far ?_ NB249_258.out _;(with_reducible repeat (first|refine blk_drewN ?_ _|refine blk_drew ?_|refine blk_alloc ?_ _));refine blk_far ?_ NB249_258.out _;(with_reducible repeat (first|refine blk_drewN ?_ _|refine blk_drew ?_|refine blk_alloc ?_ _));refine blk_far ?_ NB249_258.out _;(with_reducible repeat (first|refine blk_drewN ?_ _|refine blk_drew ?_|refine blk_alloc ?_ _));exact BK249.out)) (below_size (by repeat (first|(with_reducible first|exact HB.out|apply below_alloc|apply pw_below_drewN|apply below_drew1|refine below_set ?_ GE249.out|refine below_set ?_ GE250.out|refine below_set ?_ GE258.out)|exact HB.out))));have n2_:=Aside0.mk (blk_below (g:=gb249) (o:=.cells #[.int .i64 a1_0,.int .i64 a1_1,.int .i64 a1_2] 37 (0,0)) (by (with_reducible repeat (first|refine blk_drewN ?_ _|refine blk_drew ?_|refine blk_alloc ?_ _));refine blk_far ?_ NB249_258.out _;(with_reducible repeat (first|refine blk_drewN ?_ _|refine blk_drew ?_|refine blk_alloc ?_ _));refine blk_far ?_ NB249_258.out _;(with_reducible repeat (first|refine blk_drewN ?_ _|refine blk_drew ?_|refine blk_alloc ?_ _));refine blk_far ?_ NB249_258.out _;(with_reducible repeat (first|refine blk_drewN ?_ _|refine blk_drew ?_|refine blk_alloc ?_ _));refine blk_far ?_ NB249_258.out _;(with_reducible repeat (first|refine blk_drewN ?_ _|refine blk_drew ?_|refine blk_alloc ?_ _));refine blk_far ?_ NB249_258.out _;(with_reducible repeat (first|refine blk_drewN ?_ _|refine blk_drew ?_|refine blk_alloc ?_ _));exact BK249.out) hb);have n3_:=Aside0.mk (blk_below (g:=gb250) (o:=.cells #[.int .i64 0,.slice none 0 0,.int .i64 0,.int .i64 0,.int .i64 0] 39 (0,0)) (by (with_reducible repeat (first|refine blk_drewN ?_ _|refine blk_drew ?_|refine blk_alloc ?_ _));refine blk_far ?_ NB250_258.out _;(with_reducible repeat (first|refine blk_drewN ?_ _|refine blk_drew ?_|refine blk_alloc ?_ _));refine blk_far ?_ NB250_258.out _;(with_reducible repeat (first|refine blk_drewN ?_ _|refine blk_drew ?_|refine blk_alloc ?_ _));refine blk_far ?_ NB250_258.out _;(with_reducible repeat (first|refine blk_drewN ?_ _|refine blk_drew ?_|refine blk_alloc ?_ _));refine blk_far ?_ NB250_258.out _;(with_reducible repeat (first|refine blk_drewN ?_ _|refine blk_drew ?_|refine blk_alloc ?_ _));refine blk_far ?_ NB250_258.out _;(with_reducible repeat (first|refine blk_drewN ?_ _|refine blk_drew ?_|refine blk_alloc ?_ _));exact BK250.out) hb);have n4_:=Aside0.mk (blk_below (g:=gb258) (o:=.cells #[.int .i64 t251,.slice Ao14 t252.length co14,.int .i64 t255,.int .i64 t256,.int .i64 t257] 39 (0,0)) (by (with_reducible repeat (first|refine blk_drewN ?_ _|refine blk_drew ?_|refine blk_alloc ?_ _));refine blk_put (cs:=#[.int .i64 t251,.slice Ao14 t252.length co14,.int .i64 t255,.int .i64 t256,.int .i64 0]) ?_ 4 _ rfl;(with_reducible repeat (first|refine blk_drewN ?_ _|refine blk_drew ?_|refine blk_alloc ?_ _));refine blk_put (cs:=#[.int .i64 t251,.slice Ao14 t252.length co14,.int .i64 t255,.int .i64 0,.int .i64 0]) ?_ 3 _ rfl;(with_reducible repeat (first|refine blk_drewN ?_ _|refine blk_drew ?_|refine blk_alloc ?_ _));refine blk_put (cs:=#[.int .i64 t251,.slice Ao14 t252.length co14,.int .i64 0,.int .i64 0,.int .i64 0]) ?_ 2 _ rfl;(with_reducible repeat (first|refine blk_drewN ?_ _|refine blk_drew ?_|refine blk_alloc ?_ _));refine blk_put (cs:=#[.int .i64 t251,.slice none 0 0,.int .i64 0,.int .i64 0,.int .i64 0]) ?_ 1 _ rfl;(with_reducible repeat (first|refine blk_drewN ?_ _|refine blk_drew ?_|refine blk_alloc ?_ _));refine blk_put (cs:=#[.int .i64 0,.slice none 0 0,.int .i64 0,.int .i64 0,.int .i64 0]) ?_ 0 _ rfl;(with_reducible repeat (first|refine blk_drewN ?_ _|refine blk_drew ?_|refine blk_alloc ?_ _));exact BK258.out) hb);have n5_:=Aside0.mk (below_step (by repeat (first|(with_reducible first|exact HB.out|apply below_alloc|apply pw_below_drewN|apply below_drew1|refine below_set ?_ GE249.out|refine below_set ?_ GE250.out|refine below_set ?_ GE258.out)|exact HB.out)) hb);clear HO254;clear BK249;clear BK250;clear BK258;clear HB;have HO254:=n0_;have HO261:=n1_;have BK249:=n2_;have BK250:=n3_;have BK258:=n4_;have HB:=n5_;clear n0_ n1_ n2_ n3_ n4_ n5_;clear hb ho17))
 go_loopg [9] k (fun kq v9 w' => ∃ (x9_1 : List (S37)) (x259000_1 : Int) (x259001_1 : List Int) (x259002_1 : Int) (x259003_1 : Int) (x259004_1 : Int) (u259001 : Value),Aside0 (impl_FollowAt.l0 kq l0 a2 x9_1 x259000_1 x259001_1 x259002_1 x259003_1 x259004_1 = some (r1,r2,r3,r4,r5,r6)) ∧ Aside0 (kq ≤ k) ∧ Aside0 (Kd.R k37 37 w' w.heap.size (fun k_ => k_ ≠ gb249) v9 x9_1) ∧ Aside0 (Kd.R (Kd.int .i64) 3 w' w.heap.size (fun _ => True) u259001 x259001_1) ∧ Aside0 (w'.heap[gb249]? = some (.cells #[.int .i64 a1_0,.int .i64 a1_1,.int .i64 a1_2] 37 (0,0))) ∧ Aside0 (w'.heap[gb250]? = some (.cells #[.int .i64 0,(.slice none 0 0),.int .i64 0,.int .i64 0,.int .i64 0] 39 (0,0))) ∧ Aside0 (w'.heap[gb258]? = some (.cells #[.int .i64 x259000_1,u259001,.int .i64 x259002_1,.int .i64 x259003_1,.int .i64 x259004_1] 39 (0,0))) ∧ Aside0 (Below w.heap.size w w'))
 case atStart => exact ⟨(y259),(t251),(t252),(t255),(t256),(t257),(.slice Ao14 t252.length co14),H',⟨Nat.le_refl _⟩,⟨by (with_reducible repeat (first|apply Kd.R_alloc|apply Kd.R_drewN|apply Kd.R_drew));exact Kd.R_mono HO261.out (fun _ hk => hk.2)⟩,⟨by (with_reducible repeat (first|apply Kd.R_alloc|apply Kd.R_drewN|apply Kd.R_drew));exact HO254.out⟩,⟨by (with_reducible repeat (first|refine blk_drewN ?_ _|refine blk_drew ?_|refine blk_alloc ?_ _));exact BK249.out⟩,⟨by (with_reducible repeat (first|refine blk_drewN ?_ _|refine blk_drew ?_|refine blk_alloc ?_ _));exact BK250.out⟩,⟨by (with_reducible repeat (first|refine blk_drewN ?_ _|refine blk_drew ?_|refine blk_alloc ?_ _));exact BK258.out⟩,⟨by repeat (first|(with_reducible first|exact HB.out|apply below_alloc|apply pw_below_drewN|apply below_drew1|refine below_set ?_ GE249.out|refine below_set ?_ GE250.out|refine below_set ?_ GE258.out)|exact HB.out)⟩⟩
 case round =>
  clear H';try clear c1
  try clear c2
  try clear p2
  try clear c3
  try clear c7
  try clear c11
  try clear c12
  try clear hcz13_0
  try clear hcz13_1
  try clear hcz13_2
  try clear hcz13_3
  try clear hcz13_4
  try clear hcz15_0
  try clear hcz15_1
  try clear hcz15_2
  try clear hcz8_0
  try clear hcz8_1
  try clear hcz8_2
  try clear hfz13_0
  try clear hfz13_1
  try clear hfz13_2
  try clear hfz13_3
  try clear hfz13_4
  try clear hfz15_0
  try clear hfz15_1
  try clear hfz15_2
  try clear hfz8_0
  try clear hfz8_1
  try clear hfz8_2
  obtain ⟨x9_1,x259000_1,x259001_1,x259002_1,x259003_1,x259004_1,u259001,HA,HK1,HO_9,HO_259001,BK249,BK250,BK258,HB⟩:=hrel;cases gk with
 |zero => exact absurd HA.out (by simp [impl_FollowAt.l0])
 |succ k1 =>
   have H:=HA.out;clear HA;simp only [impl_FollowAt.l0] at H
   by_cases c18 : x259000_1 = 3
   ·rw [if_pos c18] at H
    have c18b0 : (x259000_1 == 3) = true:=beq_iff_eq.mpr c18
    have c18b1 : (x259000_1 != 3) = false:=bne_eq_false_iff_eq.mpr c18
    clear c18;by_cases c19 : (x9_1.length : Int) ≤ 4
    ·rw [if_pos c19] at H
     have c19b0 : decide ((x9_1.length : Int) ≤ 4) = true:=decide_eq_true c19
     have c19b1 : decide (x9_1.length ≤ 4) = true:=decide_eq_true (by omega)
     clear c19;replace H:=Option.bind_eq_some_iff.mp H
     obtain ⟨t262,A200,H⟩:=H;replace H : (if t262 = true then (some (x259000_1,x259001_1,x259002_1,x259003_1,x259004_1,x9_1)) else (if x9_1.length < 5864062014805 then ((impl_AnswerAt.f k1 l0 x259002_1 x259003_1 x259004_1 a2).bind fun bt266 => (impl_FollowAt.l0 k1 l0 a2 (x9_1 ++ [(⟨x259002_1,x259003_1,x259004_1⟩ : S37)]) bt266.1 bt266.2.1 bt266.2.2.1 bt266.2.2.2.1 bt266.2.2.2.2)) else (none))) = some (r1,r2,r3,r4,r5,r6):=H
     have A20:=Aside0.mk A200;clear A200;by_cases c21 : t262 = true
     ·subst c21
      have H1 : (some (x259000_1,x259001_1,x259002_1,x259003_1,x259004_1,x9_1)) = some (r1,r2,r3,r4,r5,r6):=by rw [if_pos rfl] at H;exact H
      clear H;have H:=H1;clear H1;simp only [Option.some.injEq,Prod.mk.injEq] at H
      obtain ⟨rfl,rfl,rfl,rfl,rfl,rfl⟩:=H;have hnb22:=NB258_249.out;have hnc22:=NB249_258.out;have hnb23:=NB258_250.out;have hnc23:=NB250_258.out;have hcz24_0 : wr.cell? ⟨gb258,0,none⟩ = some (.int .i64 x259000_1):=(blk_cell BK258.out 0).trans rfl
      have hcz24_1 : wr.cell? ⟨gb258,1,none⟩ = some (u259001):=(blk_cell BK258.out 1).trans rfl
      have hcz24_2 : wr.cell? ⟨gb258,2,none⟩ = some (.int .i64 x259002_1):=(blk_cell BK258.out 2).trans rfl
      have hcz24_3 : wr.cell? ⟨gb258,3,none⟩ = some (.int .i64 x259003_1):=(blk_cell BK258.out 3).trans rfl
      have hcz24_4 : wr.cell? ⟨gb258,4,none⟩ = some (.int .i64 x259004_1):=(blk_cell BK258.out 4).trans rfl
      have hfz24_0:=blk_frozen BK258.out 0
      have hfz24_1:=blk_frozen BK258.out 1
      have hfz24_2:=blk_frozen BK258.out 2
      have hfz24_3:=blk_frozen BK258.out 3
      have hfz24_4:=blk_frozen BK258.out 4
      obtain ⟨Ao25,co25,eo25⟩:=Kd.R_slice HO_9.out
      subst eo25
      go_wp2_with (first|(go_at_call 74;(with_reducible refine (impl_Address_74.calls k1 _ _ x9_1 x259002_1 x259003_1 x259004_1 true _ ?side1 ?side2 A20.out).mono ?_);(case side1 => repeat (first|exact (Kd.R_reads' HO_9.out).2.2|(with_reducible refine Kd.C_alloc ?_ _)|(with_reducible refine Kd.C_drewN ?_ _)|(with_reducible refine Kd.C_drew ?_)));(case side2 => exact (Kd.R_reads' HO_9.out).2.1);rintro e w26 ⟨rfl,hb⟩;have n0_:=Aside0.mk (Kd.R_below (by (with_reducible repeat (first|apply Kd.R_alloc|apply Kd.R_drewN|apply Kd.R_drew));exact HO_9.out) hb);have n1_:=Aside0.mk (Kd.R_below (by (with_reducible repeat (first|apply Kd.R_alloc|apply Kd.R_drewN|apply Kd.R_drew));exact HO_259001.out) hb);have n2_:=Aside0.mk (blk_below (g:=gb249) (o:=.cells #[.int .i64 a1_0,.int .i64 a1_1,.int .i64 a1_2] 37 (0,0)) (by (with_reducible repeat (first|refine blk_drewN ?_ _|refine blk_drew ?_|refine blk_alloc ?_ _));exact BK249.out) hb);have n3_:=Aside0.mk (blk_below (g:=gb250) (o:=.cells #[.int .i64 0,.slice none 0 0,.int .i64 0,.int .i64 0,.int .i64 0] 39 (0,0)) (by (with_reducible repeat (first|refine blk_drewN ?_ _|refine blk_drew ?_|refine blk_alloc ?_ _));exact BK250.out) hb);have n4_:=Aside0.mk (blk_below (g:=gb258) (o:=.cells #[.int .i64 x259000_1,u259001,.int .i64 x259002_1,.int .i64 x259003_1,.int .i64 x259004_1] 39 (0,0)) (by (with_reducible repeat (first|refine blk_drewN ?_ _|refine blk_drew ?_|refine blk_alloc ?_ _));exact BK258.out) hb);have n5_:=Aside0.mk (below_step (by repeat (first|(with_reducible first|exact HB.out|apply below_alloc|apply pw_below_drewN|apply below_drew1|refine below_set ?_ GE249.out|refine below_set ?_ GE250.out|refine below_set ?_ GE258.out)|exact HB.out)) hb);clear HO_9;clear HO_259001;clear BK249;clear BK250;clear BK258;clear HB;have HO_9:=n0_;have HO_259001:=n1_;have BK249:=n2_;have BK250:=n3_;have BK258:=n4_;have HB:=n5_;clear n0_ n1_ n2_ n3_ n4_ n5_;(try clear hb);(try clear hk);have hcz27_0 : w26.cell? ⟨gb258,0,none⟩ = some (.int .i64 x259000_1):=(blk_cell BK258.out 0).trans rfl;have hcz27_1 : w26.cell? ⟨gb258,1,none⟩ = some (u259001):=(blk_cell BK258.out 1).trans rfl;have hcz27_2 : w26.cell? ⟨gb258,2,none⟩ = some (.int .i64 x259002_1):=(blk_cell BK258.out 2).trans rfl;have hcz27_3 : w26.cell? ⟨gb258,3,none⟩ = some (.int .i64 x259003_1):=(blk_cell BK258.out 3).trans rfl;have hcz27_4 : w26.cell? ⟨gb258,4,none⟩ = some (.int .i64 x259004_1):=(blk_cell BK258.out 4).trans rfl;have hfz27_0:=blk_frozen BK258.out 0;have hfz27_1:=blk_frozen BK258.out 1;have hfz27_2:=blk_frozen BK258.out 2;have hfz27_3:=blk_frozen BK258.out 3;have hfz27_4:=blk_frozen BK258.out 4;have hnb28:=NB250_249.out;have hnc28:=NB249_250.out;have hcz29_0 : w26.cell? ⟨gb250,0,none⟩ = some (.int .i64 0):=(blk_cell BK250.out 0).trans rfl;have hcz29_1 : w26.cell? ⟨gb250,1,none⟩ = some (.slice none 0 0):=(blk_cell BK250.out 1).trans rfl;have hcz29_2 : w26.cell? ⟨gb250,2,none⟩ = some (.int .i64 0):=(blk_cell BK250.out 2).trans rfl;have hcz29_3 : w26.cell? ⟨gb250,3,none⟩ = some (.int .i64 0):=(blk_cell BK250.out 3).trans rfl;have hcz29_4 : w26.cell? ⟨gb250,4,none⟩ = some (.int .i64 0):=(blk_cell BK250.out 4).trans rfl;have hfz29_0:=blk_frozen BK250.out 0;have hfz29_1:=blk_frozen BK250.out 1;have hfz29_2:=blk_frozen BK250.out 2;have hfz29_3:=blk_frozen BK250.out 3;have hfz29_4:=blk_frozen BK250.out 4;obtain ⟨Ao30,co30,eo30⟩:=Kd.R_slice HO_259001.out;subst eo30))
      refine bodyPost_ret (results_ct rfl _ _ gb250 39 #[.int .i64 x259000_1,.slice Ao30 x259001_1.length co30,.int .i64 x259002_1,.int .i64 x259003_1,.int .i64 x259004_1] (0,0) _ rfl (by (with_reducible repeat (first|refine blk_drewN ?_ _|refine blk_drew ?_|refine blk_alloc ?_ _));refine blk_put (cs:=#[.int .i64 x259000_1,.slice Ao30 x259001_1.length co30,.int .i64 x259002_1,.int .i64 x259003_1,.int .i64 0]) ?_ 4 _ rfl;(with_reducible repeat (first|refine blk_drewN ?_ _|refine blk_drew ?_|refine blk_alloc ?_ _));refine blk_put (cs:=#[.int .i64 x259000_1,.slice Ao30 x259001_1.length co30,.int .i64 x259002_1,.int .i64 0,.int .i64 0]) ?_ 3 _ rfl;(with_reducible repeat (first|refine blk_drewN ?_ _|refine blk_drew ?_|refine blk_alloc ?_ _));refine blk_put (cs:=#[.int .i64 x259000_1,.slice Ao30 x259001_1.length co30,.int .i64 0,.int .i64 0,.int .i64 0]) ?_ 2 _ rfl;(with_reducible repeat (first|refine blk_drewN ?_ _|refine blk_drew ?_|refine blk_alloc ?_ _));refine blk_put (cs:=#[.int .i64 x259000_1,.slice none 0 0,.int .i64 0,.int .i64 0,.int .i64 0]) ?_ 1 _ rfl;(with_reducible repeat (first|refine blk_drewN ?_ _|refine blk_drew ?_|refine blk_alloc ?_ _));refine blk_put (cs:=#[.int .i64 0,.slice none 0 0,.int .i64 0,.int .i64 0,.int .i64 0]) ?_ 0 _ rfl;(with_reducible repeat (first|refine blk_drewN ?_ _|refine blk_drew ?_|refine blk_alloc ?_ _));exact BK250.out) Try.underlying39 rfl (by kernel_rfl)) rfl ?_
      exact ⟨_,_,by first|rfl|(simp [errW_none,errW_some] <;> rfl)|(simp [*,errW_none,errW_some] <;> rfl),by (with_reducible repeat (first|apply Kd.R_alloc|apply Kd.R_drewN|apply Kd.R_drew));exact Kd.R_mono (Kd.R_far (p:=⟨gb250,4,none⟩) (Kd.R_far (p:=⟨gb250,3,none⟩) (Kd.R_far (p:=⟨gb250,2,none⟩) (Kd.R_far (p:=⟨gb250,1,none⟩) (Kd.R_far (p:=⟨gb250,0,none⟩) (Kd.R_types HO_259001.out BK250.out (by decide)) (fun _ hk => hk.2) (.int .i64 x259000_1)) (fun _ hk => hk.2) (.slice Ao30 x259001_1.length co30)) (fun _ hk => hk.2) (.int .i64 x259002_1)) (fun _ hk => hk.2) (.int .i64 x259003_1)) (fun _ hk => hk.2) (.int .i64 x259004_1)) (fun _ hk => trivial),by (with_reducible repeat (first|apply Kd.R_alloc|apply Kd.R_drewN|apply Kd.R_drew));exact Kd.R_mono (Kd.R_far (p:=⟨gb250,4,none⟩) (Kd.R_far (p:=⟨gb250,3,none⟩) (Kd.R_far (p:=⟨gb250,2,none⟩) (Kd.R_far (p:=⟨gb250,1,none⟩) (Kd.R_far (p:=⟨gb250,0,none⟩) (Kd.R_types HO_9.out BK250.out (by decide)) (fun _ hk => hk.2) (.int .i64 x259000_1)) (fun _ hk => hk.2) (.slice Ao30 x259001_1.length co30)) (fun _ hk => hk.2) (.int .i64 x259002_1)) (fun _ hk => hk.2) (.int .i64 x259003_1)) (fun _ hk => hk.2) (.int .i64 x259004_1)) (fun _ hk => trivial),by repeat (first|(with_reducible first|exact HB.out|apply below_alloc|apply pw_below_drewN|apply below_drew1|refine below_set ?_ GE249.out|refine below_set ?_ GE250.out|refine below_set ?_ GE258.out)|exact HB.out)⟩
     ·replace c21:=Bool.eq_false_iff.mpr c21
      subst c21
      have H1 : (if x9_1.length < 5864062014805 then ((impl_AnswerAt.f k1 l0 x259002_1 x259003_1 x259004_1 a2).bind fun bt266 => (impl_FollowAt.l0 k1 l0 a2 (x9_1 ++ [(⟨x259002_1,x259003_1,x259004_1⟩ : S37)]) bt266.1 bt266.2.1 bt266.2.2.1 bt266.2.2.2.1 bt266.2.2.2.2)) else (none)) = some (r1,r2,r3,r4,r5,r6):=by rw [if_neg (show ¬ (false = true) by decide)] at H;exact H
      clear H;have H:=H1;clear H1;by_cases c31 : x9_1.length < 5864062014805
      ·rw [if_pos c31] at H
       have LMc31:=Aside0.mk c31;clear c31;obtain ⟨y263,hy263⟩ : ∃ y_ : List (S37),y_ = (x9_1 ++ [(⟨x259002_1,x259003_1,x259004_1⟩ : S37)]):=⟨_,rfl⟩
       replace H : ((impl_AnswerAt.f k1 l0 x259002_1 x259003_1 x259004_1 a2).bind fun bt266 => (impl_FollowAt.l0 k1 l0 a2 y263 bt266.1 bt266.2.1 bt266.2.2.1 bt266.2.2.2.1 bt266.2.2.2.2)) = some (r1,r2,r3,r4,r5,r6):=by first|(rw [hy263];with_reducible exact H)|(have H2_:=(Option.bind_some _ _).symm.trans H;rw [hy263];with_reducible exact H2_)|(have H2_:=(Option.bind_some _ _).symm.trans H;with_reducible exact H2_)|with_reducible exact H|(rw [hy263];exact H)|exact H
       have Ny263:=Aside0.mk hy263;clear hy263;replace H:=Option.bind_eq_some_iff.mp H
       obtain ⟨⟨t266,t267,t270,t271,t272⟩,A320,H⟩:=H
       replace H : (impl_FollowAt.l0 k1 l0 a2 y263 t266 t267 t270 t271 t272) = some (r1,r2,r3,r4,r5,r6):=H
       have A32:=Aside0.mk A320;clear A320;have H':=Aside0.mk H;clear H;have hnb33:=NB258_249.out;have hnc33:=NB249_258.out;have hnb34:=NB258_250.out;have hnc34:=NB250_258.out;have hcz35_0 : wr.cell? ⟨gb258,0,none⟩ = some (.int .i64 x259000_1):=(blk_cell BK258.out 0).trans rfl
       have hcz35_1 : wr.cell? ⟨gb258,1,none⟩ = some (u259001):=(blk_cell BK258.out 1).trans rfl
       have hcz35_2 : wr.cell? ⟨gb258,2,none⟩ = some (.int .i64 x259002_1):=(blk_cell BK258.out 2).trans rfl
       have hcz35_3 : wr.cell? ⟨gb258,3,none⟩ = some (.int .i64 x259003_1):=(blk_cell BK258.out 3).trans rfl
       have hcz35_4 : wr.cell? ⟨gb258,4,none⟩ = some (.int .i64 x259004_1):=(blk_cell BK258.out 4).trans rfl
       have hfz35_0:=blk_frozen BK258.out 0
       have hfz35_1:=blk_frozen BK258.out 1
       have hfz35_2:=blk_frozen BK258.out 2
       have hfz35_3:=blk_frozen BK258.out 3
       have hfz35_4:=blk_frozen BK258.out 4
       obtain ⟨Ao36,co36,eo36⟩:=Kd.R_slice HO_9.out
       subst eo36
       go_wp2_with (first|(go_at_call 74;(with_reducible refine (impl_Address_74.calls k1 _ _ x9_1 x259002_1 x259003_1 x259004_1 false _ ?side1 ?side2 A20.out).mono ?_);(case side1 => repeat (first|exact (Kd.R_reads' HO_9.out).2.2|(with_reducible refine Kd.C_alloc ?_ _)|(with_reducible refine Kd.C_drewN ?_ _)|(with_reducible refine Kd.C_drew ?_)));(case side2 => exact (Kd.R_reads' HO_9.out).2.1);rintro e w37 ⟨rfl,hb⟩;have n0_:=Aside0.mk (Kd.R_below (by (with_reducible repeat (first|apply Kd.R_alloc|apply Kd.R_drewN|apply Kd.R_drew));exact HO_9.out) hb);have n1_:=Aside0.mk (Kd.R_below (by (with_reducible repeat (first|apply Kd.R_alloc|apply Kd.R_drewN|apply Kd.R_drew));exact HO_259001.out) hb);have n2_:=Aside0.mk (blk_below (g:=gb249) (o:=.cells #[.int .i64 a1_0,.int .i64 a1_1,.int .i64 a1_2] 37 (0,0)) (by (with_reducible repeat (first|refine blk_drewN ?_ _|refine blk_drew ?_|refine blk_alloc ?_ _));exact BK249.out) hb);have n3_:=Aside0.mk (blk_below (g:=gb250) (o:=.cells #[.int .i64 0,.slice none 0 0,.int .i64 0,.int .i64 0,.int .i64 0] 39 (0,0)) (by (with_reducible repeat (first|refine blk_drewN ?_ _|refine blk_drew ?_|refine blk_alloc ?_ _));exact BK250.out) hb);have n4_:=Aside0.mk (blk_below (g:=gb258) (o:=.cells #[.int .i64 x259000_1,u259001,.int .i64 x259002_1,.int .i64 x259003_1,.int .i64 x259004_1] 39 (0,0)) (by (with_reducible repeat (first|refine blk_drewN ?_ _|refine blk_drew ?_|refine blk_alloc ?_ _));exact BK258.out) hb);have n5_:=Aside0.mk (below_step (by repeat (first|(with_reducible first|exact HB.out|apply below_alloc|apply pw_below_drewN|apply below_drew1|refine below_set ?_ GE249.out|refine below_set ?_ GE250.out|refine below_set ?_ GE258.out)|exact HB.out)) hb);clear HO_9;clear HO_259001;clear BK249;clear BK250;clear BK258;clear HB;have HO_9:=n0_;have HO_259001:=n1_;have BK249:=n2_;have BK250:=n3_;have BK258:=n4_;have HB:=n5_;clear n0_ n1_ n2_ n3_ n4_ n5_;(try clear hb);(try clear hk);have hcz38_0 : w37.cell? ⟨gb258,0,none⟩ = some (.int .i64 x259000_1):=(blk_cell BK258.out 0).trans rfl;have hcz38_1 : w37.cell? ⟨gb258,1,none⟩ = some (u259001):=(blk_cell BK258.out 1).trans rfl;have hcz38_2 : w37.cell? ⟨gb258,2,none⟩ = some (.int .i64 x259002_1):=(blk_cell BK258.out 2).trans rfl;have hcz38_3 : w37.cell? ⟨gb258,3,none⟩ = some (.int .i64 x259003_1):=(blk_cell BK258.out 3).trans rfl;have hcz38_4 : w37.cell? ⟨gb258,4,none⟩ = some (.int .i64 x259004_1):=(blk_cell BK258.out 4).trans rfl;have hfz38_0:=blk_frozen BK258.out 0;have hfz38_1:=blk_frozen BK258.out 1;have hfz38_2:=blk_frozen BK258.out 2;have hfz38_3:=blk_frozen BK258.out 3;have hfz38_4:=blk_frozen BK258.out 4)|((with_reducible refine gate_builtin (b:=.append) (xs:=#[.tmp 31,.tmp 34]) rfl ?_);(try (refine gate_guard (by rfl) ?_;dsimp only));at_builtin;refine Kd.R_append k37 (w0:=w) w.heap.size rfl (.tmp 31) (.tmp 34) 62 37 (.agg #[(.int .i64 0),(.int .i64 0),(.int .i64 0)]) 24 rfl Try.underlying62 info37 rfl (by decide) (by omega) (.slice Ao36 x9_1.length co36) x9_1 (⟨x259002_1,x259003_1,x259004_1⟩ : S37) [.int .i64 x259002_1,.int .i64 x259003_1,.int .i64 x259004_1] (fun k_ => k_ ≠ gb249) (fun _ => False) rfl rfl ?aP (fun _ hk => hk.elim) ?aF ?aO ?aB ?aS ?aL ?_;(case aP => exact k37_mkM _ _ _ (⟨x259002_1,x259003_1,x259004_1⟩ : S37));(case aB => exact (by repeat (first|(with_reducible first|exact HB.out|apply below_alloc|apply pw_below_drewN|apply below_drew1|refine below_set ?_ GE249.out|refine below_set ?_ GE250.out|refine below_set ?_ GE258.out)|exact HB.out)));(case aF => exact (fun k_ hk => Kd.freshB (g:=gb249) (o:=.cells #[.int .i64 a1_0,.int .i64 a1_1,.int .i64 a1_2] 37 (0,0)) (by (with_reducible repeat (first|refine blk_drewN ?_ _|refine blk_drew ?_|refine blk_alloc ?_ _));exact BK249.out) k_ hk));(case aO => exact (by (with_reducible repeat (first|apply Kd.R_alloc|apply Kd.R_drewN|apply Kd.R_drew));exact HO_9.out));(case aS => exact (below_size (by repeat (first|(with_reducible first|exact HB.out|apply below_alloc|apply pw_below_drewN|apply below_drew1|refine below_set ?_ GE249.out|refine below_set ?_ GE250.out|refine below_set ?_ GE258.out)|exact HB.out))));(case aL => have:=LMc31.out;omega);intro v264 w39 ho hb hg hat;rw [← Ny263.out] at ho;have n0_:=Aside0.mk (Kd.R_over' (by (with_reducible repeat (first|apply Kd.R_alloc|apply Kd.R_drewN|apply Kd.R_drew));exact HO_259001.out) (Kd.R_typed (by (with_reducible repeat (first|apply Kd.R_alloc|apply Kd.R_drewN|apply Kd.R_drew));exact HO_9.out)) (by decide) hg);have n1_:=Aside0.mk (blk_grown (g:=gb249) (o:=.cells #[.int .i64 a1_0,.int .i64 a1_1,.int .i64 a1_2] 37 (0,0)) (by (with_reducible repeat (first|refine blk_drewN ?_ _|refine blk_drew ?_|refine blk_alloc ?_ _));exact BK249.out) hg (Kd.R_away HO_9.out (fun _ hk => hk)));have n2_:=Aside0.mk (blk_grown (g:=gb250) (o:=.cells #[.int .i64 0,.slice none 0 0,.int .i64 0,.int .i64 0,.int .i64 0] 39 (0,0)) (by (with_reducible repeat (first|refine blk_drewN ?_ _|refine blk_drew ?_|refine blk_alloc ?_ _));exact BK250.out) hg (Kd.R_ne HO_9.out BK250.out (by decide)));have n3_:=Aside0.mk (blk_grown (g:=gb258) (o:=.cells #[.int .i64 x259000_1,u259001,.int .i64 x259002_1,.int .i64 x259003_1,.int .i64 x259004_1] 39 (0,0)) (by (with_reducible repeat (first|refine blk_drewN ?_ _|refine blk_drew ?_|refine blk_alloc ?_ _));exact BK258.out) hg (Kd.R_ne HO_9.out BK258.out (by decide)));have n4_:=Aside0.mk (hb);have n5_:=Aside0.mk (ho);clear HO_259001;clear BK249;clear BK250;clear BK258;clear HB;clear HO_9;have HO_259001:=n0_;have BK249:=n1_;have BK250:=n2_;have BK258:=n3_;have HB:=n4_;have HO265:=n5_;clear n0_ n1_ n2_ n3_ n4_ n5_;clear ho hb hg hat;have hcz40_0 : w39.cell? ⟨gb258,0,none⟩ = some (.int .i64 x259000_1):=(blk_cell BK258.out 0).trans rfl;have hcz40_1 : w39.cell? ⟨gb258,1,none⟩ = some (u259001):=(blk_cell BK258.out 1).trans rfl;have hcz40_2 : w39.cell? ⟨gb258,2,none⟩ = some (.int .i64 x259002_1):=(blk_cell BK258.out 2).trans rfl;have hcz40_3 : w39.cell? ⟨gb258,3,none⟩ = some (.int .i64 x259003_1):=(blk_cell BK258.out 3).trans rfl;have hcz40_4 : w39.cell? ⟨gb258,4,none⟩ = some (.int .i64 x259004_1):=(blk_cell BK258.out 4).trans rfl;have hfz40_0:=blk_frozen BK258.out 0;have hfz40_1:=blk_frozen BK258.out 1;have hfz40_2:=blk_frozen BK258.out 2;have hfz40_3:=blk_frozen BK258.out 3;have hfz40_4:=blk_frozen BK258.out 4)|((with_reducible refine gate_callee (f:=20) rfl ?_);refine goesL_ (some 40) rfl rfl Try.func20 (by kernel_rfl) rfl #[.slice A0 l0.length c0,.agg #[.int .i64 x259002_1,.int .i64 x259003_1,.int .i64 x259004_1],.int .i64 a2] rfl (by (try simp only [List.map_toArray,List.map_cons,List.map_nil]);first|done|rfl|(simp only [List.length_drop,List.length_take];rfl)) ?_;(with_reducible refine (impl_AnswerAt.calls k1 _ _ l0 x259002_1 x259003_1 x259004_1 a2 t266 t267 t270 t271 t272 _ ?side1 ?side2 A32.out).mono ?_);(case side1 => repeat (first|exact (Kd.C_below HR0.out HB.out)|(with_reducible refine Kd.C_alloc ?_ _)|(with_reducible refine Kd.C_drewN ?_ _)|(with_reducible refine Kd.C_drew ?_)));(case side2 => exact HC0.out);rintro e w41 ⟨v268,rfl,ho0,hb⟩;refine ⟨_,rfl,?_⟩;have n0_:=Aside0.mk (Kd.R_elder' (by (with_reducible repeat (first|apply Kd.R_alloc|apply Kd.R_drewN|apply Kd.R_drew));exact HO_259001.out) (Kd.R_base ho0) hb);have n1_:=Aside0.mk (Kd.R_below (by (with_reducible repeat (first|apply Kd.R_alloc|apply Kd.R_drewN|apply Kd.R_drew));exact HO265.out) hb);have n2_:=Aside0.mk (Kd.R_lower (Kd.R_new' ho0 (Kd.R_lt (by (with_reducible repeat (first|apply Kd.R_alloc|apply Kd.R_drewN|apply Kd.R_drew));exact HO_259001.out))) (below_size (by repeat (first|(with_reducible first|exact HB.out|apply below_alloc|apply pw_below_drewN|apply below_drew1|refine below_set ?_ GE249.out|refine below_set ?_ GE250.out|refine below_set ?_ GE258.out)|exact HB.out))));have n3_:=Aside0.mk (blk_below (g:=gb249) (o:=.cells #[.int .i64 a1_0,.int .i64 a1_1,.int .i64 a1_2] 37 (0,0)) (by (with_reducible repeat (first|refine blk_drewN ?_ _|refine blk_drew ?_|refine blk_alloc ?_ _));exact BK249.out) hb);have n4_:=Aside0.mk (blk_below (g:=gb250) (o:=.cells #[.int .i64 0,.slice none 0 0,.int .i64 0,.int .i64 0,.int .i64 0] 39 (0,0)) (by (with_reducible repeat (first|refine blk_drewN ?_ _|refine blk_drew ?_|refine blk_alloc ?_ _));exact BK250.out) hb);have n5_:=Aside0.mk (blk_below (g:=gb258) (o:=.cells #[.int .i64 x259000_1,u259001,.int .i64 x259002_1,.int .i64 x259003_1,.int .i64 x259004_1] 39 (0,0)) (by (with_reducible repeat (first|refine blk_drewN ?_ _|refine blk_drew ?_|refine blk_alloc ?_ _));exact BK258.out) hb);have n6_:=Aside0.mk (below_step (by repeat (first|(with_reducible first|exact HB.out|apply below_alloc|apply pw_below_drewN|apply below_drew1|refine below_set ?_ GE249.out|refine below_set ?_ GE250.out|refine below_set ?_ GE258.out)|exact HB.out)) hb);clear HO_259001;clear HO265;clear BK249;clear BK250;clear BK258;clear HB;have HO_259001:=n0_;have HO265:=n1_;have HO269:=n2_;have BK249:=n3_;have BK250:=n4_;have BK258:=n5_;have HB:=n6_;clear n0_ n1_ n2_ n3_ n4_ n5_ n6_;(try clear hb);(try clear hk);(try clear ho0);have hcz42_0 : w41.cell? ⟨gb258,0,none⟩ = some (.int .i64 x259000_1):=(blk_cell BK258.out 0).trans rfl;have hcz42_1 : w41.cell? ⟨gb258,1,none⟩ = some (u259001):=(blk_cell BK258.out 1).trans rfl;have hcz42_2 : w41.cell? ⟨gb258,2,none⟩ = some (.int .i64 x259002_1):=(blk_cell BK258.out 2).trans rfl;have hcz42_3 : w41.cell? ⟨gb258,3,none⟩ = some (.int .i64 x259003_1):=(blk_cell BK258.out 3).trans rfl;have hcz42_4 : w41.cell? ⟨gb258,4,none⟩ = some (.int .i64 x259004_1):=(blk_cell BK258.out 4).trans rfl;have hfz42_0:=blk_frozen BK258.out 0;have hfz42_1:=blk_frozen BK258.out 1;have hfz42_2:=blk_frozen BK258.out 2;have hfz42_3:=blk_frozen BK258.out 3;have hfz42_4:=blk_frozen BK258.out 4;obtain ⟨Ao43,co43,eo43⟩:=Kd.R_slice HO269.out;subst eo43))
       go_roundg k1
       case measure => have:=HK1.out;omega
       case rel => exact ⟨(y263),(t266),(t267),(t270),(t271),(t272),(.slice Ao43 t267.length co43),H',⟨by have:=HK1.out;omega⟩,⟨by (with_reducible repeat (first|apply Kd.R_alloc|apply Kd.R_drewN|apply Kd.R_drew));exact Kd.R_mono (Kd.R_far (p:=⟨gb258,4,none⟩) (Kd.R_far (p:=⟨gb258,3,none⟩) (Kd.R_far (p:=⟨gb258,2,none⟩) (Kd.R_far (p:=⟨gb258,1,none⟩) (Kd.R_far (p:=⟨gb258,0,none⟩) (Kd.R_types HO265.out BK258.out (by decide)) (fun _ hk => hk.2) (.int .i64 t266)) (fun _ hk => hk.2) (.slice Ao43 t267.length co43)) (fun _ hk => hk.2) (.int .i64 t270)) (fun _ hk => hk.2) (.int .i64 t271)) (fun _ hk => hk.2) (.int .i64 t272)) (fun _ hk => hk.1)⟩,⟨by (with_reducible repeat (first|apply Kd.R_alloc|apply Kd.R_drewN|apply Kd.R_drew));exact Kd.R_mono (Kd.R_far (p:=⟨gb258,4,none⟩) (Kd.R_far (p:=⟨gb258,3,none⟩) (Kd.R_far (p:=⟨gb258,2,none⟩) (Kd.R_far (p:=⟨gb258,1,none⟩) (Kd.R_far (p:=⟨gb258,0,none⟩) (Kd.R_types HO269.out BK258.out (by decide)) (fun _ hk => hk.2) (.int .i64 t266)) (fun _ hk => hk.2) (.slice Ao43 t267.length co43)) (fun _ hk => hk.2) (.int .i64 t270)) (fun _ hk => hk.2) (.int .i64 t271)) (fun _ hk => hk.2) (.int .i64 t272)) (fun _ hk => trivial)⟩,⟨by (with_reducible repeat (first|refine blk_drewN ?_ _|refine blk_drew ?_|refine blk_alloc ?_ _));refine blk_far ?_ NB249_258.out _;(with_reducible repeat (first|refine blk_drewN ?_ _|refine blk_drew ?_|refine blk_alloc ?_ _));refine blk_far ?_ NB249_258.out _;(with_reducible repeat (first|refine blk_drewN ?_ _|refine blk_drew ?_|refine blk_alloc ?_ _));refine blk_far ?_ NB249_258.out _;(with_reducible repeat (first|refine blk_drewN ?_ _|refine blk_drew ?_|refine blk_alloc ?_ _));refine blk_far ?_ NB249_258.out _;(with_reducible repeat (first|refine blk_drewN ?_ _|refine blk_drew ?_|refine blk_alloc ?_ _));refine blk_far ?_ NB249_258.out _;(with_reducible repeat (first|refine blk_drewN ?_ _|refine blk_drew ?_|refine blk_alloc ?_ _));exact BK249.out⟩,⟨by (with_reducible repeat (first|refine blk_drewN ?_ _|refine blk_drew ?_|refine blk_alloc ?_ _));refine blk_far ?_ NB250_258.out _;(with_reducible repeat (first|refine blk_drewN ?_ _|refine blk_drew ?_|refine blk_alloc ?_ _));refine blk_far ?_ NB250_258.out _;(with_reducible repeat (first|refine blk_drewN ?_ _|refine blk_drew ?_|refine blk_alloc ?_ _));refine blk_far ?_ NB250_258.out _;(with_reducible repeat (first|refine blk_drewN ?_ _|refine blk_drew ?_|refine blk_alloc ?_ _));refine blk_far ?_ NB250_258.out _;(with_reducible repeat (first|refine blk_drewN ?_ _|refine blk_drew ?_|refine blk_alloc ?_ _));refine blk_far ?_ NB250_258.out _;(with_reducible repeat (first|refine blk_drewN ?_ _|refine blk_drew ?_|refine blk_alloc ?_ _));exact BK250.out⟩,⟨by (with_reducible repeat (first|refine blk_drewN ?_ _|refine blk_drew ?_|refine blk_alloc ?_ _));refine blk_put (cs:=#[.int .i64 t266,.slice Ao43 t267.length co43,.int .i64 t270,.int .i64 t271,.int .i64 x259004_1]) ?_ 4 _ rfl;(with_reducible repeat (first|refine blk_drewN ?_ _|refine blk_drew ?_|refine blk_alloc ?_ _));refine blk_put (cs:=#[.int .i64 t266,.slice Ao43 t267.length co43,.int .i64 t270,.int .i64 x259003_1,.int .i64 x259004_1]) ?_ 3 _ rfl;(with_reducible repeat (first|refine blk_drewN ?_ _|refine blk_drew ?_|refine blk_alloc ?_ _));refine blk_put (cs:=#[.int .i64 t266,.slice Ao43 t267.length co43,.int .i64 x259002_1,.int .i64 x259003_1,.int .i64 x259004_1]) ?_ 2 _ rfl;(with_reducible repeat (first|refine blk_drewN ?_ _|refine blk_drew ?_|refine blk_alloc ?_ _));refine blk_put (cs:=#[.int .i64 t266,u259001,.int .i64 x259002_1,.int .i64 x259003_1,.int .i64 x259004_1]) ?_ 1 _ rfl;(with_reducible repeat (first|refine blk_drewN ?_ _|refine blk_drew ?_|refine blk_alloc ?_ _));refine blk_put (cs:=#[.int .i64 x259000_1,u259001,.int .i64 x259002_1,.int .i64 x259003_1,.int .i64 x259004_1]) ?_ 0 _ rfl;(with_reducible repeat (first|refine blk_drewN ?_ _|refine blk_drew ?_|refine blk_alloc ?_ _));exact BK258.out⟩,⟨by repeat (first|(with_reducible first|exact HB.out|apply below_alloc|apply pw_below_drewN|apply below_drew1|refine below_set ?_ GE249.out|refine below_set ?_ GE250.out|refine below_set ?_ GE258.out)|exact HB.out)⟩⟩
      ·rw [if_neg c31] at H
       exact absurd H (by simp)
    ·rw [if_neg c19] at H
     have c19b0 : decide ((x9_1.length : Int) ≤ 4) = false:=decide_eq_false c19
     have c19b1 : decide (x9_1.length ≤ 4) = false:=decide_eq_false (by omega)
     clear c19;simp only [Option.some.injEq,Prod.mk.injEq] at H
     obtain ⟨rfl,rfl,rfl,rfl,rfl,rfl⟩:=H;have hnb44:=NB258_249.out;have hnc44:=NB249_258.out;have hnb45:=NB258_250.out;have hnc45:=NB250_258.out;have hcz46_0 : wr.cell? ⟨gb258,0,none⟩ = some (.int .i64 x259000_1):=(blk_cell BK258.out 0).trans rfl
     have hcz46_1 : wr.cell? ⟨gb258,1,none⟩ = some (u259001):=(blk_cell BK258.out 1).trans rfl
     have hcz46_2 : wr.cell? ⟨gb258,2,none⟩ = some (.int .i64 x259002_1):=(blk_cell BK258.out 2).trans rfl
     have hcz46_3 : wr.cell? ⟨gb258,3,none⟩ = some (.int .i64 x259003_1):=(blk_cell BK258.out 3).trans rfl
     have hcz46_4 : wr.cell? ⟨gb258,4,none⟩ = some (.int .i64 x259004_1):=(blk_cell BK258.out 4).trans rfl
     have hfz46_0:=blk_frozen BK258.out 0
     have hfz46_1:=blk_frozen BK258.out 1
     have hfz46_2:=blk_frozen BK258.out 2
     have hfz46_3:=blk_frozen BK258.out 3
     have hfz46_4:=blk_frozen BK258.out 4
     obtain ⟨Ao47,co47,eo47⟩:=Kd.R_slice HO_9.out
     subst eo47
     have hnb48:=NB250_249.out;have hnc48:=NB249_250.out;have hcz49_0 : wr.cell? ⟨gb250,0,none⟩ = some (.int .i64 0):=(blk_cell BK250.out 0).trans rfl
     have hcz49_1 : wr.cell? ⟨gb250,1,none⟩ = some (.slice none 0 0):=(blk_cell BK250.out 1).trans rfl
     have hcz49_2 : wr.cell? ⟨gb250,2,none⟩ = some (.int .i64 0):=(blk_cell BK250.out 2).trans rfl
     have hcz49_3 : wr.cell? ⟨gb250,3,none⟩ = some (.int .i64 0):=(blk_cell BK250.out 3).trans rfl
     have hcz49_4 : wr.cell? ⟨gb250,4,none⟩ = some (.int .i64 0):=(blk_cell BK250.out 4).trans rfl
     have hfz49_0:=blk_frozen BK250.out 0
     have hfz49_1:=blk_frozen BK250.out 1
     have hfz49_2:=blk_frozen BK250.out 2
     have hfz49_3:=blk_frozen BK250.out 3
     have hfz49_4:=blk_frozen BK250.out 4
     obtain ⟨Ao50,co50,eo50⟩:=Kd.R_slice HO_259001.out
     subst eo50
     go_wp2
     refine bodyPost_ret (results_ct rfl _ _ gb250 39 #[.int .i64 x259000_1,.slice Ao50 x259001_1.length co50,.int .i64 x259002_1,.int .i64 x259003_1,.int .i64 x259004_1] (0,0) _ rfl (by (with_reducible repeat (first|refine blk_drewN ?_ _|refine blk_drew ?_|refine blk_alloc ?_ _));refine blk_put (cs:=#[.int .i64 x259000_1,.slice Ao50 x259001_1.length co50,.int .i64 x259002_1,.int .i64 x259003_1,.int .i64 0]) ?_ 4 _ rfl;(with_reducible repeat (first|refine blk_drewN ?_ _|refine blk_drew ?_|refine blk_alloc ?_ _));refine blk_put (cs:=#[.int .i64 x259000_1,.slice Ao50 x259001_1.length co50,.int .i64 x259002_1,.int .i64 0,.int .i64 0]) ?_ 3 _ rfl;(with_reducible repeat (first|refine blk_drewN ?_ _|refine blk_drew ?_|refine blk_alloc ?_ _));refine blk_put (cs:=#[.int .i64 x259000_1,.slice Ao50 x259001_1.length co50,.int .i64 0,.int .i64 0,.int .i64 0]) ?_ 2 _ rfl;(with_reducible repeat (first|refine blk_drewN ?_ _|refine blk_drew ?_|refine blk_alloc ?_ _));refine blk_put (cs:=#[.int .i64 x259000_1,.slice none 0 0,.int .i64 0,.int .i64 0,.int .i64 0]) ?_ 1 _ rfl;(with_reducible repeat (first|refine blk_drewN ?_ _|refine blk_drew ?_|refine blk_alloc ?_ _));refine blk_put (cs:=#[.int .i64 0,.slice none 0 0,.int .i64 0,.int .i64 0,.int .i64 0]) ?_ 0 _ rfl;(with_reducible repeat (first|refine blk_drewN ?_ _|refine blk_drew ?_|refine blk_alloc ?_ _));exact BK250.out) Try.underlying39 rfl (by kernel_rfl)) rfl ?_
     exact ⟨_,_,by first|rfl|(simp [errW_none,errW_some] <;> rfl)|(simp [*,errW_none,errW_some] <;> rfl),by (with_reducible repeat (first|apply Kd.R_alloc|apply Kd.R_drewN|apply Kd.R_drew));exact Kd.R_mono (Kd.R_far (p:=⟨gb250,4,none⟩) (Kd.R_far (p:=⟨gb250,3,none⟩) (Kd.R_far (p:=⟨gb250,2,none⟩) (Kd.R_far (p:=⟨gb250,1,none⟩) (Kd.R_far (p:=⟨gb250,0,none⟩) (Kd.R_types HO_259001.out BK250.out (by decide)) (fun _ hk => hk.2) (.int .i64 x259000_1)) (fun _ hk => hk.2) (.slice Ao50 x259001_1.length co50)) (fun _ hk => hk.2) (.int .i64 x259002_1)) (fun _ hk => hk.2) (.int .i64 x259003_1)) (fun _ hk => hk.2) (.int .i64 x259004_1)) (fun _ hk => trivial),by (with_reducible repeat (first|apply Kd.R_alloc|apply Kd.R_drewN|apply Kd.R_drew));exact Kd.R_mono (Kd.R_far (p:=⟨gb250,4,none⟩) (Kd.R_far (p:=⟨gb250,3,none⟩) (Kd.R_far (p:=⟨gb250,2,none⟩) (Kd.R_far (p:=⟨gb250,1,none⟩) (Kd.R_far (p:=⟨gb250,0,none⟩) (Kd.R_types HO_9.out BK250.out (by decide)) (fun _ hk => hk.2) (.int .i64 x259000_1)) (fun _ hk => hk.2) (.slice Ao50 x259001_1.length co50)) (fun _ hk => hk.2) (.int .i64 x259002_1)) (fun _ hk => hk.2) (.int .i64 x259003_1)) (fun _ hk => hk.2) (.int .i64 x259004_1)) (fun _ hk => trivial),by repeat (first|(with_reducible first|exact HB.out|apply below_alloc|apply pw_below_drewN|apply below_drew1|refine below_set ?_ GE249.out|refine below_set ?_ GE250.out|refine below_set ?_ GE258.out)|exact HB.out)⟩
   ·rw [if_neg c18] at H
    have c18b0 : (x259000_1 == 3) = false:=beq_eq_false_iff_ne.mpr c18
    have c18b1 : (x259000_1 != 3) = true:=bne_iff_ne.mpr c18
    simp only [Option.some.injEq,Prod.mk.injEq] at H
    obtain ⟨rfl,rfl,rfl,rfl,rfl,rfl⟩:=H;have hnb51:=NB258_249.out;have hnc51:=NB249_258.out;have hnb52:=NB258_250.out;have hnc52:=NB250_258.out;have hcz53_0 : wr.cell? ⟨gb258,0,none⟩ = some (.int .i64 x259000_1):=(blk_cell BK258.out 0).trans rfl
    have hcz53_1 : wr.cell? ⟨gb258,1,none⟩ = some (u259001):=(blk_cell BK258.out 1).trans rfl
    have hcz53_2 : wr.cell? ⟨gb258,2,none⟩ = some (.int .i64 x259002_1):=(blk_cell BK258.out 2).trans rfl
    have hcz53_3 : wr.cell? ⟨gb258,3,none⟩ = some (.int .i64 x259003_1):=(blk_cell BK258.out 3).trans rfl
    have hcz53_4 : wr.cell? ⟨gb258,4,none⟩ = some (.int .i64 x259004_1):=(blk_cell BK258.out 4).trans rfl
    have hfz53_0:=blk_frozen BK258.out 0
    have hfz53_1:=blk_frozen BK258.out 1
    have hfz53_2:=blk_frozen BK258.out 2
    have hfz53_3:=blk_frozen BK258.out 3
    have hfz53_4:=blk_frozen BK258.out 4
    have hnb54:=NB250_249.out;have hnc54:=NB249_250.out;have hcz55_0 : wr.cell? ⟨gb250,0,none⟩ = some (.int .i64 0):=(blk_cell BK250.out 0).trans rfl
    have hcz55_1 : wr.cell? ⟨gb250,1,none⟩ = some (.slice none 0 0):=(blk_cell BK250.out 1).trans rfl
    have hcz55_2 : wr.cell? ⟨gb250,2,none⟩ = some (.int .i64 0):=(blk_cell BK250.out 2).trans rfl
    have hcz55_3 : wr.cell? ⟨gb250,3,none⟩ = some (.int .i64 0):=(blk_cell BK250.out 3).trans rfl
    have hcz55_4 : wr.cell? ⟨gb250,4,none⟩ = some (.int .i64 0):=(blk_cell BK250.out 4).trans rfl
    have hfz55_0:=blk_frozen BK250.out 0
    have hfz55_1:=blk_frozen BK250.out 1
    have hfz55_2:=blk_frozen BK250.out 2
    have hfz55_3:=blk_frozen BK250.out 3
    have hfz55_4:=blk_frozen BK250.out 4
    obtain ⟨Ao56,co56,eo56⟩:=Kd.R_slice HO_259001.out
    subst eo56
    go_wp2
    refine bodyPost_ret (results_ct rfl _ _ gb250 39 #[.int .i64 x259000_1,.slice Ao56 x259001_1.length co56,.int .i64 x259002_1,.int .i64 x259003_1,.int .i64 x259004_1] (0,0) _ rfl (by (with_reducible repeat (first|refine blk_drewN ?_ _|refine blk_drew ?_|refine blk_alloc ?_ _));refine blk_put (cs:=#[.int .i64 x259000_1,.slice Ao56 x259001_1.length co56,.int .i64 x259002_1,.int .i64 x259003_1,.int .i64 0]) ?_ 4 _ rfl;(with_reducible repeat (first|refine blk_drewN ?_ _|refine blk_drew ?_|refine blk_alloc ?_ _));refine blk_put (cs:=#[.int .i64 x259000_1,.slice Ao56 x259001_1.length co56,.int .i64 x259002_1,.int .i64 0,.int .i64 0]) ?_ 3 _ rfl;(with_reducible repeat (first|refine blk_drewN ?_ _|refine blk_drew ?_|refine blk_alloc ?_ _));refine blk_put (cs:=#[.int .i64 x259000_1,.slice Ao56 x259001_1.length co56,.int .i64 0,.int .i64 0,.int .i64 0]) ?_ 2 _ rfl;(with_reducible repeat (first|refine blk_drewN ?_ _|refine blk_drew ?_|refine blk_alloc ?_ _));refine blk_put (cs:=#[.int .i64 x259000_1,.slice none 0 0,.int .i64 0,.int .i64 0,.int .i64 0]) ?_ 1 _ rfl;(with_reducible repeat (first|refine blk_drewN ?_ _|refine blk_drew ?_|refine blk_alloc ?_ _));refine blk_put (cs:=#[.int .i64 0,.slice none 0 0,.int .i64 0,.int .i64 0,.int .i64 0]) ?_ 0 _ rfl;(with_reducible repeat (first|refine blk_drewN ?_ _|refine blk_drew ?_|refine blk_alloc ?_ _));exact BK250.out) Try.underlying39 rfl (by kernel_rfl)) rfl ?_
    exact ⟨_,_,by first|rfl|(simp [errW_none,errW_some] <;> rfl)|(simp [*,errW_none,errW_some] <;> rfl),by (with_reducible repeat (first|apply Kd.R_alloc|apply Kd.R_drewN|apply Kd.R_drew));exact Kd.R_mono (Kd.R_far (p:=⟨gb250,4,none⟩) (Kd.R_far (p:=⟨gb250,3,none⟩) (Kd.R_far (p:=⟨gb250,2,none⟩) (Kd.R_far (p:=⟨gb250,1,none⟩) (Kd.R_far (p:=⟨gb250,0,none⟩) (Kd.R_types HO_259001.out BK250.out (by decide)) (fun _ hk => hk.2) (.int .i64 x259000_1)) (fun _ hk => hk.2) (.slice Ao56 x259001_1.length co56)) (fun _ hk => hk.2) (.int .i64 x259002_1)) (fun _ hk => hk.2) (.int .i64 x259003_1)) (fun _ hk => hk.2) (.int .i64 x259004_1)) (fun _ hk => trivial),by (with_reducible repeat (first|apply Kd.R_alloc|apply Kd.R_drewN|apply Kd.R_drew));exact Kd.R_mono (Kd.R_far (p:=⟨gb250,4,none⟩) (Kd.R_far (p:=⟨gb250,3,none⟩) (Kd.R_far (p:=⟨gb250,2,none⟩) (Kd.R_far (p:=⟨gb250,1,none⟩) (Kd.R_far (p:=⟨gb250,0,none⟩) (Kd.R_types HO_9.out BK250.out (by decide)) (fun _ hk => hk.2) (.int .i64 x259000_1)) (fun _ hk => hk.2) (.slice Ao56 x259001_1.length co56)) (fun _ hk => hk.2) (.int .i64 x259002_1)) (fun _ hk => hk.2) (.int .i64 x259003_1)) (fun _ hk => hk.2) (.int .i64 x259004_1)) (fun _ hk => trivial),by repeat (first|(with_reducible first|exact HB.out|apply below_alloc|apply pw_below_drewN|apply below_drew1|refine below_set ?_ GE249.out|refine below_set ?_ GE250.out|refine below_set ?_ GE258.out)|exact HB.out)⟩
end Go.Proofs.Ytgcidlnhgpjdpad.QFnExactFollowAt
