/- The Go functions that the law FnExactIsStore comes to, each as a Lean function, with a proof that the call does what it says; written by a program of this session over the print of the kit. No conditions. -/
import Derived.Test.YtgcidlnhgpjdpadQFnExactIsStorex0
import Derived.Test.YtgcidlnhgpjdpadQFnExactIsStorex1
import Derived.Test.YtgcidlnhgpjdpadQFnExactIsStorex3
namespace Go.Proofs.Ytgcidlnhgpjdpad.QFnExactIsStore
open Go.RowKit Go.Proofs.YtgcidlnhgpjdpadW.PrintWords Go.Proofs.YtgcidlnhgpjdpadW.PrintLast Go.Proofs.YtgcidlnhgpjdpadW.PrintMore
attribute [local go_sem] max2_int min2_int max_two min_two max_three min_three max_four min_four   -- for this text's walks alone
set_option linter.unusedVariables false
set_option linter.unusedSimpArgs false
set_option maxHeartbeats 8000000
set_option maxRecDepth 100000
attribute [local go_sem high] eqA37
def spec_IsResource.j0 : Nat → Bool → Int → List Int → Int → Int → Int → Option (Bool)
  | 0, _, _, _, _, _, _ => none
  | k + 1, x18, x169000, x169001, x169002, x169003, x169004 => if x18 = true then (some false) else (if x169000 = 3 then ((spec_IsAddress.f x169002 x169003 x169004).bind fun t171 => (if t171 = true then (some ((x169001.length : Int) == 0)) else (some false))) else (if (x169002 == 0 && (x169003 == 0 && (x169004 == 0))) = true then (if x169000 = 4 then (some ((x169001.length : Int) == 0)) else (some true)) else (some false)))
def spec_IsResource.f (k : Nat) (a0_0 : Int) (l0_1 : List Int) (a0_2 : Int) (a0_3 : Int) (a0_4 : Int) : Option (Bool) := (spec_l1In.f a0_0 1 4).bind fun t169 => (if t169 = true then ((spec_l5Bytes.f k l0_1).bind fun t170 => (if t170 = true then (spec_IsResource.j0 k (decide ((l0_1.length : Int) > 6)) a0_0 l0_1 a0_2 a0_3 a0_4) else (spec_IsResource.j0 k true a0_0 l0_1 a0_2 a0_3 a0_4))) else (spec_IsResource.j0 k true a0_0 l0_1 a0_2 a0_3 a0_4))
theorem spec_IsResource.mono_l : ∀ k, (∀ y0 y1 y2 y3 y4 y5, LeO (spec_IsResource.j0 k y0 y1 y2 y3 y4 y5) (spec_IsResource.j0 (k + 1) y0 y1 y2 y3 y4 y5))
  | 0 => fun _ _ _ _ _ _ r h => by simp [spec_IsResource.j0] at h
  | k + 1 => by
    have ih0 := spec_IsResource.mono_l k
    · intro y0 y1 y2 y3 y4 y5
      unfold spec_IsResource.j0
      repeat' first
      | (with_reducible exact ih0 _ _ _ _ _ _)
      | (with_reducible exact spec_l5Bytes.mono _ _)
      | (with_reducible exact LeO.refl _)
      | (with_reducible exact LeO.none _)
      | (with_reducible refine LeO.ite ?_ ?_)
      | (with_reducible refine LeO.bind ?_ (fun _ => ?_))
      | exact ih0 _ _ _ _ _ _
      | exact spec_l5Bytes.mono _ _
      | exact LeO.none _
      | refine LeO.ite ?_ ?_
      | refine LeO.bind ?_ (fun _ => ?_)
theorem spec_IsResource.mono : ∀ a0 a1 a2 a3 a4 k, LeO (spec_IsResource.f k a0 a1 a2 a3 a4) (spec_IsResource.f (k + 1) a0 a1 a2 a3 a4) := by
  intro a0 a1 a2 a3 a4 k
  have ih0 := spec_IsResource.mono_l k
  unfold spec_IsResource.f
  repeat' first
      | (with_reducible exact ih0 _ _ _ _ _ _)
      | (with_reducible exact spec_l5Bytes.mono _ _)
      | (with_reducible exact LeO.refl _)
      | (with_reducible exact LeO.none _)
      | (with_reducible refine LeO.ite ?_ ?_)
      | (with_reducible refine LeO.bind ?_ (fun _ => ?_))
      | exact ih0 _ _ _ _ _ _
      | exact spec_l5Bytes.mono _ _
      | exact LeO.none _
      | refine LeO.ite ?_ ?_
      | refine LeO.bind ?_ (fun _ => ?_)
theorem spec_IsResource.calls (k : Nat) (a0_0 : Int) (A0_1 : Option Addr) (c0_1 : Nat) (l0_1 : List Int) (a0_2 : Int) (a0_3 : Int) (a0_4 : Int) (r : Bool) (w : World) (hr0_1 : Kd.C (Kd.int .i64) w A0_1 l0_1.length l0_1) (hc0_1 : l0_1.length ≤ c0_1) (h : spec_IsResource.f k a0_0 l0_1 a0_2 a0_3 a0_4 = some r) :
  Calls Try.prog 69 #[.agg #[.int .i64 a0_0,.slice A0_1 l0_1.length c0_1,.int .i64 a0_2,.int .i64 a0_3,.int .i64 a0_4]] w fun e w' => e = .returned (.bool r) ∧ Below w.heap.size w w':=by
 have hu39:=Try.underlying39
 have hu37:=Try.underlying37
 have HR0_1:=Aside0.mk hr0_1;have HC0_1:=Aside0.mk hc0_1;clear hr0_1 hc0_1;have HB:=Aside0.mk (Below.refl w.heap.size w)
 have H : ((spec_l1In.f a0_0 1 4).bind fun t169 => (if t169 = true then ((spec_l5Bytes.f k l0_1).bind fun t170 => (if t170 = true then (spec_IsResource.j0 k (decide ((l0_1.length : Int) > 6)) a0_0 l0_1 a0_2 a0_3 a0_4) else (spec_IsResource.j0 k true a0_0 l0_1 a0_2 a0_3 a0_4))) else (spec_IsResource.j0 k true a0_0 l0_1 a0_2 a0_3 a0_4))) = some r:=h
 clear h;have HC2:=Aside0.mk H;clear H;go_enter Try.func69,Try.ntmps69
 go_upto_region 1 with (first|((with_reducible refine gate_dst (N:=1) rfl ?_);(try (refine gate_guard (by rfl) ?_;dsimp only));refine box_event ?hg (N:=1) ?hd (cs:=#[.int .i64 a0_0,.slice A0_1 l0_1.length c0_1,.int .i64 a0_2,.int .i64 a0_3,.int .i64 a0_4]) (t:=39) ?hr ?_;(case hd => rfl);(case hg => rfl);(case hr => first|(go_simp;done)|(go_simp;rfl));intro gb168 hg w3 hbox hb;have n0_:=Aside0.mk (below_step (by repeat (first|(with_reducible first|exact HB.out|apply below_alloc|apply pw_below_drewN|apply below_drew1)|exact HB.out)) hb);have n1_:=Aside0.mk (hbox);have n2_:=Aside0.mk ((by rw [hg];exact (below_size (by repeat (first|(with_reducible first|exact HB.out|apply below_alloc|apply pw_below_drewN|apply below_drew1)|exact HB.out))) : w.heap.size ≤ gb168));have n3_:=Aside0.mk ((by rw [hg];exact (below_size (by repeat (first|(with_reducible first|exact HB.out|apply below_alloc|apply pw_below_drewN|apply below_drew1)|exact HB.out))) : w.heap.size ≤ gb168));clear HB;have HB:=n0_;have BK168:=n1_;have GW168:=n2_;have GE168:=n3_;clear n0_ n1_ n2_ n3_;clear hb hbox hg))
 (try simp only [Act.put,List.setIfInBounds_toArray,List.set_cons_zero,List.set_cons_succ])
 go_cut [18] (fun v18 wc => ∃ (kq : Nat) (x18_1 : Bool),v18 = .bool x18_1 ∧ Aside0 (spec_IsResource.j0 kq x18_1 a0_0 l0_1 a0_2 a0_3 a0_4 = some r) ∧ Aside0 (kq ≤ k) ∧ Aside0 (wc.heap[gb168]? = some (.cells #[.int .i64 a0_0,(.slice A0_1 l0_1.length c0_1),.int .i64 a0_2,.int .i64 a0_3,.int .i64 a0_4] 39 (0,0))) ∧ Aside0 (Below w.heap.size w wc))
 case first =>
  have H:=HC2.out;clear HC2;replace H:=Option.bind_eq_some_iff.mp H
  obtain ⟨t169,A40,H⟩:=H;replace H : (if t169 = true then ((spec_l5Bytes.f k l0_1).bind fun t170 => (if t170 = true then (spec_IsResource.j0 k (decide ((l0_1.length : Int) > 6)) a0_0 l0_1 a0_2 a0_3 a0_4) else (spec_IsResource.j0 k true a0_0 l0_1 a0_2 a0_3 a0_4))) else (spec_IsResource.j0 k true a0_0 l0_1 a0_2 a0_3 a0_4)) = some r:=H
  have A4:=Aside0.mk A40;clear A40;by_cases c5 : t169 = true
  ·subst c5
   have H1 : ((spec_l5Bytes.f k l0_1).bind fun t170 => (if t170 = true then (spec_IsResource.j0 k (decide ((l0_1.length : Int) > 6)) a0_0 l0_1 a0_2 a0_3 a0_4) else (spec_IsResource.j0 k true a0_0 l0_1 a0_2 a0_3 a0_4))) = some r:=by rw [if_pos rfl] at H;exact H
   clear H;have H:=H1;clear H1;replace H:=Option.bind_eq_some_iff.mp H
   obtain ⟨t170,A60,H⟩:=H;replace H : (if t170 = true then (spec_IsResource.j0 k (decide ((l0_1.length : Int) > 6)) a0_0 l0_1 a0_2 a0_3 a0_4) else (spec_IsResource.j0 k true a0_0 l0_1 a0_2 a0_3 a0_4)) = some r:=H
   have A6:=Aside0.mk A60;clear A60;by_cases c7 : t170 = true
   ·subst c7
    have H1 : (spec_IsResource.j0 k (decide ((l0_1.length : Int) > 6)) a0_0 l0_1 a0_2 a0_3 a0_4) = some r:=by rw [if_pos rfl] at H;exact H
    clear H;have H:=H1;clear H1;have H':=Aside0.mk H;clear H;have hcz8_0 : w3.cell? ⟨gb168,0,none⟩ = some (.int .i64 a0_0):=(blk_cell BK168.out 0).trans rfl
    have hcz8_1 : w3.cell? ⟨gb168,1,none⟩ = some (.slice A0_1 l0_1.length c0_1):=(blk_cell BK168.out 1).trans rfl
    have hcz8_2 : w3.cell? ⟨gb168,2,none⟩ = some (.int .i64 a0_2):=(blk_cell BK168.out 2).trans rfl
    have hcz8_3 : w3.cell? ⟨gb168,3,none⟩ = some (.int .i64 a0_3):=(blk_cell BK168.out 3).trans rfl
    have hcz8_4 : w3.cell? ⟨gb168,4,none⟩ = some (.int .i64 a0_4):=(blk_cell BK168.out 4).trans rfl
    have hfz8_0:=blk_frozen BK168.out 0
    have hfz8_1:=blk_frozen BK168.out 1
    have hfz8_2:=blk_frozen BK168.out 2
    have hfz8_3:=blk_frozen BK168.out 3
    have hfz8_4:=blk_frozen BK168.out 4
    go_wp2_with (first|((with_reducible refine gate_callee (f:=60) rfl ?_);refine goesL_ (some 5) rfl rfl Try.func60 (by kernel_rfl) rfl #[.int .i64 a0_0,.int .i64 1,.int .i64 4] rfl (by (try simp only [List.map_toArray,List.map_cons,List.map_nil]);first|done|rfl|(simp only [List.length_drop,List.length_take];rfl)) ?_;(with_reducible refine (spec_l1In.calls a0_0 1 4 true _ A4.out).mono ?_);rintro e w' ⟨rfl,⟨nd,rfl⟩⟩;refine ⟨_,rfl,?_⟩)|(go_at_call 86;(with_reducible refine (spec_l5Bytes.calls k _ _ l0_1 true _ ?side1 ?side2 A6.out).mono ?_);(case side1 => repeat (first|exact (Kd.C_below HR0_1.out (by repeat (first|(with_reducible first|exact HB.out|apply below_alloc|apply pw_below_drewN|apply below_drew1|refine below_set ?_ GE168.out)|exact HB.out)))|(with_reducible refine Kd.C_alloc ?_ _)|(with_reducible refine Kd.C_drewN ?_ _)|(with_reducible refine Kd.C_drew ?_)));(case side2 => exact HC0_1.out);rintro e w' ⟨rfl,⟨nd,rfl⟩⟩))
    go_meet
    case rel => exact ⟨_,(decide ((l0_1.length : Int) > 6)),(by first|rfl|(simp;done)|(simp [*];done)),H',⟨by first|omega|exact Nat.le_refl _⟩,⟨by (with_reducible repeat (first|refine blk_drewN ?_ _|refine blk_drew ?_|refine blk_alloc ?_ _));exact BK168.out⟩,⟨by repeat (first|(with_reducible first|exact HB.out|apply below_alloc|apply pw_below_drewN|apply below_drew1|refine below_set ?_ GE168.out)|exact HB.out)⟩⟩
   ·replace c7:=Bool.eq_false_iff.mpr c7
    subst c7
    have H1 : (spec_IsResource.j0 k true a0_0 l0_1 a0_2 a0_3 a0_4) = some r:=by rw [if_neg (show ¬ (false = true) by decide)] at H;exact H
    clear H;have H:=H1;clear H1;have H':=Aside0.mk H;clear H;have hcz9_0 : w3.cell? ⟨gb168,0,none⟩ = some (.int .i64 a0_0):=(blk_cell BK168.out 0).trans rfl
    have hcz9_1 : w3.cell? ⟨gb168,1,none⟩ = some (.slice A0_1 l0_1.length c0_1):=(blk_cell BK168.out 1).trans rfl
    have hcz9_2 : w3.cell? ⟨gb168,2,none⟩ = some (.int .i64 a0_2):=(blk_cell BK168.out 2).trans rfl
    have hcz9_3 : w3.cell? ⟨gb168,3,none⟩ = some (.int .i64 a0_3):=(blk_cell BK168.out 3).trans rfl
    have hcz9_4 : w3.cell? ⟨gb168,4,none⟩ = some (.int .i64 a0_4):=(blk_cell BK168.out 4).trans rfl
    have hfz9_0:=blk_frozen BK168.out 0
    have hfz9_1:=blk_frozen BK168.out 1
    have hfz9_2:=blk_frozen BK168.out 2
    have hfz9_3:=blk_frozen BK168.out 3
    have hfz9_4:=blk_frozen BK168.out 4
    go_wp2_with (first|((with_reducible refine gate_callee (f:=60) rfl ?_);refine goesL_ (some 5) rfl rfl Try.func60 (by kernel_rfl) rfl #[.int .i64 a0_0,.int .i64 1,.int .i64 4] rfl (by (try simp only [List.map_toArray,List.map_cons,List.map_nil]);first|done|rfl|(simp only [List.length_drop,List.length_take];rfl)) ?_;(with_reducible refine (spec_l1In.calls a0_0 1 4 true _ A4.out).mono ?_);rintro e w' ⟨rfl,⟨nd,rfl⟩⟩;refine ⟨_,rfl,?_⟩)|(go_at_call 86;(with_reducible refine (spec_l5Bytes.calls k _ _ l0_1 false _ ?side1 ?side2 A6.out).mono ?_);(case side1 => repeat (first|exact (Kd.C_below HR0_1.out (by repeat (first|(with_reducible first|exact HB.out|apply below_alloc|apply pw_below_drewN|apply below_drew1|refine below_set ?_ GE168.out)|exact HB.out)))|(with_reducible refine Kd.C_alloc ?_ _)|(with_reducible refine Kd.C_drewN ?_ _)|(with_reducible refine Kd.C_drew ?_)));(case side2 => exact HC0_1.out);rintro e w' ⟨rfl,⟨nd,rfl⟩⟩))
    go_meet
    case rel => exact ⟨_,(true),(by first|rfl|(simp;done)|(simp [*];done)),H',⟨by first|omega|exact Nat.le_refl _⟩,⟨by (with_reducible repeat (first|refine blk_drewN ?_ _|refine blk_drew ?_|refine blk_alloc ?_ _));exact BK168.out⟩,⟨by repeat (first|(with_reducible first|exact HB.out|apply below_alloc|apply pw_below_drewN|apply below_drew1|refine below_set ?_ GE168.out)|exact HB.out)⟩⟩
  ·replace c5:=Bool.eq_false_iff.mpr c5
   subst c5
   have H1 : (spec_IsResource.j0 k true a0_0 l0_1 a0_2 a0_3 a0_4) = some r:=by rw [if_neg (show ¬ (false = true) by decide)] at H;exact H
   clear H;have H:=H1;clear H1;have H':=Aside0.mk H;clear H;have hcz10_0 : w3.cell? ⟨gb168,0,none⟩ = some (.int .i64 a0_0):=(blk_cell BK168.out 0).trans rfl
   have hcz10_1 : w3.cell? ⟨gb168,1,none⟩ = some (.slice A0_1 l0_1.length c0_1):=(blk_cell BK168.out 1).trans rfl
   have hcz10_2 : w3.cell? ⟨gb168,2,none⟩ = some (.int .i64 a0_2):=(blk_cell BK168.out 2).trans rfl
   have hcz10_3 : w3.cell? ⟨gb168,3,none⟩ = some (.int .i64 a0_3):=(blk_cell BK168.out 3).trans rfl
   have hcz10_4 : w3.cell? ⟨gb168,4,none⟩ = some (.int .i64 a0_4):=(blk_cell BK168.out 4).trans rfl
   have hfz10_0:=blk_frozen BK168.out 0
   have hfz10_1:=blk_frozen BK168.out 1
   have hfz10_2:=blk_frozen BK168.out 2
   have hfz10_3:=blk_frozen BK168.out 3
   have hfz10_4:=blk_frozen BK168.out 4
   go_wp2_with (first|((with_reducible refine gate_callee (f:=60) rfl ?_);refine goesL_ (some 5) rfl rfl Try.func60 (by kernel_rfl) rfl #[.int .i64 a0_0,.int .i64 1,.int .i64 4] rfl (by (try simp only [List.map_toArray,List.map_cons,List.map_nil]);first|done|rfl|(simp only [List.length_drop,List.length_take];rfl)) ?_;(with_reducible refine (spec_l1In.calls a0_0 1 4 false _ A4.out).mono ?_);rintro e w' ⟨rfl,⟨nd,rfl⟩⟩;refine ⟨_,rfl,?_⟩))
   go_meet
   case rel => exact ⟨_,(true),(by first|rfl|(simp;done)|(simp [*];done)),H',⟨by first|omega|exact Nat.le_refl _⟩,⟨by (with_reducible repeat (first|refine blk_drewN ?_ _|refine blk_drew ?_|refine blk_alloc ?_ _));exact BK168.out⟩,⟨by repeat (first|(with_reducible first|exact HB.out|apply below_alloc|apply pw_below_drewN|apply below_drew1|refine below_set ?_ GE168.out)|exact HB.out)⟩⟩
 case rest =>
  clear HC2;try clear p2
  try clear c5
  try clear c6
  try clear c7
  try clear hcz10_0
  try clear hcz10_1
  try clear hcz10_2
  try clear hcz10_3
  try clear hcz10_4
  try clear hcz8_0
  try clear hcz8_1
  try clear hcz8_2
  try clear hcz8_3
  try clear hcz8_4
  try clear hcz9_0
  try clear hcz9_1
  try clear hcz9_2
  try clear hcz9_3
  try clear hcz9_4
  try clear hfz10_0
  try clear hfz10_1
  try clear hfz10_2
  try clear hfz10_3
  try clear hfz10_4
  try clear hfz8_0
  try clear hfz8_1
  try clear hfz8_2
  try clear hfz8_3
  try clear hfz8_4
  try clear hfz9_0
  try clear hfz9_1
  try clear hfz9_2
  try clear hfz9_3
  try clear hfz9_4
  obtain ⟨kq,x18_1,rfl,HA,HJ1,BK168,HB⟩:=hcut;cases kq with
 |zero => exact absurd HA.out (by simp [spec_IsResource.j0])
 |succ kj1 =>
   have H:=HA.out;clear HA;simp only [spec_IsResource.j0] at H
   by_cases c11 : x18_1 = true
   ·subst c11
    have H1 : (some false) = some r:=by rw [if_pos rfl] at H;exact H
    clear H;have H:=H1;clear H1;obtain rfl:=Option.some.inj H
    go_wp2
    go_ret
    exact ⟨by first|rfl|(simp [errW_none,errW_some] <;> rfl)|(simp [*,errW_none,errW_some] <;> rfl),by repeat (first|(with_reducible first|exact HB.out|apply below_alloc|apply pw_below_drewN|apply below_drew1|refine below_set ?_ GE168.out)|exact HB.out)⟩
   ·replace c11:=Bool.eq_false_iff.mpr c11
    subst c11
    have H1 : (if a0_0 = 3 then ((spec_IsAddress.f a0_2 a0_3 a0_4).bind fun t171 => (if t171 = true then (some ((l0_1.length : Int) == 0)) else (some false))) else (if (a0_2 == 0 && (a0_3 == 0 && (a0_4 == 0))) = true then (if a0_0 = 4 then (some ((l0_1.length : Int) == 0)) else (some true)) else (some false))) = some r:=by rw [if_neg (show ¬ (false = true) by decide)] at H;exact H
    clear H;have H:=H1;clear H1;by_cases c12 : a0_0 = 3
    ·rw [if_pos c12] at H
     have c12b0 : (a0_0 == 3) = true:=beq_iff_eq.mpr c12
     have c12b1 : (a0_0 != 3) = false:=bne_eq_false_iff_eq.mpr c12
     clear c12;replace H:=Option.bind_eq_some_iff.mp H
     obtain ⟨t171,A130,H⟩:=H;replace H : (if t171 = true then (some ((l0_1.length : Int) == 0)) else (some false)) = some r:=H
     have A13:=Aside0.mk A130;clear A130;by_cases c14 : t171 = true
     ·subst c14
      have H1 : (some ((l0_1.length : Int) == 0)) = some r:=by rw [if_pos rfl] at H;exact H
      clear H;have H:=H1;clear H1;obtain rfl:=Option.some.inj H
      have hcz15_0 : wc.cell? ⟨gb168,0,none⟩ = some (.int .i64 a0_0):=(blk_cell BK168.out 0).trans rfl
      have hcz15_1 : wc.cell? ⟨gb168,1,none⟩ = some (.slice A0_1 l0_1.length c0_1):=(blk_cell BK168.out 1).trans rfl
      have hcz15_2 : wc.cell? ⟨gb168,2,none⟩ = some (.int .i64 a0_2):=(blk_cell BK168.out 2).trans rfl
      have hcz15_3 : wc.cell? ⟨gb168,3,none⟩ = some (.int .i64 a0_3):=(blk_cell BK168.out 3).trans rfl
      have hcz15_4 : wc.cell? ⟨gb168,4,none⟩ = some (.int .i64 a0_4):=(blk_cell BK168.out 4).trans rfl
      have hfz15_0:=blk_frozen BK168.out 0
      have hfz15_1:=blk_frozen BK168.out 1
      have hfz15_2:=blk_frozen BK168.out 2
      have hfz15_3:=blk_frozen BK168.out 3
      have hfz15_4:=blk_frozen BK168.out 4
      go_wp2_with (first|((with_reducible refine gate_callee (f:=87) rfl ?_);refine goesL_ (some 24) rfl rfl Try.func87 (by kernel_rfl) rfl #[.agg #[.int .i64 a0_2,.int .i64 a0_3,.int .i64 a0_4]] rfl (by (try simp only [List.map_toArray,List.map_cons,List.map_nil]);first|done|rfl|(simp only [List.length_drop,List.length_take];rfl)) ?_;(with_reducible refine (spec_IsAddress.calls a0_2 a0_3 a0_4 true _ A13.out).mono ?_);rintro e w16 ⟨rfl,hb⟩;refine ⟨_,rfl,?_⟩;have n0_:=Aside0.mk (blk_below (g:=gb168) (o:=.cells #[.int .i64 a0_0,.slice A0_1 l0_1.length c0_1,.int .i64 a0_2,.int .i64 a0_3,.int .i64 a0_4] 39 (0,0)) (by (with_reducible repeat (first|refine blk_drewN ?_ _|refine blk_drew ?_|refine blk_alloc ?_ _));exact BK168.out) hb);have n1_:=Aside0.mk (below_step (by repeat (first|(with_reducible first|exact HB.out|apply below_alloc|apply pw_below_drewN|apply below_drew1|refine below_set ?_ GE168.out)|exact HB.out)) hb);clear BK168;clear HB;have BK168:=n0_;have HB:=n1_;clear n0_ n1_;(try clear hb);(try clear hk);have hcz17_0 : w16.cell? ⟨gb168,0,none⟩ = some (.int .i64 a0_0):=(blk_cell BK168.out 0).trans rfl;have hcz17_1 : w16.cell? ⟨gb168,1,none⟩ = some (.slice A0_1 l0_1.length c0_1):=(blk_cell BK168.out 1).trans rfl;have hcz17_2 : w16.cell? ⟨gb168,2,none⟩ = some (.int .i64 a0_2):=(blk_cell BK168.out 2).trans rfl;have hcz17_3 : w16.cell? ⟨gb168,3,none⟩ = some (.int .i64 a0_3):=(blk_cell BK168.out 3).trans rfl;have hcz17_4 : w16.cell? ⟨gb168,4,none⟩ = some (.int .i64 a0_4):=(blk_cell BK168.out 4).trans rfl;have hfz17_0:=blk_frozen BK168.out 0;have hfz17_1:=blk_frozen BK168.out 1;have hfz17_2:=blk_frozen BK168.out 2;have hfz17_3:=blk_frozen BK168.out 3;have hfz17_4:=blk_frozen BK168.out 4))
      go_ret
      exact ⟨by first|rfl|(simp [errW_none,errW_some] <;> rfl)|(simp [*,errW_none,errW_some] <;> rfl),by repeat (first|(with_reducible first|exact HB.out|apply below_alloc|apply pw_below_drewN|apply below_drew1|refine below_set ?_ GE168.out)|exact HB.out)⟩
     ·replace c14:=Bool.eq_false_iff.mpr c14
      subst c14
      have H1 : (some false) = some r:=by rw [if_neg (show ¬ (false = true) by decide)] at H;exact H
      clear H;have H:=H1;clear H1;obtain rfl:=Option.some.inj H
      have hcz18_0 : wc.cell? ⟨gb168,0,none⟩ = some (.int .i64 a0_0):=(blk_cell BK168.out 0).trans rfl
      have hcz18_1 : wc.cell? ⟨gb168,1,none⟩ = some (.slice A0_1 l0_1.length c0_1):=(blk_cell BK168.out 1).trans rfl
      have hcz18_2 : wc.cell? ⟨gb168,2,none⟩ = some (.int .i64 a0_2):=(blk_cell BK168.out 2).trans rfl
      have hcz18_3 : wc.cell? ⟨gb168,3,none⟩ = some (.int .i64 a0_3):=(blk_cell BK168.out 3).trans rfl
      have hcz18_4 : wc.cell? ⟨gb168,4,none⟩ = some (.int .i64 a0_4):=(blk_cell BK168.out 4).trans rfl
      have hfz18_0:=blk_frozen BK168.out 0
      have hfz18_1:=blk_frozen BK168.out 1
      have hfz18_2:=blk_frozen BK168.out 2
      have hfz18_3:=blk_frozen BK168.out 3
      have hfz18_4:=blk_frozen BK168.out 4
      go_wp2_with (first|((with_reducible refine gate_callee (f:=87) rfl ?_);refine goesL_ (some 24) rfl rfl Try.func87 (by kernel_rfl) rfl #[.agg #[.int .i64 a0_2,.int .i64 a0_3,.int .i64 a0_4]] rfl (by (try simp only [List.map_toArray,List.map_cons,List.map_nil]);first|done|rfl|(simp only [List.length_drop,List.length_take];rfl)) ?_;(with_reducible refine (spec_IsAddress.calls a0_2 a0_3 a0_4 false _ A13.out).mono ?_);rintro e w19 ⟨rfl,hb⟩;refine ⟨_,rfl,?_⟩;have n0_:=Aside0.mk (blk_below (g:=gb168) (o:=.cells #[.int .i64 a0_0,.slice A0_1 l0_1.length c0_1,.int .i64 a0_2,.int .i64 a0_3,.int .i64 a0_4] 39 (0,0)) (by (with_reducible repeat (first|refine blk_drewN ?_ _|refine blk_drew ?_|refine blk_alloc ?_ _));exact BK168.out) hb);have n1_:=Aside0.mk (below_step (by repeat (first|(with_reducible first|exact HB.out|apply below_alloc|apply pw_below_drewN|apply below_drew1|refine below_set ?_ GE168.out)|exact HB.out)) hb);clear BK168;clear HB;have BK168:=n0_;have HB:=n1_;clear n0_ n1_;(try clear hb);(try clear hk)))
      go_ret
      exact ⟨by first|rfl|(simp [errW_none,errW_some] <;> rfl)|(simp [*,errW_none,errW_some] <;> rfl),by repeat (first|(with_reducible first|exact HB.out|apply below_alloc|apply pw_below_drewN|apply below_drew1|refine below_set ?_ GE168.out)|exact HB.out)⟩
    ·rw [if_neg c12] at H
     have c12b0 : (a0_0 == 3) = false:=beq_eq_false_iff_ne.mpr c12
     have c12b1 : (a0_0 != 3) = true:=bne_iff_ne.mpr c12
     by_cases c20 : (a0_2 == 0 && (a0_3 == 0 && (a0_4 == 0))) = true
     ·rw [if_pos c20] at H
      have c20b0 : (a0_2 == 0 && (a0_3 == 0 && (a0_4 == 0))) = true:=c20
      (try (have c20b1 : decide (a0_2 = 0 && (a0_3 == 0 && (a0_4 == 0))) = true:=by simpa using c20))
      (try (have c20b2 : (a0_2 == 0 && (a0_3 == 0 && (a0_4 == 0))) = true:=by simpa using c20))
      clear c20;by_cases c21 : a0_0 = 4
      ·rw [if_pos c21] at H
       have c21b0 : (a0_0 == 4) = true:=beq_iff_eq.mpr c21
       have c21b1 : (a0_0 != 4) = false:=bne_eq_false_iff_eq.mpr c21
       clear c21;obtain rfl:=Option.some.inj H
       have hcz22_0 : wc.cell? ⟨gb168,0,none⟩ = some (.int .i64 a0_0):=(blk_cell BK168.out 0).trans rfl
       have hcz22_1 : wc.cell? ⟨gb168,1,none⟩ = some (.slice A0_1 l0_1.length c0_1):=(blk_cell BK168.out 1).trans rfl
       have hcz22_2 : wc.cell? ⟨gb168,2,none⟩ = some (.int .i64 a0_2):=(blk_cell BK168.out 2).trans rfl
       have hcz22_3 : wc.cell? ⟨gb168,3,none⟩ = some (.int .i64 a0_3):=(blk_cell BK168.out 3).trans rfl
       have hcz22_4 : wc.cell? ⟨gb168,4,none⟩ = some (.int .i64 a0_4):=(blk_cell BK168.out 4).trans rfl
       have hfz22_0:=blk_frozen BK168.out 0
       have hfz22_1:=blk_frozen BK168.out 1
       have hfz22_2:=blk_frozen BK168.out 2
       have hfz22_3:=blk_frozen BK168.out 3
       have hfz22_4:=blk_frozen BK168.out 4
       go_wp2
       go_ret
       exact ⟨by first|rfl|(simp [errW_none,errW_some] <;> rfl)|(simp [*,errW_none,errW_some] <;> rfl),by repeat (first|(with_reducible first|exact HB.out|apply below_alloc|apply pw_below_drewN|apply below_drew1|refine below_set ?_ GE168.out)|exact HB.out)⟩
      ·rw [if_neg c21] at H
       have c21b0 : (a0_0 == 4) = false:=beq_eq_false_iff_ne.mpr c21
       have c21b1 : (a0_0 != 4) = true:=bne_iff_ne.mpr c21
       obtain rfl:=Option.some.inj H
       have hcz23_0 : wc.cell? ⟨gb168,0,none⟩ = some (.int .i64 a0_0):=(blk_cell BK168.out 0).trans rfl
       have hcz23_1 : wc.cell? ⟨gb168,1,none⟩ = some (.slice A0_1 l0_1.length c0_1):=(blk_cell BK168.out 1).trans rfl
       have hcz23_2 : wc.cell? ⟨gb168,2,none⟩ = some (.int .i64 a0_2):=(blk_cell BK168.out 2).trans rfl
       have hcz23_3 : wc.cell? ⟨gb168,3,none⟩ = some (.int .i64 a0_3):=(blk_cell BK168.out 3).trans rfl
       have hcz23_4 : wc.cell? ⟨gb168,4,none⟩ = some (.int .i64 a0_4):=(blk_cell BK168.out 4).trans rfl
       have hfz23_0:=blk_frozen BK168.out 0
       have hfz23_1:=blk_frozen BK168.out 1
       have hfz23_2:=blk_frozen BK168.out 2
       have hfz23_3:=blk_frozen BK168.out 3
       have hfz23_4:=blk_frozen BK168.out 4
       go_wp2
       go_ret
       exact ⟨by first|rfl|(simp [errW_none,errW_some] <;> rfl)|(simp [*,errW_none,errW_some] <;> rfl),by repeat (first|(with_reducible first|exact HB.out|apply below_alloc|apply pw_below_drewN|apply below_drew1|refine below_set ?_ GE168.out)|exact HB.out)⟩
     ·rw [if_neg c20] at H
      have c20b0 : (a0_2 == 0 && (a0_3 == 0 && (a0_4 == 0))) = false:=by simpa using c20
      (try (have c20b1 : decide (a0_2 = 0 && (a0_3 == 0 && (a0_4 == 0))) = false:=by simpa using c20))
      (try (have c20b2 : (a0_2 == 0 && (a0_3 == 0 && (a0_4 == 0))) = false:=by simpa using c20))
      (try (have c20b3 : ¬ (a0_2 = 0 && (a0_3 == 0 && (a0_4 == 0))):=by simpa using c20))
      clear c20;obtain rfl:=Option.some.inj H
      have hcz24_0 : wc.cell? ⟨gb168,0,none⟩ = some (.int .i64 a0_0):=(blk_cell BK168.out 0).trans rfl
      have hcz24_1 : wc.cell? ⟨gb168,1,none⟩ = some (.slice A0_1 l0_1.length c0_1):=(blk_cell BK168.out 1).trans rfl
      have hcz24_2 : wc.cell? ⟨gb168,2,none⟩ = some (.int .i64 a0_2):=(blk_cell BK168.out 2).trans rfl
      have hcz24_3 : wc.cell? ⟨gb168,3,none⟩ = some (.int .i64 a0_3):=(blk_cell BK168.out 3).trans rfl
      have hcz24_4 : wc.cell? ⟨gb168,4,none⟩ = some (.int .i64 a0_4):=(blk_cell BK168.out 4).trans rfl
      have hfz24_0:=blk_frozen BK168.out 0
      have hfz24_1:=blk_frozen BK168.out 1
      have hfz24_2:=blk_frozen BK168.out 2
      have hfz24_3:=blk_frozen BK168.out 3
      have hfz24_4:=blk_frozen BK168.out 4
      go_wp2
      go_ret
      exact ⟨by first|rfl|(simp [errW_none,errW_some] <;> rfl)|(simp [*,errW_none,errW_some] <;> rfl),by repeat (first|(with_reducible first|exact HB.out|apply below_alloc|apply pw_below_drewN|apply below_drew1|refine below_set ?_ GE168.out)|exact HB.out)⟩
def spec_Mod.f (a0 : Int) (a1 : Int) : Option (Int):=(spec_l1In.f a1 1 1000000000000).bind fun t172 => (if t172 = true then (if a1 = 0 then (none) else (some (Int.tmod (wrap64 ((Int.tmod a0 a1) + a1)) a1))) else (some 0))
theorem spec_Mod.calls (a0 : Int) (a1 : Int) (r : Int) (w : World) (h : spec_Mod.f a0 a1 = some r) :
  Calls Try.prog 95 #[.int .i64 a0,.int .i64 a1] w fun e w' => e = .returned (.int .i64 r) ∧ Drawn0 w w':=by
 have H : ((spec_l1In.f a1 1 1000000000000).bind fun t172 => (if t172 = true then (if a1 = 0 then (none) else (some (Int.tmod (wrap64 ((Int.tmod a0 a1) + a1)) a1))) else (some 0))) = some r:=h
 clear h;replace H:=Option.bind_eq_some_iff.mp H
 obtain ⟨t172,A30,H⟩:=H;replace H : (if t172 = true then (if a1 = 0 then (none) else (some (Int.tmod (wrap64 ((Int.tmod a0 a1) + a1)) a1))) else (some 0)) = some r:=H
 have A3:=Aside0.mk A30;clear A30;by_cases c4 : t172 = true
 ·subst c4
  have H1 : (if a1 = 0 then (none) else (some (Int.tmod (wrap64 ((Int.tmod a0 a1) + a1)) a1))) = some r:=by rw [if_pos rfl] at H;exact H
  clear H;have H:=H1;clear H1;by_cases c5 : a1 = 0
  ·rw [if_pos c5] at H
   exact absurd H (by simp)
  ·rw [if_neg c5] at H
   have c5b0 : (a1 == 0) = false:=beq_eq_false_iff_ne.mpr c5
   have c5b1 : (a1 != 0) = true:=bne_iff_ne.mpr c5
   obtain rfl:=Option.some.inj H
   go_enter Try.func95,Try.ntmps95
   go_wp2_with (first|((with_reducible refine gate_callee (f:=60) rfl ?_);refine goesL_ (some 6) rfl rfl Try.func60 (by kernel_rfl) rfl #[.int .i64 a1,.int .i64 1,.int .i64 1000000000000] rfl (by (try simp only [List.map_toArray,List.map_cons,List.map_nil]);first|done|rfl|(simp only [List.length_drop,List.length_take];rfl)) ?_;(with_reducible refine (spec_l1In.calls a1 1 1000000000000 true _ A3.out).mono ?_);rintro e w' ⟨rfl,⟨nd,rfl⟩⟩;refine ⟨_,rfl,?_⟩))
   go_ret
   exact ⟨by first|rfl|(simp;done)|(simp [*];done),by repeat (first|exact Drawn0.refl _|apply Drawn0.step)⟩
 ·replace c4:=Bool.eq_false_iff.mpr c4
  subst c4
  have H1 : (some 0) = some r:=by rw [if_neg (show ¬ (false = true) by decide)] at H;exact H
  clear H;have H:=H1;clear H1;obtain rfl:=Option.some.inj H
  go_enter Try.func95,Try.ntmps95
  go_wp2_with (first|((with_reducible refine gate_callee (f:=60) rfl ?_);refine goesL_ (some 6) rfl rfl Try.func60 (by kernel_rfl) rfl #[.int .i64 a1,.int .i64 1,.int .i64 1000000000000] rfl (by (try simp only [List.map_toArray,List.map_cons,List.map_nil]);first|done|rfl|(simp only [List.length_drop,List.length_take];rfl)) ?_;(with_reducible refine (spec_l1In.calls a1 1 1000000000000 false _ A3.out).mono ?_);rintro e w' ⟨rfl,⟨nd,rfl⟩⟩;refine ⟨_,rfl,?_⟩))
  go_ret
  exact ⟨by first|rfl|(simp;done)|(simp [*];done),by repeat (first|exact Drawn0.refl _|apply Drawn0.step)⟩
def spec_Hash.l0 : Nat → List Int → Int → Int → Option (Int)
|0,_,_,_ => none
|k + 1,x0,x3,x4 => if x4 < (x0.length : Int) then (if 0 ≤ x4 then ((spec_Mod.f (rd x0 x4) 2147483647).bind fun t174 => (spec_Hash.l0 k x0 (Int.tmod (wrap64 ((wrap64 ((wrap64 (x3 * 1000003)) + t174)) + 13)) 2147483647) (wrap64 (x4 + 1)))) else (none)) else (some x3)
def spec_Hash.f (k : Nat) (l0 : List Int) : Option (Int):=spec_Hash.l0 k l0 11 0
theorem spec_Hash.mono_l : ∀ k,(∀ y0 y1 y2,LeO (spec_Hash.l0 k y0 y1 y2) (spec_Hash.l0 (k + 1) y0 y1 y2))
|0 => fun _ _ _ r h => by simp [spec_Hash.l0] at h
|k + 1 => by
  have ih0:=spec_Hash.mono_l k
  ·intro y0 y1 y2;unfold spec_Hash.l0
   repeat' first
  |(with_reducible exact ih0 _ _ _)
  |(with_reducible exact LeO.refl _)
  |(with_reducible exact LeO.none _)
  |(with_reducible refine LeO.ite ?_ ?_)
  |(with_reducible refine LeO.bind ?_ (fun _ => ?_))
  |exact ih0 _ _ _
  |exact LeO.none _
  |refine LeO.ite ?_ ?_
  |refine LeO.bind ?_ (fun _ => ?_)
theorem spec_Hash.mono : ∀ a0 k,LeO (spec_Hash.f k a0) (spec_Hash.f (k + 1) a0):=by
 intro a0 k;have ih0:=spec_Hash.mono_l k
 unfold spec_Hash.f
 repeat' first
  |(with_reducible exact ih0 _ _ _)
  |(with_reducible exact LeO.refl _)
  |(with_reducible exact LeO.none _)
  |(with_reducible refine LeO.ite ?_ ?_)
  |(with_reducible refine LeO.bind ?_ (fun _ => ?_))
  |exact ih0 _ _ _
  |exact LeO.none _
  |refine LeO.ite ?_ ?_
  |refine LeO.bind ?_ (fun _ => ?_)
theorem spec_Hash.calls (k : Nat) (A0 : Option Addr) (c0 : Nat) (l0 : List Int) (r : Int) (w : World) (hr0 : Kd.C (Kd.int .i64) w A0 l0.length l0) (hc0 : l0.length ≤ c0) (h : spec_Hash.f k l0 = some r) :
  Calls Try.prog 78 #[.slice A0 l0.length c0] w fun e w' => e = .returned (.int .i64 r) ∧ Drawn0 w w':=by
 have HR0:=Aside0.mk hr0;have HC0:=Aside0.mk hc0;clear hr0 hc0;have H : (spec_Hash.l0 k l0 11 0) = some r:=h
 clear h;have H':=Aside0.mk H;clear H;go_enter Try.func78,Try.ntmps78
 go_wp2
 go_loopg [3,4] k (fun kq v3 v4 w' => ∃ (x3_1 : Int) (x4_1 : Int),v3 = .int .i64 x3_1 ∧ v4 = .int .i64 x4_1 ∧ Aside0 (spec_Hash.l0 kq l0 x3_1 x4_1 = some r) ∧ Aside0 (kq ≤ k) ∧ Drawn0 w w')
 case atStart => exact ⟨(11),(0),(by first|rfl|(simp;done)|(simp [*];done)),(by first|rfl|(simp;done)|(simp [*];done)),H',⟨Nat.le_refl _⟩,by repeat (first|exact Drawn0.refl _|apply Drawn0.step)⟩
 case round =>
  clear H';obtain ⟨x3_1,x4_1,rfl,rfl,HA,HK1,⟨m1,rfl⟩⟩:=hrel
  cases gk with
 |zero => exact absurd HA.out (by simp [spec_Hash.l0])
 |succ k1 =>
   have H:=HA.out;clear HA;simp only [spec_Hash.l0] at H
   by_cases c2 : x4_1 < (l0.length : Int)
   ·rw [if_pos c2] at H
    have c2b0 : decide (x4_1 < (l0.length : Int)) = true:=decide_eq_true c2
    clear c2;by_cases c3 : 0 ≤ x4_1
    ·rw [if_pos c3] at H
     have c3b0 : decide (0 ≤ x4_1) = true:=decide_eq_true c3
     clear c3;replace H:=Option.bind_eq_some_iff.mp H
     obtain ⟨t174,A40,H⟩:=H;replace H : (spec_Hash.l0 k1 l0 (Int.tmod (wrap64 ((wrap64 ((wrap64 (x3_1 * 1000003)) + t174)) + 13)) 2147483647) (wrap64 (x4_1 + 1))) = some r:=H
     have A4:=Aside0.mk A40;clear A40;have H':=Aside0.mk H;clear H;have p173 : 0 ≤ (x4_1 : Int):=of_decide_eq_true (by first|(with_reducible assumption)|assumption)
     have q173 : x4_1 < (l0.length : Int):=of_decide_eq_true (by first|(with_reducible assumption)|assumption)
     obtain ⟨ad173,e173,hx173_0⟩:=Kd.at_int HR0.out x4_1 p173 q173
     cases e173
     replace p173:=eq_true p173
     replace q173:=eq_true q173
     go_wp2_with (first|((with_reducible refine gate_callee (f:=95) rfl ?_);refine goesL_ (some 17) rfl rfl Try.func95 (by kernel_rfl) rfl #[.int .i64 (rd l0 x4_1),.int .i64 2147483647] rfl (by (try simp only [List.map_toArray,List.map_cons,List.map_nil]);first|done|rfl|(simp only [List.length_drop,List.length_take];rfl)) ?_;(with_reducible refine (spec_Mod.calls (rd l0 x4_1) 2147483647 t174 _ A4.out).mono ?_);rintro e w' ⟨rfl,⟨nd,rfl⟩⟩;refine ⟨_,rfl,?_⟩))
     go_roundg k1
     case measure => have:=HK1.out;omega
     case rel => exact ⟨(Int.tmod (wrap64 ((wrap64 ((wrap64 (x3_1 * 1000003)) + t174)) + 13)) 2147483647),(wrap64 (x4_1 + 1)),(by first|rfl|(simp;done)|(simp [*];done)),(by first|rfl|(simp;done)|(simp [*];done)),H',⟨by have:=HK1.out;omega⟩,by repeat (first|exact Drawn0.refl _|apply Drawn0.step)⟩
    ·rw [if_neg c3] at H
     exact absurd H (by simp)
   ·rw [if_neg c2] at H
    have c2b0 : decide (x4_1 < (l0.length : Int)) = false:=decide_eq_false c2
    clear c2;obtain rfl:=Option.some.inj H
    go_wp2
    go_ret
    exact ⟨by first|rfl|(simp;done)|(simp [*];done),by repeat (first|exact Drawn0.refl _|apply Drawn0.step)⟩
def spec_ResourceInts.f (a0_0 : Int) (l0_1 : List Int) (a0_2 : Int) (a0_3 : Int) (a0_4 : Int) : Option (List Int):=(some (([a0_0,a0_2,a0_3,a0_4,(l0_1.length : Int)] : List Int) : List Int)).bind fun y176 => (if y176.length + l0_1.length < 17592186044416 then (some (y176 ++ l0_1)) else (none))
theorem spec_ResourceInts.calls (a0_0 : Int) (A0_1 : Option Addr) (c0_1 : Nat) (l0_1 : List Int) (a0_2 : Int) (a0_3 : Int) (a0_4 : Int) (r : List Int) (w : World) (hr0_1 : Kd.C (Kd.int .i64) w A0_1 l0_1.length l0_1) (hc0_1 : l0_1.length ≤ c0_1) (h : spec_ResourceInts.f a0_0 l0_1 a0_2 a0_3 a0_4 = some r) :
  Calls Try.prog 88 #[.agg #[.int .i64 a0_0,.slice A0_1 l0_1.length c0_1,.int .i64 a0_2,.int .i64 a0_3,.int .i64 a0_4]] w fun e w' => ∃ v0_ : Value,e = .returned (v0_) ∧ Kd.R (Kd.int .i64) 3 w' w.heap.size (fun _ => True) v0_ r ∧ Below w.heap.size w w':=by
 have hu39:=Try.underlying39
 have HR0_1:=Aside0.mk hr0_1;have HC0_1:=Aside0.mk hc0_1;clear hr0_1 hc0_1;have HB:=Aside0.mk (Below.refl w.heap.size w)
 have H : ((some (([a0_0,a0_2,a0_3,a0_4,(l0_1.length : Int)] : List Int) : List Int)).bind fun y176 => (if y176.length + l0_1.length < 17592186044416 then (some (y176 ++ l0_1)) else (none))) = some r:=h
 clear h;obtain ⟨y176,hy176⟩ : ∃ y_ : List Int,y_ = (([a0_0,a0_2,a0_3,a0_4,(l0_1.length : Int)] : List Int)):=⟨_,rfl⟩
 replace H : (if y176.length + l0_1.length < 17592186044416 then (some (y176 ++ l0_1)) else (none)) = some r:=by first|(rw [hy176];with_reducible exact H)|(have H2_:=(Option.bind_some _ _).symm.trans H;rw [hy176];with_reducible exact H2_)|(have H2_:=(Option.bind_some _ _).symm.trans H;with_reducible exact H2_)|with_reducible exact H|(rw [hy176];exact H)|exact H
 have Ny176:=Aside0.mk hy176;clear hy176;by_cases c2 : y176.length + l0_1.length < 17592186044416
 ·rw [if_pos c2] at H
  have LMc2:=Aside0.mk c2;clear c2;obtain ⟨y179,hy179⟩ : ∃ y_ : List Int,y_ = (y176 ++ l0_1):=⟨_,rfl⟩
  replace H : (some y179) = some r:=by first|(rw [hy179];with_reducible exact H)|(have H2_:=(Option.bind_some _ _).symm.trans H;rw [hy179];with_reducible exact H2_)|(have H2_:=(Option.bind_some _ _).symm.trans H;with_reducible exact H2_)|with_reducible exact H|(rw [hy179];exact H)|exact H
  have Ny179:=Aside0.mk hy179;clear hy179;obtain rfl:=Option.some.inj H
  go_enter Try.func88,Try.ntmps88
  go_wp2_with (first|((with_reducible refine gate_dst (N:=1) rfl ?_);refine box_event ?hg (N:=1) ?hd (cs:=#[.int .i64 a0_0,.slice A0_1 l0_1.length c0_1,.int .i64 a0_2,.int .i64 a0_3,.int .i64 a0_4]) (t:=39) ?hr ?_;(case hd => rfl);(case hg => rfl);(case hr => first|(go_simp;done)|(go_simp;rfl));intro gb175 hg w3 hbox hb;have n0_:=Aside0.mk (below_step (by repeat (first|(with_reducible first|exact HB.out|apply below_alloc|apply pw_below_drewN|apply below_drew1)|exact HB.out)) hb);have n1_:=Aside0.mk (hbox);have n2_:=Aside0.mk ((by rw [hg];exact (below_size (by repeat (first|(with_reducible first|exact HB.out|apply below_alloc|apply pw_below_drewN|apply below_drew1)|exact HB.out))) : w.heap.size ≤ gb175));have n3_:=Aside0.mk ((by rw [hg];exact (below_size (by repeat (first|(with_reducible first|exact HB.out|apply below_alloc|apply pw_below_drewN|apply below_drew1)|exact HB.out))) : w.heap.size ≤ gb175));clear HB;have HB:=n0_;have BK175:=n1_;have GW175:=n2_;have GE175:=n3_;clear n0_ n1_ n2_ n3_;clear hb hbox hg;have hcz4_0 : w3.cell? ⟨gb175,0,none⟩ = some (.int .i64 a0_0):=(blk_cell BK175.out 0).trans rfl;have hcz4_1 : w3.cell? ⟨gb175,1,none⟩ = some (.slice A0_1 l0_1.length c0_1):=(blk_cell BK175.out 1).trans rfl;have hcz4_2 : w3.cell? ⟨gb175,2,none⟩ = some (.int .i64 a0_2):=(blk_cell BK175.out 2).trans rfl;have hcz4_3 : w3.cell? ⟨gb175,3,none⟩ = some (.int .i64 a0_3):=(blk_cell BK175.out 3).trans rfl;have hcz4_4 : w3.cell? ⟨gb175,4,none⟩ = some (.int .i64 a0_4):=(blk_cell BK175.out 4).trans rfl;have hfz4_0:=blk_frozen BK175.out 0;have hfz4_1:=blk_frozen BK175.out 1;have hfz4_2:=blk_frozen BK175.out 2;have hfz4_3:=blk_frozen BK175.out 3;have hfz4_4:=blk_frozen BK175.out 4)|((with_reducible refine gate_dst (N:=17) rfl ?_);refine Kd.R_lit (Kd.int .i64) _ 3 ?hg (N:=17) ?hd (xs:=([a0_0,a0_2,a0_3,a0_4,(l0_1.length : Int)] : List Int)) (inner:=[.int .i64 a0_0,.int .i64 a0_2,.int .i64 a0_3,.int .i64 a0_4,.int .i64 (l0_1.length : Int)]) (ok:=fun _ => True) (okp:=fun _ => True) ?hr ?hp (fun _ hk => hk) trivial (Below.refl _ _) (Nat.le_refl _) (by simp) ?_;(case hd => rfl);(case hg => rfl);(case hr => first|(go_simp;done)|(go_simp;rfl));(case hp => exact (Reps.one (show Kd.M (Kd.int .i64) _ _ _ a0_0 [.int .i64 a0_0] from rfl) (Reps.one (show Kd.M (Kd.int .i64) _ _ _ a0_2 [.int .i64 a0_2] from rfl) (Reps.one (show Kd.M (Kd.int .i64) _ _ _ a0_3 [.int .i64 a0_3] from rfl) (Reps.one (show Kd.M (Kd.int .i64) _ _ _ a0_4 [.int .i64 a0_4] from rfl) (Reps.one (show Kd.M (Kd.int .i64) _ _ _ (l0_1.length : Int) [.int .i64 (l0_1.length : Int)] from rfl) (Reps.none _ _)))))));intro v177 w5 ho6 hb hg_ hnew_;clear hg_ hnew_;(first|rw [← Ny176.out] at ho6|(simp only [Int.reduceToNat] at ho6;rw [← Ny176.out] at ho6));have n0_:=Aside0.mk (Kd.R_lower ho6 (below_size (by repeat (first|(with_reducible first|exact HB.out|apply below_alloc|apply pw_below_drewN|apply below_drew1|refine below_set ?_ GE175.out)|exact HB.out))));have n1_:=Aside0.mk (blk_below (g:=gb175) (o:=.cells #[.int .i64 a0_0,.slice A0_1 l0_1.length c0_1,.int .i64 a0_2,.int .i64 a0_3,.int .i64 a0_4] 39 (0,0)) (by (with_reducible repeat (first|refine blk_drewN ?_ _|refine blk_drew ?_|refine blk_alloc ?_ _));exact BK175.out) hb);have n2_:=Aside0.mk (below_step (by repeat (first|(with_reducible first|exact HB.out|apply below_alloc|apply pw_below_drewN|apply below_drew1|refine below_set ?_ GE175.out)|exact HB.out)) hb);clear BK175;clear HB;have HO178:=n0_;have BK175:=n1_;have HB:=n2_;clear n0_ n1_ n2_;clear hb ho6;have hcz7_0 : w5.cell? ⟨gb175,0,none⟩ = some (.int .i64 a0_0):=(blk_cell BK175.out 0).trans rfl;have hcz7_1 : w5.cell? ⟨gb175,1,none⟩ = some (.slice A0_1 l0_1.length c0_1):=(blk_cell BK175.out 1).trans rfl;have hcz7_2 : w5.cell? ⟨gb175,2,none⟩ = some (.int .i64 a0_2):=(blk_cell BK175.out 2).trans rfl;have hcz7_3 : w5.cell? ⟨gb175,3,none⟩ = some (.int .i64 a0_3):=(blk_cell BK175.out 3).trans rfl;have hcz7_4 : w5.cell? ⟨gb175,4,none⟩ = some (.int .i64 a0_4):=(blk_cell BK175.out 4).trans rfl;have hfz7_0:=blk_frozen BK175.out 0;have hfz7_1:=blk_frozen BK175.out 1;have hfz7_2:=blk_frozen BK175.out 2;have hfz7_3:=blk_frozen BK175.out 3;have hfz7_4:=blk_frozen BK175.out 4)|((with_reducible refine gate_builtin (b:=.append) (xs:=#[.tmp 17,.tmp 19]) rfl ?_);at_builtin;refine Kd.R_append_rows (Kd.int .i64) (w0:=w) w.heap.size rfl (.tmp 17) (.tmp 19) 24 3 (.int .i64 0) 8 rfl Try.underlying24 info3 rfl (by decide) (by omega) v177 y176 l0_1 _ _ _ (fun _ => True) (fun _ => False) rfl rfl ?aO ?aR (fun _ _ h => h) (fun _ h => h.elim) ?aF ?aB ?aS ?aL ?_;(case aR => repeat (first|exact (Kd.C_below HR0_1.out HB.out)|(with_reducible refine Kd.C_alloc ?_ _)|(with_reducible refine Kd.C_drewN ?_ _)|(with_reducible refine Kd.C_drew ?_)));(case aB => exact (by repeat (first|(with_reducible first|exact HB.out|apply below_alloc|apply pw_below_drewN|apply below_drew1|refine below_set ?_ GE175.out)|exact HB.out)));(case aF => exact (fun _ _ => trivial));(case aO => exact (by (with_reducible repeat (first|apply Kd.R_alloc|apply Kd.R_drewN|apply Kd.R_drew));exact HO178.out));(case aS => exact (below_size (by repeat (first|(with_reducible first|exact HB.out|apply below_alloc|apply pw_below_drewN|apply below_drew1|refine below_set ?_ GE175.out)|exact HB.out))));(case aL => have:=LMc2.out;omega);intro v180 w8 ho hb hg hat;rw [← Ny179.out] at ho;have n0_:=Aside0.mk (blk_grown (g:=gb175) (o:=.cells #[.int .i64 a0_0,.slice A0_1 l0_1.length c0_1,.int .i64 a0_2,.int .i64 a0_3,.int .i64 a0_4] 39 (0,0)) (by (with_reducible repeat (first|refine blk_drewN ?_ _|refine blk_drew ?_|refine blk_alloc ?_ _));exact BK175.out) hg (Kd.R_ne HO178.out BK175.out (by decide)));have n1_:=Aside0.mk (hb);have n2_:=Aside0.mk (ho);clear BK175;clear HB;clear HO178;have BK175:=n0_;have HB:=n1_;have HO181:=n2_;clear n0_ n1_ n2_;clear ho hb hg hat))
  go_ret
  exact ⟨_,by first|rfl|(simp [errW_none,errW_some] <;> rfl)|(simp [*,errW_none,errW_some] <;> rfl),by (with_reducible repeat (first|apply Kd.R_alloc|apply Kd.R_drewN|apply Kd.R_drew));exact HO181.out,by repeat (first|(with_reducible first|exact HB.out|apply below_alloc|apply pw_below_drewN|apply below_drew1|refine below_set ?_ GE175.out)|exact HB.out)⟩
 ·rw [if_neg c2] at H
  exact absurd H (by simp)
def spec_DigestOf.f (k : Nat) (a0_0 : Int) (l0_1 : List Int) (a0_2 : Int) (a0_3 : Int) (a0_4 : Int) : Option (Int):=(spec_ResourceInts.f a0_0 l0_1 a0_2 a0_3 a0_4).bind fun t183 => ((spec_Hash.f k t183).bind fun t186 => (some t186))
theorem spec_DigestOf.mono : ∀ a0 a1 a2 a3 a4 k,LeO (spec_DigestOf.f k a0 a1 a2 a3 a4) (spec_DigestOf.f (k + 1) a0 a1 a2 a3 a4):=by
 intro a0 a1 a2 a3 a4 k;unfold spec_DigestOf.f
 repeat' first
  |(with_reducible exact spec_Hash.mono _ _)
  |(with_reducible exact LeO.refl _)
  |(with_reducible exact LeO.none _)
  |(with_reducible refine LeO.ite ?_ ?_)
  |(with_reducible refine LeO.bind ?_ (fun _ => ?_))
  |exact spec_Hash.mono _ _
  |exact LeO.none _
  |refine LeO.ite ?_ ?_
  |refine LeO.bind ?_ (fun _ => ?_)
theorem spec_DigestOf.calls (k : Nat) (a0_0 : Int) (A0_1 : Option Addr) (c0_1 : Nat) (l0_1 : List Int) (a0_2 : Int) (a0_3 : Int) (a0_4 : Int) (r : Int) (w : World) (hr0_1 : Kd.C (Kd.int .i64) w A0_1 l0_1.length l0_1) (hc0_1 : l0_1.length ≤ c0_1) (h : spec_DigestOf.f k a0_0 l0_1 a0_2 a0_3 a0_4 = some r) :
  Calls Try.prog 70 #[.agg #[.int .i64 a0_0,.slice A0_1 l0_1.length c0_1,.int .i64 a0_2,.int .i64 a0_3,.int .i64 a0_4]] w fun e w' => e = .returned (.int .i64 r) ∧ Below w.heap.size w w':=by
 have hu39:=Try.underlying39
 have HR0_1:=Aside0.mk hr0_1;have HC0_1:=Aside0.mk hc0_1;clear hr0_1 hc0_1;have HB:=Aside0.mk (Below.refl w.heap.size w)
 have H : ((spec_ResourceInts.f a0_0 l0_1 a0_2 a0_3 a0_4).bind fun t183 => ((spec_Hash.f k t183).bind fun t186 => (some t186))) = some r:=h
 clear h;replace H:=Option.bind_eq_some_iff.mp H
 obtain ⟨t183,A20,H⟩:=H;replace H : ((spec_Hash.f k t183).bind fun t186 => (some t186)) = some r:=H
 have A2:=Aside0.mk A20;clear A20;replace H:=Option.bind_eq_some_iff.mp H
 obtain ⟨t186,A30,H⟩:=H;replace H : (some t186) = some r:=H
 have A3:=Aside0.mk A30;clear A30;obtain rfl:=Option.some.inj H
 go_enter Try.func70,Try.ntmps70
 go_wp2_with (first|((with_reducible refine gate_dst (N:=1) rfl ?_);refine box_event ?hg (N:=1) ?hd (cs:=#[.int .i64 a0_0,.slice A0_1 l0_1.length c0_1,.int .i64 a0_2,.int .i64 a0_3,.int .i64 a0_4]) (t:=39) ?hr ?_;(case hd => rfl);(case hg => rfl);(case hr => first|(go_simp;done)|(go_simp;rfl));intro gb182 hg w4 hbox hb;have n0_:=Aside0.mk (below_step (by repeat (first|(with_reducible first|exact HB.out|apply below_alloc|apply pw_below_drewN|apply below_drew1)|exact HB.out)) hb);have n1_:=Aside0.mk (hbox);have n2_:=Aside0.mk ((by rw [hg];exact (below_size (by repeat (first|(with_reducible first|exact HB.out|apply below_alloc|apply pw_below_drewN|apply below_drew1)|exact HB.out))) : w.heap.size ≤ gb182));have n3_:=Aside0.mk ((by rw [hg];exact (below_size (by repeat (first|(with_reducible first|exact HB.out|apply below_alloc|apply pw_below_drewN|apply below_drew1)|exact HB.out))) : w.heap.size ≤ gb182));clear HB;have HB:=n0_;have BK182:=n1_;have GW182:=n2_;have GE182:=n3_;clear n0_ n1_ n2_ n3_;clear hb hbox hg;have hcz5_0 : w4.cell? ⟨gb182,0,none⟩ = some (.int .i64 a0_0):=(blk_cell BK182.out 0).trans rfl;have hcz5_1 : w4.cell? ⟨gb182,1,none⟩ = some (.slice A0_1 l0_1.length c0_1):=(blk_cell BK182.out 1).trans rfl;have hcz5_2 : w4.cell? ⟨gb182,2,none⟩ = some (.int .i64 a0_2):=(blk_cell BK182.out 2).trans rfl;have hcz5_3 : w4.cell? ⟨gb182,3,none⟩ = some (.int .i64 a0_3):=(blk_cell BK182.out 3).trans rfl;have hcz5_4 : w4.cell? ⟨gb182,4,none⟩ = some (.int .i64 a0_4):=(blk_cell BK182.out 4).trans rfl;have hfz5_0:=blk_frozen BK182.out 0;have hfz5_1:=blk_frozen BK182.out 1;have hfz5_2:=blk_frozen BK182.out 2;have hfz5_3:=blk_frozen BK182.out 3;have hfz5_4:=blk_frozen BK182.out 4)|((with_reducible refine gate_callee (f:=88) rfl ?_);refine goesL_ (some 4) rfl rfl Try.func88 (by kernel_rfl) rfl #[.agg #[.int .i64 a0_0,.slice A0_1 l0_1.length c0_1,.int .i64 a0_2,.int .i64 a0_3,.int .i64 a0_4]] rfl (by (try simp only [List.map_toArray,List.map_cons,List.map_nil]);first|done|rfl|(simp only [List.length_drop,List.length_take];rfl)) ?_;(with_reducible refine (spec_ResourceInts.calls a0_0 _ _ l0_1 a0_2 a0_3 a0_4 t183 _ ?side1 ?side2 A2.out).mono ?_);(case side1 => repeat (first|exact (Kd.C_below HR0_1.out HB.out)|(with_reducible refine Kd.C_alloc ?_ _)|(with_reducible refine Kd.C_drewN ?_ _)|(with_reducible refine Kd.C_drew ?_)));(case side2 => exact HC0_1.out);rintro e w6 ⟨v184,rfl,ho0,hb⟩;refine ⟨_,rfl,?_⟩;have n0_:=Aside0.mk (Kd.R_lower ho0 (below_size (by repeat (first|(with_reducible first|exact HB.out|apply below_alloc|apply pw_below_drewN|apply below_drew1|refine below_set ?_ GE182.out)|exact HB.out))));have n1_:=Aside0.mk (blk_below (g:=gb182) (o:=.cells #[.int .i64 a0_0,.slice A0_1 l0_1.length c0_1,.int .i64 a0_2,.int .i64 a0_3,.int .i64 a0_4] 39 (0,0)) (by (with_reducible repeat (first|refine blk_drewN ?_ _|refine blk_drew ?_|refine blk_alloc ?_ _));exact BK182.out) hb);have n2_:=Aside0.mk (below_step (by repeat (first|(with_reducible first|exact HB.out|apply below_alloc|apply pw_below_drewN|apply below_drew1|refine below_set ?_ GE182.out)|exact HB.out)) hb);clear BK182;clear HB;have HO185:=n0_;have BK182:=n1_;have HB:=n2_;clear n0_ n1_ n2_;(try clear hb);(try clear hk);(try clear ho0);obtain ⟨Ao7,co7,eo7⟩:=Kd.R_slice HO185.out;subst eo7)|((with_reducible refine gate_callee (f:=78) rfl ?_);refine goesL_ (some 5) rfl rfl Try.func78 (by kernel_rfl) rfl #[.slice Ao7 t183.length co7] rfl (by (try simp only [List.map_toArray,List.map_cons,List.map_nil]);first|done|rfl|(simp only [List.length_drop,List.length_take];rfl)) ?_;(with_reducible refine (spec_Hash.calls k _ _ t183 t186 _ ?side1 ?side2 A3.out).mono ?_);(case side1 => repeat (first|exact (Kd.R_reads' HO185.out).2.2|(with_reducible refine Kd.C_alloc ?_ _)|(with_reducible refine Kd.C_drewN ?_ _)|(with_reducible refine Kd.C_drew ?_)));(case side2 => exact (Kd.R_reads' HO185.out).2.1);rintro e w' ⟨rfl,⟨nd,rfl⟩⟩;refine ⟨_,rfl,?_⟩))
 go_ret
 exact ⟨by first|rfl|(simp [errW_none,errW_some] <;> rfl)|(simp [*,errW_none,errW_some] <;> rfl),by repeat (first|(with_reducible first|exact HB.out|apply below_alloc|apply pw_below_drewN|apply below_drew1|refine below_set ?_ GE182.out)|exact HB.out)⟩
end Go.Proofs.Ytgcidlnhgpjdpad.QFnExactIsStore
