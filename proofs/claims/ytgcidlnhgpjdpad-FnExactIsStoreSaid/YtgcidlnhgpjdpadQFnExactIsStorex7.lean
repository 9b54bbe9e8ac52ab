/- The Go functions that the law FnExactIsStore comes to, each as a Lean function, with a proof that the call does what it says; written by a program of this session over the print of the kit. No conditions. -/
import Derived.Test.YtgcidlnhgpjdpadQFnExactIsStorex0
import Derived.Test.YtgcidlnhgpjdpadQFnExactIsStorex6
namespace Go.Proofs.Ytgcidlnhgpjdpad.QFnExactIsStore
open Go.RowKit Go.Proofs.YtgcidlnhgpjdpadW.PrintWords Go.Proofs.YtgcidlnhgpjdpadW.PrintLast Go.Proofs.YtgcidlnhgpjdpadW.PrintMore
attribute [local go_sem] max2_int min2_int max_two min_two max_three min_three max_four min_four   -- for this text's walks alone
set_option linter.unusedVariables false
set_option linter.unusedSimpArgs false
def impl_IsStore.l0 : Nat → List (S94) → List (S94) → Int → Int → Option (Bool)
  | 0, _, _, _, _ => none
  | k + 1, x0, x8, x9, x10 => if x10 < x9 then (if 0 ≤ x10 then (if x10 < (x8.length : Int) then (if x10 > 0 then (if 0 ≤ (wrap64 (x10 - 1)) then (if (wrap64 (x10 - 1)) < (x0.length : Int) then (if ((rd_T94 x0 (wrap64 (x10 - 1))).f0) ≥ ((rd_T94 x8 x10).f0) then (some false) else ((impl_IsResource.f k ((rd_T94 x8 x10).f1.f0) ((rd_T94 x8 x10).f1.f1) ((rd_T94 x8 x10).f1.f2.f0) ((rd_T94 x8 x10).f1.f2.f1) ((rd_T94 x8 x10).f1.f2.f2)).bind fun t223 => (if t223 = true then ((impl_DigestOf.f k ((rd_T94 x8 x10).f1.f0) ((rd_T94 x8 x10).f1.f1) ((rd_T94 x8 x10).f1.f2.f0) ((rd_T94 x8 x10).f1.f2.f1) ((rd_T94 x8 x10).f1.f2.f2)).bind fun t224 => (if t224 = ((rd_T94 x8 x10).f0) then ((impl_InRange.f ((rd_T94 x8 x10).f2) 1 1000).bind fun t225 => (if t225 = true then (impl_IsStore.l0 k x0 x8 x9 (wrap64 (x10 + 1))) else (some false))) else (some false))) else (some false)))) else (none)) else (none)) else ((impl_IsResource.f k ((rd_T94 x8 x10).f1.f0) ((rd_T94 x8 x10).f1.f1) ((rd_T94 x8 x10).f1.f2.f0) ((rd_T94 x8 x10).f1.f2.f1) ((rd_T94 x8 x10).f1.f2.f2)).bind fun t226 => (if t226 = true then ((impl_DigestOf.f k ((rd_T94 x8 x10).f1.f0) ((rd_T94 x8 x10).f1.f1) ((rd_T94 x8 x10).f1.f2.f0) ((rd_T94 x8 x10).f1.f2.f1) ((rd_T94 x8 x10).f1.f2.f2)).bind fun t227 => (if t227 = ((rd_T94 x8 x10).f0) then ((impl_InRange.f ((rd_T94 x8 x10).f2) 1 1000).bind fun t228 => (if t228 = true then (impl_IsStore.l0 k x0 x8 x9 (wrap64 (x10 + 1))) else (some false))) else (some false))) else (some false)))) else (none)) else (none)) else (some true)
def impl_IsStore.f (k : Nat) (l0 : List (S94)) : Option (Bool) := if (l0.length : Int) > 30 then (some false) else (impl_IsStore.l0 k l0 l0 (l0.length : Int) 0)
theorem impl_IsStore.mono_l : ∀ k, (∀ y0 y1 y2 y3, LeO (impl_IsStore.l0 k y0 y1 y2 y3) (impl_IsStore.l0 (k + 1) y0 y1 y2 y3))
  | 0 => fun _ _ _ _ r h => by simp [impl_IsStore.l0] at h
  | k + 1 => by
    have ih0 := impl_IsStore.mono_l k
    · intro y0 y1 y2 y3
      unfold impl_IsStore.l0
      repeat' first
      | (with_reducible exact ih0 _ _ _ _)
      | (with_reducible exact impl_DigestOf.mono _ _ _ _ _ _)
      | (with_reducible exact impl_IsResource.mono _ _ _ _ _ _)
      | (with_reducible exact LeO.refl _)
      | (with_reducible exact LeO.none _)
      | (with_reducible refine LeO.ite ?_ ?_)
      | (with_reducible refine LeO.bind ?_ (fun _ => ?_))
      | exact ih0 _ _ _ _
      | exact impl_DigestOf.mono _ _ _ _ _ _
      | exact impl_IsResource.mono _ _ _ _ _ _
      | exact LeO.none _
      | refine LeO.ite ?_ ?_
      | refine LeO.bind ?_ (fun _ => ?_)
theorem impl_IsStore.mono : ∀ a0 k, LeO (impl_IsStore.f k a0) (impl_IsStore.f (k + 1) a0) := by
  intro a0 k
  have ih0 := impl_IsStore.mono_l k
  unfold impl_IsStore.f
  repeat' first
      | (with_reducible exact ih0 _ _ _ _)
      | (with_reducible exact impl_DigestOf.mono _ _ _ _ _ _)
      | (with_reducible exact impl_IsResource.mono _ _ _ _ _ _)
      | (with_reducible exact LeO.refl _)
      | (with_reducible exact LeO.none _)
      | (with_reducible refine LeO.ite ?_ ?_)
      | (with_reducible refine LeO.bind ?_ (fun _ => ?_))
      | exact ih0 _ _ _ _
      | exact impl_DigestOf.mono _ _ _ _ _ _
      | exact impl_IsResource.mono _ _ _ _ _ _
      | exact LeO.none _
      | refine LeO.ite ?_ ?_
      | refine LeO.bind ?_ (fun _ => ?_)
def impl_IsStore.T6 : Bool × List (List Nat × List Nat) := (true, [([], []), ([0], [0]), ([1], [1]), ([2], [2]), ([2], [2]), ([4, 2], [2, 4]), ([3, 5, 2], [2, 3, 5]), ([6, 2], [2, 6]), ([7, 2], [2, 7]), ([2], [2]), ([9, 2], [2, 9]), ([8, 10, 2], [2, 8, 10]), ([2, 11], [2, 11]), ([12, 2], [12]), ([13], [13]), ([14, 13], [13, 14]), ([15, 13, 13], [13, 15]), ([16, 13], [13, 16]), ([13, 17], [13, 17]), ([18, 16], [18]), ([19], [19]), ([20, 19], [19, 20]), ([21, 19, 19], [19, 21]), ([19], [19]), ([23, 19], [19, 23]), ([22, 24, 19], [19, 22, 24]), ([19, 25], [19, 25]), ([26, 22], [26]), ([27], [27]), ([28, 27], [27, 28]), ([29, 27, 27], [27, 29]), ([30, 27], [27, 30]), ([27, 31], [27, 31])])
def impl_IsStore.B6 : List Nat := [0, 1, 3, 7, 7, 23, 63, 127, 255, 7, 519, 2047, 4095, 8191, 16383, 32767, 65535, 131071, 262143, 524287, 1048575, 2097151, 4194303, 1048575, 9437183, 33554431, 67108863, 134217727, 268435455, 536870911, 1073741823, 2147483647, 4294967295]
theorem impl_IsStore.tab6 : rtab .any (opsOf Try.f35 6) = impl_IsStore.T6 := by kernel_rfl
theorem impl_IsStore.bits6 : waitsOk impl_IsStore.T6.2 impl_IsStore.B6 = true := by kernel_rfl
def impl_IsStore.q0_ : Array Bool := #[false,false,false,false,false,false,false,false,false,false,false,false,false,false,false,false,false,false,false,false,false,false,false,false,false,false,false,false,false,false,false,false,false]
def impl_IsStore.q1_ : Array Bool := #[true,false,false,false,false,false,false,false,false,false,false,false,false,false,false,false,false,false,false,false,false,false,false,false,false,false,false,false,false,false,false,false,false]
def impl_IsStore.q2_ : Array Bool := #[true,true,false,false,false,false,false,false,false,false,false,false,false,false,false,false,false,false,false,false,false,false,false,false,false,false,false,false,false,false,false,false,false]
def impl_IsStore.q3_ : Array Bool := #[true,true,true,false,false,false,false,false,false,false,false,false,false,false,false,false,false,false,false,false,false,false,false,false,false,false,false,false,false,false,false,false,false]
def impl_IsStore.q4_ : Array Bool := #[true,true,true,true,false,false,false,false,false,false,false,false,false,false,false,false,false,false,false,false,false,false,false,false,false,false,false,false,false,false,false,false,false]
def impl_IsStore.q5_ : Array Bool := #[true,true,true,true,true,false,false,false,false,false,false,false,false,false,false,false,false,false,false,false,false,false,false,false,false,false,false,false,false,false,false,false,false]
def impl_IsStore.q6_ : Array Bool := #[true,true,true,true,true,true,false,false,false,false,false,false,false,false,false,false,false,false,false,false,false,false,false,false,false,false,false,false,false,false,false,false,false]
def impl_IsStore.q7_ : Array Bool := #[true,true,true,true,true,true,true,false,false,false,false,false,false,false,false,false,false,false,false,false,false,false,false,false,false,false,false,false,false,false,false,false,false]
def impl_IsStore.q8_ : Array Bool := #[true,true,true,true,true,true,true,true,false,false,false,false,false,false,false,false,false,false,false,false,false,false,false,false,false,false,false,false,false,false,false,false,false]
def impl_IsStore.q9_ : Array Bool := #[true,true,true,true,true,true,true,true,false,true,false,false,false,false,false,false,false,false,false,false,false,false,false,false,false,false,false,false,false,false,false,false,false]
def impl_IsStore.q10_ : Array Bool := #[true,true,true,true,true,true,true,true,true,true,false,false,false,false,false,false,false,false,false,false,false,false,false,false,false,false,false,false,false,false,false,false,false]
def impl_IsStore.q11_ : Array Bool := #[true,true,true,true,true,true,true,true,true,true,true,false,false,false,false,false,false,false,false,false,false,false,false,false,false,false,false,false,false,false,false,false,false]
def impl_IsStore.q12_ : Array Bool := #[true,true,true,true,true,true,true,true,true,true,true,true,false,false,false,false,false,false,false,false,false,false,false,false,false,false,false,false,false,false,false,false,false]
def impl_IsStore.q13_ : Array Bool := #[true,true,true,true,true,true,true,true,true,true,true,true,true,false,false,false,false,false,false,false,false,false,false,false,false,false,false,false,false,false,false,false,false]
def impl_IsStore.q14_ : Array Bool := #[true,true,true,true,true,true,true,true,true,true,true,true,true,true,false,false,false,false,false,false,false,false,false,false,false,false,false,false,false,false,false,false,false]
def impl_IsStore.q15_ : Array Bool := #[true,true,true,true,true,true,true,true,true,true,true,true,true,true,true,false,false,false,false,false,false,false,false,false,false,false,false,false,false,false,false,false,false]
def impl_IsStore.q16_ : Array Bool := #[true,true,true,true,true,true,true,true,true,true,true,true,true,true,true,true,false,false,false,false,false,false,false,false,false,false,false,false,false,false,false,false,false]
def impl_IsStore.q17_ : Array Bool := #[true,true,true,true,true,true,true,true,true,true,true,true,true,true,true,true,true,false,false,false,false,false,false,false,false,false,false,false,false,false,false,false,false]
def impl_IsStore.q18_ : Array Bool := #[true,true,true,true,true,true,true,true,true,true,true,true,true,true,true,true,true,true,false,false,false,false,false,false,false,false,false,false,false,false,false,false,false]
def impl_IsStore.q19_ : Array Bool := #[true,true,true,true,true,true,true,true,true,true,true,true,true,true,true,true,true,true,true,false,false,false,false,false,false,false,false,false,false,false,false,false,false]
def impl_IsStore.q20_ : Array Bool := #[true,true,true,true,true,true,true,true,true,true,true,true,true,true,true,true,true,true,true,true,false,false,false,false,false,false,false,false,false,false,false,false,false]
def impl_IsStore.q21_ : Array Bool := #[true,true,true,true,true,true,true,true,true,true,true,true,true,true,true,true,true,true,true,true,true,false,false,false,false,false,false,false,false,false,false,false,false]
def impl_IsStore.q22_ : Array Bool := #[true,true,true,true,true,true,true,true,true,true,true,true,true,true,true,true,true,true,true,true,true,true,false,false,false,false,false,false,false,false,false,false,false]
def impl_IsStore.q23_ : Array Bool := #[true,true,true,true,true,true,true,true,true,true,true,true,true,true,true,true,true,true,true,true,true,true,true,false,false,false,false,false,false,false,false,false,false]
def impl_IsStore.q24_ : Array Bool := #[true,true,true,true,true,true,true,true,true,true,true,true,true,true,true,true,true,true,true,true,true,true,true,true,false,false,false,false,false,false,false,false,false]
def impl_IsStore.q25_ : Array Bool := #[true,true,true,true,true,true,true,true,true,true,true,true,true,true,true,true,true,true,true,true,true,true,true,true,true,false,false,false,false,false,false,false,false]
def impl_IsStore.q26_ : Array Bool := #[true,true,true,true,true,true,true,true,true,true,true,true,true,true,true,true,true,true,true,true,true,true,true,true,true,true,false,false,false,false,false,false,false]
def impl_IsStore.q27_ : Array Bool := #[true,true,true,true,true,true,true,true,true,true,true,true,true,true,true,true,true,true,true,true,true,true,true,true,true,true,true,false,false,false,false,false,false]
def impl_IsStore.q28_ : Array Bool := #[true,true,true,true,true,true,true,true,true,true,true,true,true,true,true,true,true,true,true,true,true,true,true,true,true,true,true,true,false,false,false,false,false]
def impl_IsStore.q29_ : Array Bool := #[true,true,true,true,true,true,true,true,true,true,true,true,true,true,true,true,true,true,true,true,true,true,true,true,true,true,true,true,true,false,false,false,false]
def impl_IsStore.q30_ : Array Bool := #[true,true,true,true,true,true,true,true,true,true,true,true,true,true,true,true,true,true,true,true,true,true,true,true,true,true,true,true,true,true,false,false,false]
def impl_IsStore.q31_ : Array Bool := #[true,true,true,true,true,true,true,true,true,true,true,true,true,true,true,true,true,true,true,true,true,true,true,true,true,true,true,true,true,true,true,false,false]
def impl_IsStore.q32_ : Array Bool := #[true,true,true,true,true,true,true,true,true,true,true,true,true,true,true,true,true,true,true,true,true,true,true,true,true,true,true,true,true,true,true,true,false]
def impl_IsStore.q33_ : Array Bool := #[true,true,true,true,true,true,true,true,true,true,true,true,true,true,true,true,true,true,true,true,true,true,true,true,true,true,true,true,true,true,true,true,true]
def impl_IsStore.q34_ : Array Bool := #[true,true,true,true,true,true,true,true,true,true,true,true,true,true,true,true,true,true,true,true,true,false,false,true,false,false,false,false,false,false,false,false,false]
def impl_IsStore.q35_ : Array Bool := #[true,true,true,true,true,true,true,true,true,true,true,true,true,true,true,true,true,true,true,true,true,true,false,true,false,false,false,false,false,false,false,false,false]
def impl_IsStore.q36_ : Array Bool := #[true,true,true,true,true,true,true,true,true,true,true,true,true,true,true,true,true,true,true,true,true,true,false,true,true,false,false,false,false,false,false,false,false]
def impl_IsStore.q37_ : Array Bool := #[true,true,true,true,true,true,true,true,true,false,false,false,false,false,false,false,false,false,false,false,false,false,false,false,false,false,false,false,false,false,false,false,false]
set_option maxHeartbeats 8000000 in
set_option maxRecDepth 100000 in
theorem impl_IsStore.calls (k : Nat) (A0 : Option Addr) (c0 : Nat) (l0 : List (S94)) (r : Bool) (w : World) (hr0 : Kd.C k94 w A0 l0.length l0) (hc0 : l0.length ≤ c0) (h : impl_IsStore.f k l0 = some r) :
  Calls Try.prog 35 #[.slice A0 l0.length c0] w fun e w' => e = .returned (.bool r) ∧ Below w.heap.size w w':=by
 have hu94:=Try.underlying94
 have hu39:=Try.underlying39
 have HR0:=Aside0.mk hr0;have HC0:=Aside0.mk hc0;clear hr0 hc0;have HB:=Aside0.mk (Below.refl w.heap.size w)
 have H : (if (l0.length : Int) > 30 then (some false) else (impl_IsStore.l0 k l0 l0 (l0.length : Int) 0)) = some r:=h
 clear h;by_cases c2 : (l0.length : Int) > 30
 ·rw [if_pos c2] at H
  have c2b0 : decide (30 < (l0.length : Int)) = true:=decide_eq_true c2
  have c2b1 : decide (30 < l0.length) = true:=decide_eq_true (by omega)
  clear c2;obtain rfl:=Option.some.inj H
  go_enter Try.func35,Try.ntmps35
  go_wp2
  go_ret
  exact ⟨by first|rfl|(simp [errW_none,errW_some] <;> rfl)|(simp [*,errW_none,errW_some] <;> rfl),by repeat (first|(with_reducible first|exact HB.out|apply below_alloc|apply pw_below_drewN|apply below_drew1)|exact HB.out)⟩
 ·rw [if_neg c2] at H
  have c2b0 : decide (30 < (l0.length : Int)) = false:=decide_eq_false c2
  have c2b1 : decide (30 < l0.length) = false:=decide_eq_false (by omega)
  clear c2;have H':=Aside0.mk H;clear H;go_enter Try.func35,Try.ntmps35
  go_wp2
  go_loopg [10] k (fun kq v10 w' => ∃ (x10_1 : Int),v10 = .int .i64 x10_1 ∧ Aside0 (impl_IsStore.l0 kq l0 l0 (l0.length : Int) x10_1 = some r) ∧ Aside0 (kq ≤ k) ∧ Aside0 (Below w.heap.size w w'))
  case atStart => exact ⟨(0),(by first|rfl|(simp;done)|(simp [*];done)),H',⟨Nat.le_refl _⟩,⟨by repeat (first|(with_reducible first|exact HB.out|apply below_alloc|apply pw_below_drewN|apply below_drew1)|exact HB.out)⟩⟩
  case round =>
   clear H';try clear c2
   try clear c2b0
   try clear c2b1
   try clear p2
   obtain ⟨x10_1,rfl,HA,HK1,HB⟩:=hrel;cases gk with
  |zero => exact absurd HA.out (by simp [impl_IsStore.l0])
  |succ k1 =>
    have H:=HA.out;clear HA;simp only [impl_IsStore.l0] at H
    by_cases c3 : x10_1 < (l0.length : Int)
    ·rw [if_pos c3] at H
     have c3b0 : decide (x10_1 < (l0.length : Int)) = true:=decide_eq_true c3
     clear c3;by_cases c4 : 0 ≤ x10_1
     ·rw [if_pos c4] at H
      have c4b0 : decide (0 ≤ x10_1) = true:=decide_eq_true c4
      clear c4;by_cases c5 : x10_1 < (l0.length : Int)
      ·rw [if_pos c5] at H
       have c5b0 : decide (x10_1 < (l0.length : Int)) = true:=decide_eq_true c5
       clear c5;by_cases c6 : x10_1 > 0
       ·rw [if_pos c6] at H
        have c6b0 : decide (0 < x10_1) = true:=decide_eq_true c6
        clear c6;obtain ⟨ji7,hji7⟩ : ∃ j_ : Int,(wrap64 (x10_1 - 1)) = j_:=⟨_,rfl⟩
        replace H : (if 0 ≤ (ji7) then (if (ji7) < (l0.length : Int) then (if ((rd_T94 l0 (ji7)).f0) ≥ ((rd_T94 l0 x10_1).f0) then (some false) else ((impl_IsResource.f k1 ((rd_T94 l0 x10_1).f1.f0) ((rd_T94 l0 x10_1).f1.f1) ((rd_T94 l0 x10_1).f1.f2.f0) ((rd_T94 l0 x10_1).f1.f2.f1) ((rd_T94 l0 x10_1).f1.f2.f2)).bind fun t223 => (if t223 = true then ((impl_DigestOf.f k1 ((rd_T94 l0 x10_1).f1.f0) ((rd_T94 l0 x10_1).f1.f1) ((rd_T94 l0 x10_1).f1.f2.f0) ((rd_T94 l0 x10_1).f1.f2.f1) ((rd_T94 l0 x10_1).f1.f2.f2)).bind fun t224 => (if t224 = ((rd_T94 l0 x10_1).f0) then ((impl_InRange.f ((rd_T94 l0 x10_1).f2) 1 1000).bind fun t225 => (if t225 = true then (impl_IsStore.l0 k1 l0 l0 (l0.length : Int) (wrap64 (x10_1 + 1))) else (some false))) else (some false))) else (some false)))) else (none)) else (none)) = some r:=by first|(rw [hji7] at H;exact H)|(simp only [hji7] at H ⊢;exact H)
        have hji7w : (IntKind.i64.wrap (x10_1 - 1)) = ji7:=(i64_w _).trans hji7
        by_cases c8 : 0 ≤ (ji7)
        ·rw [if_pos c8] at H
         have c8b0 : decide (0 ≤ (ji7)) = true:=decide_eq_true c8
         clear c8;by_cases c9 : (ji7) < (l0.length : Int)
         ·rw [if_pos c9] at H
          have c9b0 : decide ((ji7) < (l0.length : Int)) = true:=decide_eq_true c9
          clear c9;by_cases c10 : ((rd_T94 l0 (ji7)).f0) ≥ ((rd_T94 l0 x10_1).f0)
          ·rw [if_pos c10] at H
           have c10b0 : decide (((rd_T94 l0 x10_1).f0) ≤ ((rd_T94 l0 (ji7)).f0)) = true:=decide_eq_true c10
           clear c10;obtain rfl:=Option.some.inj H
           have p220 : 0 ≤ (x10_1 : Int):=of_decide_eq_true (by first|(with_reducible assumption)|assumption)
           have q220 : x10_1 < (l0.length : Int):=of_decide_eq_true (by first|(with_reducible assumption)|assumption)
           obtain ⟨ad220,A220_2,c220_2,e220,hx220_0,hx220_1,hx220_2,hx220_3,hx220_4,hx220_5,hx220_6,hl220_2,hi220_2⟩:=at_T94 HR0.out x10_1 p220 q220
           cases e220
           replace hx220_0:=(HB.out.cell (World.block_lt_of_cell? w _ hx220_0)).trans hx220_0
           replace hx220_1:=(HB.out.cell (World.block_lt_of_cell? w _ hx220_1)).trans hx220_1
           replace hx220_2:=(HB.out.cell (World.block_lt_of_cell? w _ hx220_2)).trans hx220_2
           replace hx220_3:=(HB.out.cell (World.block_lt_of_cell? w _ hx220_3)).trans hx220_3
           replace hx220_4:=(HB.out.cell (World.block_lt_of_cell? w _ hx220_4)).trans hx220_4
           replace hx220_5:=(HB.out.cell (World.block_lt_of_cell? w _ hx220_5)).trans hx220_5
           replace hx220_6:=(HB.out.cell (World.block_lt_of_cell? w _ hx220_6)).trans hx220_6
           have HR220_2:=Aside0.mk hi220_2;have HC220_2:=Aside0.mk hl220_2;clear hi220_2 hl220_2;replace p220:=eq_true p220
           replace q220:=eq_true q220
           try go_wp2_with (first|((with_reducible refine gate_dst (N:=4) rfl ?_);refine box_event ?hg (N:=4) ?hd (cs:=#[.int .i64 0,.int .i64 0,.slice none 0 0,.int .i64 0,.int .i64 0,.int .i64 0,.int .i64 0]) (t:=94) ?hr ?_;(case hd => rfl);(case hg => rfl);(case hr => first|(go_simp;done)|(go_simp;rfl));intro gb221 hg w11 hbox hb;have n0_:=Aside0.mk (below_step (by repeat (first|(with_reducible first|exact HB.out|apply below_alloc|apply pw_below_drewN|apply below_drew1)|exact HB.out)) hb);have n1_:=Aside0.mk (hbox);have n2_:=Aside0.mk ((by rw [hg];exact (below_size (by repeat (first|(with_reducible first|exact HB.out|apply below_alloc|apply pw_below_drewN|apply below_drew1)|exact HB.out))) : w.heap.size ≤ gb221));have n3_:=Aside0.mk ((by rw [hg];exact (below_size (by repeat (first|(with_reducible first|exact HB.out|apply below_alloc|apply pw_below_drewN|apply below_drew1)|exact HB.out))) : w.heap.size ≤ gb221));clear HB;have HB:=n0_;have BK221:=n1_;have GW221:=n2_;have GE221:=n3_;clear n0_ n1_ n2_ n3_;clear hb hbox hg;have hcz12_0 : w11.cell? ⟨gb221,0,none⟩ = some (.int .i64 0):=(blk_cell BK221.out 0).trans rfl;have hcz12_1 : w11.cell? ⟨gb221,1,none⟩ = some (.int .i64 0):=(blk_cell BK221.out 1).trans rfl;have hcz12_2 : w11.cell? ⟨gb221,2,none⟩ = some (.slice none 0 0):=(blk_cell BK221.out 2).trans rfl;have hcz12_3 : w11.cell? ⟨gb221,3,none⟩ = some (.int .i64 0):=(blk_cell BK221.out 3).trans rfl;have hcz12_4 : w11.cell? ⟨gb221,4,none⟩ = some (.int .i64 0):=(blk_cell BK221.out 4).trans rfl;have hcz12_5 : w11.cell? ⟨gb221,5,none⟩ = some (.int .i64 0):=(blk_cell BK221.out 5).trans rfl;have hcz12_6 : w11.cell? ⟨gb221,6,none⟩ = some (.int .i64 0):=(blk_cell BK221.out 6).trans rfl;have hfz12_0:=blk_frozen BK221.out 0;have hfz12_1:=blk_frozen BK221.out 1;have hfz12_2:=blk_frozen BK221.out 2;have hfz12_3:=blk_frozen BK221.out 3;have hfz12_4:=blk_frozen BK221.out 4;have hfz12_5:=blk_frozen BK221.out 5;have hfz12_6:=blk_frozen BK221.out 6))
           have n0_ : Aside0 ((((((((w11.setCell ⟨gb221,0,none⟩ (.int .i64 ((rd_T94 l0 x10_1).f0))).setCell ⟨gb221,1,none⟩ (.int .i64 ((rd_T94 l0 x10_1).f1.f0))).setCell ⟨gb221,2,none⟩ (.slice A220_2 ((rd_T94 l0 x10_1).f1.f1).length c220_2)).setCell ⟨gb221,3,none⟩ (.int .i64 ((rd_T94 l0 x10_1).f1.f2.f0))).setCell ⟨gb221,4,none⟩ (.int .i64 ((rd_T94 l0 x10_1).f1.f2.f1))).setCell ⟨gb221,5,none⟩ (.int .i64 ((rd_T94 l0 x10_1).f1.f2.f2))).setCell ⟨gb221,6,none⟩ (.int .i64 ((rd_T94 l0 x10_1).f2))).heap[gb221]? = some (.cells #[.int .i64 ((rd_T94 l0 x10_1).f0),.int .i64 ((rd_T94 l0 x10_1).f1.f0),.slice A220_2 ((rd_T94 l0 x10_1).f1.f1).length c220_2,.int .i64 ((rd_T94 l0 x10_1).f1.f2.f0),.int .i64 ((rd_T94 l0 x10_1).f1.f2.f1),.int .i64 ((rd_T94 l0 x10_1).f1.f2.f2),.int .i64 ((rd_T94 l0 x10_1).f2)] 94 (0,0))):=⟨by (with_reducible repeat (first|refine blk_drewN ?_ _|refine blk_drew ?_|refine blk_alloc ?_ _));refine blk_put (cs:=#[.int .i64 ((rd_T94 l0 x10_1).f0),.int .i64 ((rd_T94 l0 x10_1).f1.f0),.slice A220_2 ((rd_T94 l0 x10_1).f1.f1).length c220_2,.int .i64 ((rd_T94 l0 x10_1).f1.f2.f0),.int .i64 ((rd_T94 l0 x10_1).f1.f2.f1),.int .i64 ((rd_T94 l0 x10_1).f1.f2.f2),.int .i64 0]) ?_ 6 _ rfl;(with_reducible repeat (first|refine blk_drewN ?_ _|refine blk_drew ?_|refine blk_alloc ?_ _));refine blk_put (cs:=#[.int .i64 ((rd_T94 l0 x10_1).f0),.int .i64 ((rd_T94 l0 x10_1).f1.f0),.slice A220_2 ((rd_T94 l0 x10_1).f1.f1).length c220_2,.int .i64 ((rd_T94 l0 x10_1).f1.f2.f0),.int .i64 ((rd_T94 l0 x10_1).f1.f2.f1),.int .i64 0,.int .i64 0]) ?_ 5 _ rfl;(with_reducible repeat (first|refine blk_drewN ?_ _|refine blk_drew ?_|refine blk_alloc ?_ _));refine blk_put (cs:=#[.int .i64 ((rd_T94 l0 x10_1).f0),.int .i64 ((rd_T94 l0 x10_1).f1.f0),.slice A220_2 ((rd_T94 l0 x10_1).f1.f1).length c220_2,.int .i64 ((rd_T94 l0 x10_1).f1.f2.f0),.int .i64 0,.int .i64 0,.int .i64 0]) ?_ 4 _ rfl;(with_reducible repeat (first|refine blk_drewN ?_ _|refine blk_drew ?_|refine blk_alloc ?_ _));refine blk_put (cs:=#[.int .i64 ((rd_T94 l0 x10_1).f0),.int .i64 ((rd_T94 l0 x10_1).f1.f0),.slice A220_2 ((rd_T94 l0 x10_1).f1.f1).length c220_2,.int .i64 0,.int .i64 0,.int .i64 0,.int .i64 0]) ?_ 3 _ rfl;(with_reducible repeat (first|refine blk_drewN ?_ _|refine blk_drew ?_|refine blk_alloc ?_ _));refine blk_put (cs:=#[.int .i64 ((rd_T94 l0 x10_1).f0),.int .i64 ((rd_T94 l0 x10_1).f1.f0),.slice none 0 0,.int .i64 0,.int .i64 0,.int .i64 0,.int .i64 0]) ?_ 2 _ rfl;(with_reducible repeat (first|refine blk_drewN ?_ _|refine blk_drew ?_|refine blk_alloc ?_ _));refine blk_put (cs:=#[.int .i64 ((rd_T94 l0 x10_1).f0),.int .i64 0,.slice none 0 0,.int .i64 0,.int .i64 0,.int .i64 0,.int .i64 0]) ?_ 1 _ rfl;(with_reducible repeat (first|refine blk_drewN ?_ _|refine blk_drew ?_|refine blk_alloc ?_ _));refine blk_put (cs:=#[.int .i64 0,.int .i64 0,.slice none 0 0,.int .i64 0,.int .i64 0,.int .i64 0,.int .i64 0]) ?_ 0 _ rfl;(with_reducible repeat (first|refine blk_drewN ?_ _|refine blk_drew ?_|refine blk_alloc ?_ _));exact BK221.out⟩
           have n1_ : Aside0 (Below w.heap.size w (((((((w11.setCell ⟨gb221,0,none⟩ (.int .i64 ((rd_T94 l0 x10_1).f0))).setCell ⟨gb221,1,none⟩ (.int .i64 ((rd_T94 l0 x10_1).f1.f0))).setCell ⟨gb221,2,none⟩ (.slice A220_2 ((rd_T94 l0 x10_1).f1.f1).length c220_2)).setCell ⟨gb221,3,none⟩ (.int .i64 ((rd_T94 l0 x10_1).f1.f2.f0))).setCell ⟨gb221,4,none⟩ (.int .i64 ((rd_T94 l0 x10_1).f1.f2.f1))).setCell ⟨gb221,5,none⟩ (.int .i64 ((rd_T94 l0 x10_1).f1.f2.f2))).setCell ⟨gb221,6,none⟩ (.int .i64 ((rd_T94 l0 x10_1).f2)))):=⟨by repeat (first|(with_reducible first|exact HB.out|apply below_alloc|apply pw_below_drewN|apply below_drew1|refine below_set ?_ GE221.out)|exact HB.out)⟩
           (try clear BK221);(try clear HB);generalize (((((((w11.setCell ⟨gb221,0,none⟩ (.int .i64 ((rd_T94 l0 x10_1).f0))).setCell ⟨gb221,1,none⟩ (.int .i64 ((rd_T94 l0 x10_1).f1.f0))).setCell ⟨gb221,2,none⟩ (.slice A220_2 ((rd_T94 l0 x10_1).f1.f1).length c220_2)).setCell ⟨gb221,3,none⟩ (.int .i64 ((rd_T94 l0 x10_1).f1.f2.f0))).setCell ⟨gb221,4,none⟩ (.int .i64 ((rd_T94 l0 x10_1).f1.f2.f1))).setCell ⟨gb221,5,none⟩ (.int .i64 ((rd_T94 l0 x10_1).f1.f2.f2))).setCell ⟨gb221,6,none⟩ (.int .i64 ((rd_T94 l0 x10_1).f2))) = w13 at n0_ n1_ ⊢
           have BK221:=n0_;have HB:=n1_;clear n0_ n1_;have n0_:=Aside0.mk (blk_drew BK221.out)
           have n1_:=Aside0.mk (below_drew1 HB.out)
           clear BK221;clear HB;have BK221:=n0_;have HB:=n1_;clear n0_ n1_;have p222 : 0 ≤ ((ji7) : Int):=of_decide_eq_true (by first|(with_reducible assumption)|assumption)
           have q222 : (ji7) < (l0.length : Int):=of_decide_eq_true (by first|(with_reducible assumption)|assumption)
           obtain ⟨ad222,A222_2,c222_2,e222,hx222_0,hx222_1,hx222_2,hx222_3,hx222_4,hx222_5,hx222_6,hl222_2,hi222_2⟩:=at_T94 HR0.out (ji7) p222 q222
           have hw222_6:=hx222_6;have hw222_5:=hx222_5;have hw222_4:=hx222_4;have hw222_3:=hx222_3;have hw222_2:=hx222_2;have hw222_1:=hx222_1;have hw222_0:=hx222_0;obtain rfl : ad220 = ad222:=(by injection e222)
           replace hx222_0:=(HB.out.cell (World.block_lt_of_cell? w _ hx222_0)).trans hx222_0
           replace hx222_1:=(HB.out.cell (World.block_lt_of_cell? w _ hx222_1)).trans hx222_1
           replace hx222_2:=(HB.out.cell (World.block_lt_of_cell? w _ hx222_2)).trans hx222_2
           replace hx222_3:=(HB.out.cell (World.block_lt_of_cell? w _ hx222_3)).trans hx222_3
           replace hx222_4:=(HB.out.cell (World.block_lt_of_cell? w _ hx222_4)).trans hx222_4
           replace hx222_5:=(HB.out.cell (World.block_lt_of_cell? w _ hx222_5)).trans hx222_5
           replace hx222_6:=(HB.out.cell (World.block_lt_of_cell? w _ hx222_6)).trans hx222_6
           have HR222_2:=Aside0.mk hi222_2;have HC222_2:=Aside0.mk hl222_2;clear hi222_2 hl222_2;replace p222:=eq_true p222
           replace q222:=eq_true q222
           refine start_ (n:=33) (S:=fun w' => w'.cell? ⟨gb221,0,none⟩ = some (.int .i64 ((rd_T94 l0 x10_1).f0)) ∧ w'.cell? ⟨gb221,1,none⟩ = some (.int .i64 ((rd_T94 l0 x10_1).f1.f0)) ∧ w'.cell? ⟨gb221,2,none⟩ = some (.slice A220_2 ((rd_T94 l0 x10_1).f1.f1).length c220_2) ∧ w'.cell? ⟨gb221,3,none⟩ = some (.int .i64 ((rd_T94 l0 x10_1).f1.f2.f0)) ∧ w'.cell? ⟨gb221,4,none⟩ = some (.int .i64 ((rd_T94 l0 x10_1).f1.f2.f1)) ∧ w'.cell? ⟨gb221,5,none⟩ = some (.int .i64 ((rd_T94 l0 x10_1).f1.f2.f2)) ∧ w'.cell? ⟨gb221,6,none⟩ = some (.int .i64 ((rd_T94 l0 x10_1).f2)) ∧ w'.cell? (ad220.add (((ji7)).toNat * 7)) = some (.int .i64 ((rd_T94 l0 (ji7)).f0)) ∧ w'.cell? ⟨(ad220.add (((ji7)).toNat * 7)).block,(ad220.add (((ji7)).toNat * 7)).off + 1,none⟩ = some (.int .i64 ((rd_T94 l0 (ji7)).f1.f0)) ∧ w'.cell? ⟨(ad220.add (((ji7)).toNat * 7)).block,(ad220.add (((ji7)).toNat * 7)).off + 2,none⟩ = some (.slice A222_2 ((rd_T94 l0 (ji7)).f1.f1).length c222_2) ∧ w'.cell? ⟨(ad220.add (((ji7)).toNat * 7)).block,(ad220.add (((ji7)).toNat * 7)).off + 3,none⟩ = some (.int .i64 ((rd_T94 l0 (ji7)).f1.f2.f0)) ∧ w'.cell? ⟨(ad220.add (((ji7)).toNat * 7)).block,(ad220.add (((ji7)).toNat * 7)).off + 4,none⟩ = some (.int .i64 ((rd_T94 l0 (ji7)).f1.f2.f1)) ∧ w'.cell? ⟨(ad220.add (((ji7)).toNat * 7)).block,(ad220.add (((ji7)).toNat * 7)).off + 5,none⟩ = some (.int .i64 ((rd_T94 l0 (ji7)).f1.f2.f2)) ∧ w'.cell? ⟨(ad220.add (((ji7)).toNat * 7)).block,(ad220.add (((ji7)).toNat * 7)).off + 6,none⟩ = some (.int .i64 ((rd_T94 l0 (ji7)).f2))) (ds:=[]) q0_ (by kernel_rfl) rfl rfl ⟨(blk_cell BK221.out 0).trans rfl,(blk_cell BK221.out 1).trans rfl,(blk_cell BK221.out 2).trans rfl,(blk_cell BK221.out 3).trans rfl,(blk_cell BK221.out 4).trans rfl,(blk_cell BK221.out 5).trans rfl,(blk_cell BK221.out 6).trans rfl,((HB.out.cell (World.block_lt_of_cell? w _ hw222_0)).trans hw222_0),((HB.out.cell (World.block_lt_of_cell? w _ hw222_1)).trans hw222_1),((HB.out.cell (World.block_lt_of_cell? w _ hw222_2)).trans hw222_2),((HB.out.cell (World.block_lt_of_cell? w _ hw222_3)).trans hw222_3),((HB.out.cell (World.block_lt_of_cell? w _ hw222_4)).trans hw222_4),((HB.out.cell (World.block_lt_of_cell? w _ hw222_5)).trans hw222_5),((HB.out.cell (World.block_lt_of_cell? w _ hw222_6)).trans hw222_6)⟩ (fun hHeld => ?_);refine with_tabW impl_IsStore.tab6 impl_IsStore.bits6 (fun HT_ HW_ => ?_)
           generalize w13.drew = w14 at BK221 HB HR222_2 hx222_0 hx222_1 hx222_2 hx222_3 hx222_4 hx222_5 hx222_6 hHeld ⊢
           refine pure_ (i:=0) (N:=some 15) (v:=?_) (a':=?_) q1_ rfl rfl (any_of HT_.out (by kernel_rfl)) (fun _ _ _ h => h) (Or.inl ⟨by rfl,?_⟩) ?_ ?_
           rotate_left
           ·intro w';go_simp;with_reducible rfl
           rotate_left
           ·simp only [Act.put,List.setIfInBounds_toArray,List.set_cons_zero,List.set_cons_succ,i64_w,i32_w]
            rfl
           refine pure_ (i:=1) (N:=some 16) (v:=?_) (a':=?_) q2_ rfl rfl (any_of HT_.out (by kernel_rfl)) (fun _ _ _ h => h) (Or.inl ⟨by rfl,?_⟩) ?_ ?_
           rotate_left
           ·intro w';go_simp;with_reducible rfl
           rotate_left
           ·simp only [Act.put,List.setIfInBounds_toArray,List.set_cons_zero,List.set_cons_succ,i64_w,i32_w]
            rfl
           refine pure_ (i:=2) (N:=some 17) (v:=?_) (a':=?_) q3_ rfl rfl (any_of HT_.out (by kernel_rfl)) (fun _ _ _ h => h) (Or.inl ⟨by rfl,?_⟩) ?_ ?_
           rotate_left
           ·intro w';go_simp;with_reducible rfl
           rotate_left
           ·simp only [Act.put,List.setIfInBounds_toArray,List.set_cons_zero,List.set_cons_succ,i64_w,i32_w]
            rfl
           refine pure_ (i:=3) (N:=some 18) (v:=?_) (a':=?_) q4_ rfl rfl (any_of HT_.out (by kernel_rfl)) (fun _ _ _ h => h) (Or.inl ⟨by rfl,?_⟩) ?_ ?_
           rotate_left
           ·intro w';go_simp;with_reducible rfl
           rotate_left
           ·simp only [Act.put,List.setIfInBounds_toArray,List.set_cons_zero,List.set_cons_succ,i64_w,i32_w]
            rfl
           refine pure_ (i:=4) (N:=some 19) (v:=?_) (a':=?_) q5_ rfl rfl (any_of HT_.out (by kernel_rfl)) (fun _ _ _ h => h) (Or.inl ⟨by rfl,?_⟩) ?_ ?_
           rotate_left
           ·intro w';go_simp;with_reducible rfl
           rotate_left
           ·simp only [Act.put,List.setIfInBounds_toArray,List.set_cons_zero,List.set_cons_succ,i64_w,i32_w]
            rfl
           refine pure_ (i:=5) (N:=some 20) (v:=?_) (a':=?_) q6_ rfl rfl (any_of HT_.out (by kernel_rfl)) (fun _ _ _ h => h) (Or.inl ⟨by rfl,?_⟩) ?_ ?_
           rotate_left
           ·intro w';go_simp;with_reducible rfl
           rotate_left
           ·simp only [Act.put,List.setIfInBounds_toArray,List.set_cons_zero,List.set_cons_succ,i64_w,i32_w]
            rfl
           refine pure_ (i:=6) (N:=some 21) (v:=?_) (a':=?_) q7_ rfl rfl (any_of HT_.out (by kernel_rfl)) (fun _ _ _ h => h) (Or.inl ⟨by rfl,?_⟩) ?_ ?_
           rotate_left
           ·intro w';go_simp;with_reducible rfl
           rotate_left
           ·simp only [Act.put,List.setIfInBounds_toArray,List.set_cons_zero,List.set_cons_succ,i64_w,i32_w]
            rfl
           refine pure_ (i:=7) (N:=some 22) (v:=?_) (a':=?_) q8_ rfl rfl (any_of HT_.out (by kernel_rfl)) (fun _ _ _ h => h) (Or.inl ⟨by rfl,?_⟩) ?_ ?_
           rotate_left
           ·intro w';go_simp;with_reducible rfl
           rotate_left
           ·simp only [Act.put,List.setIfInBounds_toArray,List.set_cons_zero,List.set_cons_succ,i64_w,i32_w]
            rfl
           refine pure_ (i:=9) (N:=some 24) (v:=?_) (a':=?_) q9_ rfl rfl (any_of HT_.out (by kernel_rfl)) (fun _ _ _ h => h) (Or.inl ⟨by rfl,?_⟩) ?_ ?_
           rotate_left
           ·intro w';go_simp;with_reducible rfl
           rotate_left
           ·simp only [Act.put,List.setIfInBounds_toArray,List.set_cons_zero,List.set_cons_succ,i64_w,i32_w]
            rfl
           refine take_ (i:=8) (N:=some 23) (v:=?_) (a':=?_) q10_ rfl rfl (take_ofW HT_.out HW_.out (by kernel_rfl)) (fun _ _ _ h => h) (Or.inl ⟨by rfl,?_⟩) hHeld ?_ ?_
           rotate_left
           ·rintro w' ⟨s0,s1,s2,s3,s4,s5,s6,s7,s8,s9,s10,s11,s12,s13⟩
            go_simp;with_reducible rfl
           rotate_left
           ·simp only [Act.put,List.setIfInBounds_toArray,List.set_cons_zero,List.set_cons_succ,i64_w,i32_w]
            rfl
           refine take_ (i:=10) (N:=some 25) (v:=?_) (a':=?_) q11_ rfl rfl (take_ofW HT_.out HW_.out (by kernel_rfl)) (fun _ _ _ h => h) (Or.inl ⟨by rfl,?_⟩) hHeld ?_ ?_
           rotate_left
           ·rintro w' ⟨s0,s1,s2,s3,s4,s5,s6,s7,s8,s9,s10,s11,s12,s13⟩
            go_simp;with_reducible rfl
           rotate_left
           ·simp only [Act.put,List.setIfInBounds_toArray,List.set_cons_zero,List.set_cons_succ,i64_w,i32_w]
            rfl
           refine pure_ (i:=11) (N:=some 26) (v:=?_) (a':=?_) q12_ rfl rfl (any_of HT_.out (by kernel_rfl)) (fun _ _ _ h => h) (Or.inl ⟨by rfl,?_⟩) ?_ ?_
           rotate_left
           ·intro w';go_simp;with_reducible rfl
           rotate_left
           ·simp only [Act.put,List.setIfInBounds_toArray,List.set_cons_zero,List.set_cons_succ,i64_w,i32_w]
            rfl
           refine pure_ (i:=12) (N:=some 27) (v:=?_) (a':=?_) q13_ rfl rfl (any_of HT_.out (by kernel_rfl)) (fun _ _ _ h => h) (Or.inl ⟨by rfl,?_⟩) ?_ ?_
           rotate_left
           ·intro w';go_simp;with_reducible rfl
           rotate_left
           ·simp only [Act.put,List.setIfInBounds_toArray,List.set_cons_zero,List.set_cons_succ,i64_w,i32_w]
            rfl
           refine pure_ (i:=13) (N:=some 28) (v:=?_) (a':=?_) q14_ rfl rfl (any_of HT_.out (by kernel_rfl)) (fun _ _ _ h => h) (Or.inl ⟨by rfl,?_⟩) ?_ ?_
           rotate_left
           ·intro w';go_simp;with_reducible rfl
           rotate_left
           ·simp only [Act.put,List.setIfInBounds_toArray,List.set_cons_zero,List.set_cons_succ,i64_w,i32_w]
            rfl
           refine pure_ (i:=14) (N:=some 29) (v:=undef) (a':=?_) q15_ rfl rfl (any_of HT_.out (by kernel_rfl)) (fun _ _ _ h => h) (Or.inr ⟨by rfl,rfl⟩) ?_ ?_
           rotate_left
           ·simp only [Act.put,List.setIfInBounds_toArray,List.set_cons_zero,List.set_cons_succ,i64_w,i32_w]
            rfl
           refine pure_ (i:=15) (N:=some 30) (v:=undef) (a':=?_) q16_ rfl rfl (any_of HT_.out (by kernel_rfl)) (fun _ _ _ h => h) (Or.inr ⟨by rfl,rfl⟩) ?_ ?_
           rotate_left
           ·simp only [Act.put,List.setIfInBounds_toArray,List.set_cons_zero,List.set_cons_succ,i64_w,i32_w]
            rfl
           refine pure_ (i:=16) (N:=some 31) (v:=undef) (a':=?_) q17_ rfl rfl (any_of HT_.out (by kernel_rfl)) (fun _ _ _ h => h) (Or.inr ⟨by rfl,rfl⟩) ?_ ?_
           rotate_left
           ·simp only [Act.put,List.setIfInBounds_toArray,List.set_cons_zero,List.set_cons_succ,i64_w,i32_w]
            rfl
           refine pure_ (i:=17) (N:=some 32) (v:=undef) (a':=?_) q18_ rfl rfl (any_of HT_.out (by kernel_rfl)) (fun _ _ _ h => h) (Or.inr ⟨by rfl,rfl⟩) ?_ ?_
           rotate_left
           ·simp only [Act.put,List.setIfInBounds_toArray,List.set_cons_zero,List.set_cons_succ,i64_w,i32_w]
            rfl
           refine pure_ (i:=18) (N:=some 33) (v:=?_) (a':=?_) q19_ rfl rfl (any_of HT_.out (by kernel_rfl)) (fun _ _ _ h => h) (Or.inl ⟨by rfl,?_⟩) ?_ ?_
           rotate_left
           ·intro w';go_simp;with_reducible rfl
           rotate_left
           ·simp only [Act.put,List.setIfInBounds_toArray,List.set_cons_zero,List.set_cons_succ,i64_w,i32_w]
            rfl
           refine pure_ (i:=19) (N:=some 34) (v:=?_) (a':=?_) q20_ rfl rfl (any_of HT_.out (by kernel_rfl)) (fun _ _ _ h => h) (Or.inl ⟨by rfl,?_⟩) ?_ ?_
           rotate_left
           ·intro w';go_simp;with_reducible rfl
           rotate_left
           ·simp only [Act.put,List.setIfInBounds_toArray,List.set_cons_zero,List.set_cons_succ,i64_w,i32_w]
            rfl
           refine pure_ (i:=20) (N:=some 35) (v:=undef) (a':=?_) q21_ rfl rfl (any_of HT_.out (by kernel_rfl)) (fun _ _ _ h => h) (Or.inr ⟨by rfl,rfl⟩) ?_ ?_
           rotate_left
           ·simp only [Act.put,List.setIfInBounds_toArray,List.set_cons_zero,List.set_cons_succ,i64_w,i32_w]
            rfl
           refine pure_ (i:=21) (N:=some 36) (v:=undef) (a':=?_) q22_ rfl rfl (any_of HT_.out (by kernel_rfl)) (fun _ _ _ h => h) (Or.inr ⟨by rfl,rfl⟩) ?_ ?_
           rotate_left
           ·simp only [Act.put,List.setIfInBounds_toArray,List.set_cons_zero,List.set_cons_succ,i64_w,i32_w]
            rfl
           refine pure_ (i:=22) (N:=some 37) (v:=undef) (a':=?_) q23_ rfl rfl (any_of HT_.out (by kernel_rfl)) (fun _ _ _ h => h) (Or.inr ⟨by rfl,rfl⟩) ?_ ?_
           rotate_left
           ·simp only [Act.put,List.setIfInBounds_toArray,List.set_cons_zero,List.set_cons_succ,i64_w,i32_w]
            rfl
           refine pure_ (i:=23) (N:=some 38) (v:=undef) (a':=?_) q24_ rfl rfl (any_of HT_.out (by kernel_rfl)) (fun _ _ _ h => h) (Or.inr ⟨by rfl,rfl⟩) ?_ ?_
           rotate_left
           ·simp only [Act.put,List.setIfInBounds_toArray,List.set_cons_zero,List.set_cons_succ,i64_w,i32_w]
            rfl
           refine pure_ (i:=24) (N:=some 39) (v:=undef) (a':=?_) q25_ rfl rfl (any_of HT_.out (by kernel_rfl)) (fun _ _ _ h => h) (Or.inr ⟨by rfl,rfl⟩) ?_ ?_
           rotate_left
           ·simp only [Act.put,List.setIfInBounds_toArray,List.set_cons_zero,List.set_cons_succ,i64_w,i32_w]
            rfl
           refine pure_ (i:=25) (N:=some 40) (v:=undef) (a':=?_) q26_ rfl rfl (any_of HT_.out (by kernel_rfl)) (fun _ _ _ h => h) (Or.inr ⟨by rfl,rfl⟩) ?_ ?_
           rotate_left
           ·simp only [Act.put,List.setIfInBounds_toArray,List.set_cons_zero,List.set_cons_succ,i64_w,i32_w]
            rfl
           refine pure_ (i:=26) (N:=some 41) (v:=?_) (a':=?_) q27_ rfl rfl (any_of HT_.out (by kernel_rfl)) (fun _ _ _ h => h) (Or.inl ⟨by rfl,?_⟩) ?_ ?_
           rotate_left
           ·intro w';go_simp;with_reducible rfl
           rotate_left
           ·simp only [Act.put,List.setIfInBounds_toArray,List.set_cons_zero,List.set_cons_succ,i64_w,i32_w]
            rfl
           refine pure_ (i:=27) (N:=some 42) (v:=?_) (a':=?_) q28_ rfl rfl (any_of HT_.out (by kernel_rfl)) (fun _ _ _ h => h) (Or.inl ⟨by rfl,?_⟩) ?_ ?_
           rotate_left
           ·intro w';go_simp;with_reducible rfl
           rotate_left
           ·simp only [Act.put,List.setIfInBounds_toArray,List.set_cons_zero,List.set_cons_succ,i64_w,i32_w]
            rfl
           refine pure_ (i:=28) (N:=some 43) (v:=undef) (a':=?_) q29_ rfl rfl (any_of HT_.out (by kernel_rfl)) (fun _ _ _ h => h) (Or.inr ⟨by rfl,rfl⟩) ?_ ?_
           rotate_left
           ·simp only [Act.put,List.setIfInBounds_toArray,List.set_cons_zero,List.set_cons_succ,i64_w,i32_w]
            rfl
           refine pure_ (i:=29) (N:=some 44) (v:=undef) (a':=?_) q30_ rfl rfl (any_of HT_.out (by kernel_rfl)) (fun _ _ _ h => h) (Or.inr ⟨by rfl,rfl⟩) ?_ ?_
           rotate_left
           ·simp only [Act.put,List.setIfInBounds_toArray,List.set_cons_zero,List.set_cons_succ,i64_w,i32_w]
            rfl
           refine pure_ (i:=30) (N:=some 45) (v:=undef) (a':=?_) q31_ rfl rfl (any_of HT_.out (by kernel_rfl)) (fun _ _ _ h => h) (Or.inr ⟨by rfl,rfl⟩) ?_ ?_
           rotate_left
           ·simp only [Act.put,List.setIfInBounds_toArray,List.set_cons_zero,List.set_cons_succ,i64_w,i32_w]
            rfl
           refine pure_ (i:=31) (N:=some 46) (v:=undef) (a':=?_) q32_ rfl rfl (any_of HT_.out (by kernel_rfl)) (fun _ _ _ h => h) (Or.inr ⟨by rfl,rfl⟩) ?_ ?_
           rotate_left
           ·simp only [Act.put,List.setIfInBounds_toArray,List.set_cons_zero,List.set_cons_succ,i64_w,i32_w]
            rfl
           refine pure_ (i:=32) (N:=some 47) (v:=?_) (a':=?_) q33_ rfl rfl (any_of HT_.out (by kernel_rfl)) (fun _ _ _ h => h) (Or.inl ⟨by rfl,?_⟩) ?_ ?_
           rotate_left
           ·intro w';go_simp;with_reducible rfl
           rotate_left
           ·simp only [Act.put,List.setIfInBounds_toArray,List.set_cons_zero,List.set_cons_succ,i64_w,i32_w]
            rfl
           refine done_ (done_of HT_.out (by kernel_rfl)) ?_
           try go_wp2
           go_ret
           exact ⟨by first|rfl|(simp [errW_none,errW_some] <;> rfl)|(simp only [← hji7];first|rfl|(simp [errW_none,errW_some] <;> rfl))|(simp [*,errW_none,errW_some] <;> rfl),by repeat (first|(with_reducible first|exact HB.out|apply below_alloc|apply pw_below_drewN|apply below_drew1|refine below_set ?_ GE221.out)|exact HB.out)⟩
          ·rw [if_neg c10] at H
           have c10b0 : decide (((rd_T94 l0 x10_1).f0) ≤ ((rd_T94 l0 (ji7)).f0)) = false:=decide_eq_false c10
           clear c10;replace H:=Option.bind_eq_some_iff.mp H
           obtain ⟨t223,A150,H⟩:=H;replace H : (if t223 = true then ((impl_DigestOf.f k1 ((rd_T94 l0 x10_1).f1.f0) ((rd_T94 l0 x10_1).f1.f1) ((rd_T94 l0 x10_1).f1.f2.f0) ((rd_T94 l0 x10_1).f1.f2.f1) ((rd_T94 l0 x10_1).f1.f2.f2)).bind fun t224 => (if t224 = ((rd_T94 l0 x10_1).f0) then ((impl_InRange.f ((rd_T94 l0 x10_1).f2) 1 1000).bind fun t225 => (if t225 = true then (impl_IsStore.l0 k1 l0 l0 (l0.length : Int) (wrap64 (x10_1 + 1))) else (some false))) else (some false))) else (some false)) = some r:=H
           have A15:=Aside0.mk A150;clear A150;by_cases c16 : t223 = true
           ·subst c16
            have H1 : ((impl_DigestOf.f k1 ((rd_T94 l0 x10_1).f1.f0) ((rd_T94 l0 x10_1).f1.f1) ((rd_T94 l0 x10_1).f1.f2.f0) ((rd_T94 l0 x10_1).f1.f2.f1) ((rd_T94 l0 x10_1).f1.f2.f2)).bind fun t224 => (if t224 = ((rd_T94 l0 x10_1).f0) then ((impl_InRange.f ((rd_T94 l0 x10_1).f2) 1 1000).bind fun t225 => (if t225 = true then (impl_IsStore.l0 k1 l0 l0 (l0.length : Int) (wrap64 (x10_1 + 1))) else (some false))) else (some false))) = some r:=by rw [if_pos rfl] at H;exact H
            clear H;have H:=H1;clear H1;replace H:=Option.bind_eq_some_iff.mp H
            obtain ⟨t224,A170,H⟩:=H;replace H : (if t224 = ((rd_T94 l0 x10_1).f0) then ((impl_InRange.f ((rd_T94 l0 x10_1).f2) 1 1000).bind fun t225 => (if t225 = true then (impl_IsStore.l0 k1 l0 l0 (l0.length : Int) (wrap64 (x10_1 + 1))) else (some false))) else (some false)) = some r:=H
            have A17:=Aside0.mk A170;clear A170;by_cases c18 : t224 = ((rd_T94 l0 x10_1).f0)
            ·rw [if_pos c18] at H
             have c18b0 : (t224 == ((rd_T94 l0 x10_1).f0)) = true:=beq_iff_eq.mpr c18
             have c18b1 : (t224 != ((rd_T94 l0 x10_1).f0)) = false:=bne_eq_false_iff_eq.mpr c18
             clear c18;replace H:=Option.bind_eq_some_iff.mp H
             obtain ⟨t225,A190,H⟩:=H;replace H : (if t225 = true then (impl_IsStore.l0 k1 l0 l0 (l0.length : Int) (wrap64 (x10_1 + 1))) else (some false)) = some r:=H
             have A19:=Aside0.mk A190;clear A190;by_cases c20 : t225 = true
             ·subst c20
              have H1 : (impl_IsStore.l0 k1 l0 l0 (l0.length : Int) (wrap64 (x10_1 + 1))) = some r:=by rw [if_pos rfl] at H;exact H
              clear H;have H:=H1;clear H1;have H':=Aside0.mk H;clear H;have p220 : 0 ≤ (x10_1 : Int):=of_decide_eq_true (by first|(with_reducible assumption)|assumption)
              have q220 : x10_1 < (l0.length : Int):=of_decide_eq_true (by first|(with_reducible assumption)|assumption)
              obtain ⟨ad220,A220_2,c220_2,e220,hx220_0,hx220_1,hx220_2,hx220_3,hx220_4,hx220_5,hx220_6,hl220_2,hi220_2⟩:=at_T94 HR0.out x10_1 p220 q220
              cases e220
              replace hx220_0:=(HB.out.cell (World.block_lt_of_cell? w _ hx220_0)).trans hx220_0
              replace hx220_1:=(HB.out.cell (World.block_lt_of_cell? w _ hx220_1)).trans hx220_1
              replace hx220_2:=(HB.out.cell (World.block_lt_of_cell? w _ hx220_2)).trans hx220_2
              replace hx220_3:=(HB.out.cell (World.block_lt_of_cell? w _ hx220_3)).trans hx220_3
              replace hx220_4:=(HB.out.cell (World.block_lt_of_cell? w _ hx220_4)).trans hx220_4
              replace hx220_5:=(HB.out.cell (World.block_lt_of_cell? w _ hx220_5)).trans hx220_5
              replace hx220_6:=(HB.out.cell (World.block_lt_of_cell? w _ hx220_6)).trans hx220_6
              have HR220_2:=Aside0.mk hi220_2;have HC220_2:=Aside0.mk hl220_2;clear hi220_2 hl220_2;replace p220:=eq_true p220
              replace q220:=eq_true q220
              try go_wp2_with (first|((with_reducible refine gate_dst (N:=4) rfl ?_);refine box_event ?hg (N:=4) ?hd (cs:=#[.int .i64 0,.int .i64 0,.slice none 0 0,.int .i64 0,.int .i64 0,.int .i64 0,.int .i64 0]) (t:=94) ?hr ?_;(case hd => rfl);(case hg => rfl);(case hr => first|(go_simp;done)|(go_simp;rfl));intro gb221 hg w21 hbox hb;have n0_:=Aside0.mk (below_step (by repeat (first|(with_reducible first|exact HB.out|apply below_alloc|apply pw_below_drewN|apply below_drew1)|exact HB.out)) hb);have n1_:=Aside0.mk (hbox);have n2_:=Aside0.mk ((by rw [hg];exact (below_size (by repeat (first|(with_reducible first|exact HB.out|apply below_alloc|apply pw_below_drewN|apply below_drew1)|exact HB.out))) : w.heap.size ≤ gb221));have n3_:=Aside0.mk ((by rw [hg];exact (below_size (by repeat (first|(with_reducible first|exact HB.out|apply below_alloc|apply pw_below_drewN|apply below_drew1)|exact HB.out))) : w.heap.size ≤ gb221));clear HB;have HB:=n0_;have BK221:=n1_;have GW221:=n2_;have GE221:=n3_;clear n0_ n1_ n2_ n3_;clear hb hbox hg;have hcz22_0 : w21.cell? ⟨gb221,0,none⟩ = some (.int .i64 0):=(blk_cell BK221.out 0).trans rfl;have hcz22_1 : w21.cell? ⟨gb221,1,none⟩ = some (.int .i64 0):=(blk_cell BK221.out 1).trans rfl;have hcz22_2 : w21.cell? ⟨gb221,2,none⟩ = some (.slice none 0 0):=(blk_cell BK221.out 2).trans rfl;have hcz22_3 : w21.cell? ⟨gb221,3,none⟩ = some (.int .i64 0):=(blk_cell BK221.out 3).trans rfl;have hcz22_4 : w21.cell? ⟨gb221,4,none⟩ = some (.int .i64 0):=(blk_cell BK221.out 4).trans rfl;have hcz22_5 : w21.cell? ⟨gb221,5,none⟩ = some (.int .i64 0):=(blk_cell BK221.out 5).trans rfl;have hcz22_6 : w21.cell? ⟨gb221,6,none⟩ = some (.int .i64 0):=(blk_cell BK221.out 6).trans rfl;have hfz22_0:=blk_frozen BK221.out 0;have hfz22_1:=blk_frozen BK221.out 1;have hfz22_2:=blk_frozen BK221.out 2;have hfz22_3:=blk_frozen BK221.out 3;have hfz22_4:=blk_frozen BK221.out 4;have hfz22_5:=blk_frozen BK221.out 5;have hfz22_6:=blk_frozen BK221.out 6))
              have n0_ : Aside0 ((((((((w21.setCell ⟨gb221,0,none⟩ (.int .i64 ((rd_T94 l0 x10_1).f0))).setCell ⟨gb221,1,none⟩ (.int .i64 ((rd_T94 l0 x10_1).f1.f0))).setCell ⟨gb221,2,none⟩ (.slice A220_2 ((rd_T94 l0 x10_1).f1.f1).length c220_2)).setCell ⟨gb221,3,none⟩ (.int .i64 ((rd_T94 l0 x10_1).f1.f2.f0))).setCell ⟨gb221,4,none⟩ (.int .i64 ((rd_T94 l0 x10_1).f1.f2.f1))).setCell ⟨gb221,5,none⟩ (.int .i64 ((rd_T94 l0 x10_1).f1.f2.f2))).setCell ⟨gb221,6,none⟩ (.int .i64 ((rd_T94 l0 x10_1).f2))).heap[gb221]? = some (.cells #[.int .i64 ((rd_T94 l0 x10_1).f0),.int .i64 ((rd_T94 l0 x10_1).f1.f0),.slice A220_2 ((rd_T94 l0 x10_1).f1.f1).length c220_2,.int .i64 ((rd_T94 l0 x10_1).f1.f2.f0),.int .i64 ((rd_T94 l0 x10_1).f1.f2.f1),.int .i64 ((rd_T94 l0 x10_1).f1.f2.f2),.int .i64 ((rd_T94 l0 x10_1).f2)] 94 (0,0))):=⟨by (with_reducible repeat (first|refine blk_drewN ?_ _|refine blk_drew ?_|refine blk_alloc ?_ _));refine blk_put (cs:=#[.int .i64 ((rd_T94 l0 x10_1).f0),.int .i64 ((rd_T94 l0 x10_1).f1.f0),.slice A220_2 ((rd_T94 l0 x10_1).f1.f1).length c220_2,.int .i64 ((rd_T94 l0 x10_1).f1.f2.f0),.int .i64 ((rd_T94 l0 x10_1).f1.f2.f1),.int .i64 ((rd_T94 l0 x10_1).f1.f2.f2),.int .i64 0]) ?_ 6 _ rfl;(with_reducible repeat (first|refine blk_drewN ?_ _|refine blk_drew ?_|refine blk_alloc ?_ _));refine blk_put (cs:=#[.int .i64 ((rd_T94 l0 x10_1).f0),.int .i64 ((rd_T94 l0 x10_1).f1.f0),.slice A220_2 ((rd_T94 l0 x10_1).f1.f1).length c220_2,.int .i64 ((rd_T94 l0 x10_1).f1.f2.f0),.int .i64 ((rd_T94 l0 x10_1).f1.f2.f1),.int .i64 0,.int .i64 0]) ?_ 5 _ rfl;(with_reducible repeat (first|refine blk_drewN ?_ _|refine blk_drew ?_|refine blk_alloc ?_ _));refine blk_put (cs:=#[.int .i64 ((rd_T94 l0 x10_1).f0),.int .i64 ((rd_T94 l0 x10_1).f1.f0),.slice A220_2 ((rd_T94 l0 x10_1).f1.f1).length c220_2,.int .i64 ((rd_T94 l0 x10_1).f1.f2.f0),.int .i64 0,.int .i64 0,.int .i64 0]) ?_ 4 _ rfl;(with_reducible repeat (first|refine blk_drewN ?_ _|refine blk_drew ?_|refine blk_alloc ?_ _));refine blk_put (cs:=#[.int .i64 ((rd_T94 l0 x10_1).f0),.int .i64 ((rd_T94 l0 x10_1).f1.f0),.slice A220_2 ((rd_T94 l0 x10_1).f1.f1).length c220_2,.int .i64 0,.int .i64 0,.int .i64 0,.int .i64 0]) ?_ 3 _ rfl;(with_reducible repeat (first|refine blk_drewN ?_ _|refine blk_drew ?_|refine blk_alloc ?_ _));refine blk_put (cs:=#[.int .i64 ((rd_T94 l0 x10_1).f0),.int .i64 ((rd_T94 l0 x10_1).f1.f0),.slice none 0 0,.int .i64 0,.int .i64 0,.int .i64 0,.int .i64 0]) ?_ 2 _ rfl;(with_reducible repeat (first|refine blk_drewN ?_ _|refine blk_drew ?_|refine blk_alloc ?_ _));refine blk_put (cs:=#[.int .i64 ((rd_T94 l0 x10_1).f0),.int .i64 0,.slice none 0 0,.int .i64 0,.int .i64 0,.int .i64 0,.int .i64 0]) ?_ 1 _ rfl;(with_reducible repeat (first|refine blk_drewN ?_ _|refine blk_drew ?_|refine blk_alloc ?_ _));refine blk_put (cs:=#[.int .i64 0,.int .i64 0,.slice none 0 0,.int .i64 0,.int .i64 0,.int .i64 0,.int .i64 0]) ?_ 0 _ rfl;(with_reducible repeat (first|refine blk_drewN ?_ _|refine blk_drew ?_|refine blk_alloc ?_ _));exact BK221.out⟩
              have n1_ : Aside0 (Below w.heap.size w (((((((w21.setCell ⟨gb221,0,none⟩ (.int .i64 ((rd_T94 l0 x10_1).f0))).setCell ⟨gb221,1,none⟩ (.int .i64 ((rd_T94 l0 x10_1).f1.f0))).setCell ⟨gb221,2,none⟩ (.slice A220_2 ((rd_T94 l0 x10_1).f1.f1).length c220_2)).setCell ⟨gb221,3,none⟩ (.int .i64 ((rd_T94 l0 x10_1).f1.f2.f0))).setCell ⟨gb221,4,none⟩ (.int .i64 ((rd_T94 l0 x10_1).f1.f2.f1))).setCell ⟨gb221,5,none⟩ (.int .i64 ((rd_T94 l0 x10_1).f1.f2.f2))).setCell ⟨gb221,6,none⟩ (.int .i64 ((rd_T94 l0 x10_1).f2)))):=⟨by repeat (first|(with_reducible first|exact HB.out|apply below_alloc|apply pw_below_drewN|apply below_drew1|refine below_set ?_ GE221.out)|exact HB.out)⟩
              (try clear BK221);(try clear HB);generalize (((((((w21.setCell ⟨gb221,0,none⟩ (.int .i64 ((rd_T94 l0 x10_1).f0))).setCell ⟨gb221,1,none⟩ (.int .i64 ((rd_T94 l0 x10_1).f1.f0))).setCell ⟨gb221,2,none⟩ (.slice A220_2 ((rd_T94 l0 x10_1).f1.f1).length c220_2)).setCell ⟨gb221,3,none⟩ (.int .i64 ((rd_T94 l0 x10_1).f1.f2.f0))).setCell ⟨gb221,4,none⟩ (.int .i64 ((rd_T94 l0 x10_1).f1.f2.f1))).setCell ⟨gb221,5,none⟩ (.int .i64 ((rd_T94 l0 x10_1).f1.f2.f2))).setCell ⟨gb221,6,none⟩ (.int .i64 ((rd_T94 l0 x10_1).f2))) = w23 at n0_ n1_ ⊢
              have BK221:=n0_;have HB:=n1_;clear n0_ n1_;have n0_:=Aside0.mk (blk_drew BK221.out)
              have n1_:=Aside0.mk (below_drew1 HB.out)
              clear BK221;clear HB;have BK221:=n0_;have HB:=n1_;clear n0_ n1_;have p222 : 0 ≤ ((ji7) : Int):=of_decide_eq_true (by first|(with_reducible assumption)|assumption)
              have q222 : (ji7) < (l0.length : Int):=of_decide_eq_true (by first|(with_reducible assumption)|assumption)
              obtain ⟨ad222,A222_2,c222_2,e222,hx222_0,hx222_1,hx222_2,hx222_3,hx222_4,hx222_5,hx222_6,hl222_2,hi222_2⟩:=at_T94 HR0.out (ji7) p222 q222
              have hw222_6:=hx222_6;have hw222_5:=hx222_5;have hw222_4:=hx222_4;have hw222_3:=hx222_3;have hw222_2:=hx222_2;have hw222_1:=hx222_1;have hw222_0:=hx222_0;obtain rfl : ad220 = ad222:=(by injection e222)
              replace hx222_0:=(HB.out.cell (World.block_lt_of_cell? w _ hx222_0)).trans hx222_0
              replace hx222_1:=(HB.out.cell (World.block_lt_of_cell? w _ hx222_1)).trans hx222_1
              replace hx222_2:=(HB.out.cell (World.block_lt_of_cell? w _ hx222_2)).trans hx222_2
              replace hx222_3:=(HB.out.cell (World.block_lt_of_cell? w _ hx222_3)).trans hx222_3
              replace hx222_4:=(HB.out.cell (World.block_lt_of_cell? w _ hx222_4)).trans hx222_4
              replace hx222_5:=(HB.out.cell (World.block_lt_of_cell? w _ hx222_5)).trans hx222_5
              replace hx222_6:=(HB.out.cell (World.block_lt_of_cell? w _ hx222_6)).trans hx222_6
              have HR222_2:=Aside0.mk hi222_2;have HC222_2:=Aside0.mk hl222_2;clear hi222_2 hl222_2;replace p222:=eq_true p222
              replace q222:=eq_true q222
              refine start_ (n:=33) (S:=fun w' => w'.cell? ⟨gb221,0,none⟩ = some (.int .i64 ((rd_T94 l0 x10_1).f0)) ∧ w'.cell? ⟨gb221,1,none⟩ = some (.int .i64 ((rd_T94 l0 x10_1).f1.f0)) ∧ w'.cell? ⟨gb221,2,none⟩ = some (.slice A220_2 ((rd_T94 l0 x10_1).f1.f1).length c220_2) ∧ w'.cell? ⟨gb221,3,none⟩ = some (.int .i64 ((rd_T94 l0 x10_1).f1.f2.f0)) ∧ w'.cell? ⟨gb221,4,none⟩ = some (.int .i64 ((rd_T94 l0 x10_1).f1.f2.f1)) ∧ w'.cell? ⟨gb221,5,none⟩ = some (.int .i64 ((rd_T94 l0 x10_1).f1.f2.f2)) ∧ w'.cell? ⟨gb221,6,none⟩ = some (.int .i64 ((rd_T94 l0 x10_1).f2)) ∧ w'.cell? (ad220.add (((ji7)).toNat * 7)) = some (.int .i64 ((rd_T94 l0 (ji7)).f0)) ∧ w'.cell? ⟨(ad220.add (((ji7)).toNat * 7)).block,(ad220.add (((ji7)).toNat * 7)).off + 1,none⟩ = some (.int .i64 ((rd_T94 l0 (ji7)).f1.f0)) ∧ w'.cell? ⟨(ad220.add (((ji7)).toNat * 7)).block,(ad220.add (((ji7)).toNat * 7)).off + 2,none⟩ = some (.slice A222_2 ((rd_T94 l0 (ji7)).f1.f1).length c222_2) ∧ w'.cell? ⟨(ad220.add (((ji7)).toNat * 7)).block,(ad220.add (((ji7)).toNat * 7)).off + 3,none⟩ = some (.int .i64 ((rd_T94 l0 (ji7)).f1.f2.f0)) ∧ w'.cell? ⟨(ad220.add (((ji7)).toNat * 7)).block,(ad220.add (((ji7)).toNat * 7)).off + 4,none⟩ = some (.int .i64 ((rd_T94 l0 (ji7)).f1.f2.f1)) ∧ w'.cell? ⟨(ad220.add (((ji7)).toNat * 7)).block,(ad220.add (((ji7)).toNat * 7)).off + 5,none⟩ = some (.int .i64 ((rd_T94 l0 (ji7)).f1.f2.f2)) ∧ w'.cell? ⟨(ad220.add (((ji7)).toNat * 7)).block,(ad220.add (((ji7)).toNat * 7)).off + 6,none⟩ = some (.int .i64 ((rd_T94 l0 (ji7)).f2))) (ds:=[]) q0_ (by kernel_rfl) rfl rfl ⟨(blk_cell BK221.out 0).trans rfl,(blk_cell BK221.out 1).trans rfl,(blk_cell BK221.out 2).trans rfl,(blk_cell BK221.out 3).trans rfl,(blk_cell BK221.out 4).trans rfl,(blk_cell BK221.out 5).trans rfl,(blk_cell BK221.out 6).trans rfl,((HB.out.cell (World.block_lt_of_cell? w _ hw222_0)).trans hw222_0),((HB.out.cell (World.block_lt_of_cell? w _ hw222_1)).trans hw222_1),((HB.out.cell (World.block_lt_of_cell? w _ hw222_2)).trans hw222_2),((HB.out.cell (World.block_lt_of_cell? w _ hw222_3)).trans hw222_3),((HB.out.cell (World.block_lt_of_cell? w _ hw222_4)).trans hw222_4),((HB.out.cell (World.block_lt_of_cell? w _ hw222_5)).trans hw222_5),((HB.out.cell (World.block_lt_of_cell? w _ hw222_6)).trans hw222_6)⟩ (fun hHeld => ?_);refine with_tabW impl_IsStore.tab6 impl_IsStore.bits6 (fun HT_ HW_ => ?_)
              generalize w23.drew = w24 at BK221 HB HR222_2 hx222_0 hx222_1 hx222_2 hx222_3 hx222_4 hx222_5 hx222_6 hHeld ⊢
              refine pure_ (i:=0) (N:=some 15) (v:=?_) (a':=?_) q1_ rfl rfl (any_of HT_.out (by kernel_rfl)) (fun _ _ _ h => h) (Or.inl ⟨by rfl,?_⟩) ?_ ?_
              rotate_left
              ·intro w';go_simp;with_reducible rfl
              rotate_left
              ·simp only [Act.put,List.setIfInBounds_toArray,List.set_cons_zero,List.set_cons_succ,i64_w,i32_w]
               rfl
              refine pure_ (i:=1) (N:=some 16) (v:=?_) (a':=?_) q2_ rfl rfl (any_of HT_.out (by kernel_rfl)) (fun _ _ _ h => h) (Or.inl ⟨by rfl,?_⟩) ?_ ?_
              rotate_left
              ·intro w';go_simp;with_reducible rfl
              rotate_left
              ·simp only [Act.put,List.setIfInBounds_toArray,List.set_cons_zero,List.set_cons_succ,i64_w,i32_w]
               rfl
              refine pure_ (i:=2) (N:=some 17) (v:=?_) (a':=?_) q3_ rfl rfl (any_of HT_.out (by kernel_rfl)) (fun _ _ _ h => h) (Or.inl ⟨by rfl,?_⟩) ?_ ?_
              rotate_left
              ·intro w';go_simp;with_reducible rfl
              rotate_left
              ·simp only [Act.put,List.setIfInBounds_toArray,List.set_cons_zero,List.set_cons_succ,i64_w,i32_w]
               rfl
              refine pure_ (i:=3) (N:=some 18) (v:=?_) (a':=?_) q4_ rfl rfl (any_of HT_.out (by kernel_rfl)) (fun _ _ _ h => h) (Or.inl ⟨by rfl,?_⟩) ?_ ?_
              rotate_left
              ·intro w';go_simp;with_reducible rfl
              rotate_left
              ·simp only [Act.put,List.setIfInBounds_toArray,List.set_cons_zero,List.set_cons_succ,i64_w,i32_w]
               rfl
              refine pure_ (i:=4) (N:=some 19) (v:=?_) (a':=?_) q5_ rfl rfl (any_of HT_.out (by kernel_rfl)) (fun _ _ _ h => h) (Or.inl ⟨by rfl,?_⟩) ?_ ?_
              rotate_left
              ·intro w';go_simp;with_reducible rfl
              rotate_left
              ·simp only [Act.put,List.setIfInBounds_toArray,List.set_cons_zero,List.set_cons_succ,i64_w,i32_w]
               rfl
              refine pure_ (i:=5) (N:=some 20) (v:=?_) (a':=?_) q6_ rfl rfl (any_of HT_.out (by kernel_rfl)) (fun _ _ _ h => h) (Or.inl ⟨by rfl,?_⟩) ?_ ?_
              rotate_left
              ·intro w';go_simp;with_reducible rfl
              rotate_left
              ·simp only [Act.put,List.setIfInBounds_toArray,List.set_cons_zero,List.set_cons_succ,i64_w,i32_w]
               rfl
              refine pure_ (i:=6) (N:=some 21) (v:=?_) (a':=?_) q7_ rfl rfl (any_of HT_.out (by kernel_rfl)) (fun _ _ _ h => h) (Or.inl ⟨by rfl,?_⟩) ?_ ?_
              rotate_left
              ·intro w';go_simp;with_reducible rfl
              rotate_left
              ·simp only [Act.put,List.setIfInBounds_toArray,List.set_cons_zero,List.set_cons_succ,i64_w,i32_w]
               rfl
              refine pure_ (i:=7) (N:=some 22) (v:=?_) (a':=?_) q8_ rfl rfl (any_of HT_.out (by kernel_rfl)) (fun _ _ _ h => h) (Or.inl ⟨by rfl,?_⟩) ?_ ?_
              rotate_left
              ·intro w';go_simp;with_reducible rfl
              rotate_left
              ·simp only [Act.put,List.setIfInBounds_toArray,List.set_cons_zero,List.set_cons_succ,i64_w,i32_w]
               rfl
              refine pure_ (i:=9) (N:=some 24) (v:=?_) (a':=?_) q9_ rfl rfl (any_of HT_.out (by kernel_rfl)) (fun _ _ _ h => h) (Or.inl ⟨by rfl,?_⟩) ?_ ?_
              rotate_left
              ·intro w';go_simp;with_reducible rfl
              rotate_left
              ·simp only [Act.put,List.setIfInBounds_toArray,List.set_cons_zero,List.set_cons_succ,i64_w,i32_w]
               rfl
              refine take_ (i:=8) (N:=some 23) (v:=?_) (a':=?_) q10_ rfl rfl (take_ofW HT_.out HW_.out (by kernel_rfl)) (fun _ _ _ h => h) (Or.inl ⟨by rfl,?_⟩) hHeld ?_ ?_
              rotate_left
              ·rintro w' ⟨s0,s1,s2,s3,s4,s5,s6,s7,s8,s9,s10,s11,s12,s13⟩
               go_simp;with_reducible rfl
              rotate_left
              ·simp only [Act.put,List.setIfInBounds_toArray,List.set_cons_zero,List.set_cons_succ,i64_w,i32_w]
               rfl
              refine take_ (i:=10) (N:=some 25) (v:=?_) (a':=?_) q11_ rfl rfl (take_ofW HT_.out HW_.out (by kernel_rfl)) (fun _ _ _ h => h) (Or.inl ⟨by rfl,?_⟩) hHeld ?_ ?_
              rotate_left
              ·rintro w' ⟨s0,s1,s2,s3,s4,s5,s6,s7,s8,s9,s10,s11,s12,s13⟩
               go_simp;with_reducible rfl
              rotate_left
              ·simp only [Act.put,List.setIfInBounds_toArray,List.set_cons_zero,List.set_cons_succ,i64_w,i32_w]
               rfl
              refine pure_ (i:=11) (N:=some 26) (v:=?_) (a':=?_) q12_ rfl rfl (any_of HT_.out (by kernel_rfl)) (fun _ _ _ h => h) (Or.inl ⟨by rfl,?_⟩) ?_ ?_
              rotate_left
              ·intro w';go_simp;with_reducible rfl
              rotate_left
              ·simp only [Act.put,List.setIfInBounds_toArray,List.set_cons_zero,List.set_cons_succ,i64_w,i32_w]
               rfl
              refine pure_ (i:=12) (N:=some 27) (v:=?_) (a':=?_) q13_ rfl rfl (any_of HT_.out (by kernel_rfl)) (fun _ _ _ h => h) (Or.inl ⟨by rfl,?_⟩) ?_ ?_
              rotate_left
              ·intro w';go_simp;with_reducible rfl
              rotate_left
              ·simp only [Act.put,List.setIfInBounds_toArray,List.set_cons_zero,List.set_cons_succ,i64_w,i32_w]
               rfl
              refine pure_ (i:=13) (N:=some 28) (v:=?_) (a':=?_) q14_ rfl rfl (any_of HT_.out (by kernel_rfl)) (fun _ _ _ h => h) (Or.inl ⟨by rfl,?_⟩) ?_ ?_
              rotate_left
              ·intro w';go_simp;with_reducible rfl
              rotate_left
              ·simp only [Act.put,List.setIfInBounds_toArray,List.set_cons_zero,List.set_cons_succ,i64_w,i32_w]
               rfl
              refine pure_ (i:=14) (N:=some 29) (v:=?_) (a':=?_) q15_ rfl rfl (any_of HT_.out (by kernel_rfl)) (fun _ _ _ h => h) (Or.inl ⟨by rfl,?_⟩) ?_ ?_
              rotate_left
              ·intro w';go_simp;with_reducible rfl
              rotate_left
              ·simp only [Act.put,List.setIfInBounds_toArray,List.set_cons_zero,List.set_cons_succ,i64_w,i32_w]
               rfl
              refine take_ (i:=15) (N:=some 30) (v:=?_) (a':=?_) q16_ rfl rfl (take_ofW HT_.out HW_.out (by kernel_rfl)) (fun _ _ _ h => h) (Or.inl ⟨by rfl,?_⟩) hHeld ?_ ?_
              rotate_left
              ·rintro w' ⟨s0,s1,s2,s3,s4,s5,s6,s7,s8,s9,s10,s11,s12,s13⟩
               go_simp;with_reducible rfl
              rotate_left
              ·simp only [Act.put,List.setIfInBounds_toArray,List.set_cons_zero,List.set_cons_succ,i64_w,i32_w]
               rfl
              refine one_ (i:=16) (N:=some 31) q17_ rfl rfl (one_of HT_.out (by kernel_rfl)) (by decide) (fun K hK => ?_)
              refine goes_ Try.func71 (by kernel_rfl) rfl #[.agg #[.int .i64 ((rd_T94 l0 x10_1).f1.f0),.slice A220_2 ((rd_T94 l0 x10_1).f1.f1).length c220_2,.int .i64 ((rd_T94 l0 x10_1).f1.f2.f0),.int .i64 ((rd_T94 l0 x10_1).f1.f2.f1),.int .i64 ((rd_T94 l0 x10_1).f1.f2.f2)]] (by rfl) rfl rfl (by (try simp only [List.map_toArray,List.map_cons,List.map_nil]);first|done|rfl|(simp only [List.length_drop,List.length_take];rfl)) ?_
              with_reducible refine (impl_IsResource.calls k1 ((rd_T94 l0 x10_1).f1.f0) _ _ ((rd_T94 l0 x10_1).f1.f1) ((rd_T94 l0 x10_1).f1.f2.f0) ((rd_T94 l0 x10_1).f1.f2.f1) ((rd_T94 l0 x10_1).f1.f2.f2) true _ ?side1 ?side2 A15.out).mono ?_
              (case side1 => repeat (first|exact (Kd.C_below HR220_2.out HB.out)|(with_reducible refine Kd.C_alloc ?_ _)|(with_reducible refine Kd.C_drewN ?_ _)|(with_reducible refine Kd.C_drew ?_)))
              (case side2 => exact HC220_2.out)
              rintro e w25 ⟨rfl,hb⟩
              refine ⟨_,rfl,?_⟩
              have n0_:=Aside0.mk (blk_below (g:=gb221) (o:=.cells #[.int .i64 ((rd_T94 l0 x10_1).f0),.int .i64 ((rd_T94 l0 x10_1).f1.f0),.slice A220_2 ((rd_T94 l0 x10_1).f1.f1).length c220_2,.int .i64 ((rd_T94 l0 x10_1).f1.f2.f0),.int .i64 ((rd_T94 l0 x10_1).f1.f2.f1),.int .i64 ((rd_T94 l0 x10_1).f1.f2.f2),.int .i64 ((rd_T94 l0 x10_1).f2)] 94 (0,0)) (by (with_reducible repeat (first|refine blk_drewN ?_ _|refine blk_drew ?_|refine blk_alloc ?_ _));exact BK221.out) hb)
              have n1_:=Aside0.mk (below_step (by repeat (first|(with_reducible first|exact HB.out|apply below_alloc|apply pw_below_drewN|apply below_drew1|refine below_set ?_ GE221.out)|exact HB.out)) hb)
              clear BK221;clear HB;have BK221:=n0_;have HB:=n1_;clear n0_ n1_;(try clear hb);refine hK.out _ _ ⟨(blk_cell BK221.out 0).trans rfl,(blk_cell BK221.out 1).trans rfl,(blk_cell BK221.out 2).trans rfl,(blk_cell BK221.out 3).trans rfl,(blk_cell BK221.out 4).trans rfl,(blk_cell BK221.out 5).trans rfl,(blk_cell BK221.out 6).trans rfl,((HB.out.cell (World.block_lt_of_cell? w _ hw222_0)).trans hw222_0),((HB.out.cell (World.block_lt_of_cell? w _ hw222_1)).trans hw222_1),((HB.out.cell (World.block_lt_of_cell? w _ hw222_2)).trans hw222_2),((HB.out.cell (World.block_lt_of_cell? w _ hw222_3)).trans hw222_3),((HB.out.cell (World.block_lt_of_cell? w _ hw222_4)).trans hw222_4),((HB.out.cell (World.block_lt_of_cell? w _ hw222_5)).trans hw222_5),((HB.out.cell (World.block_lt_of_cell? w _ hw222_6)).trans hw222_6)⟩ (fun hHeld => ?_)
              clear hK K;refine norm_ (a':=?_) ?_ ?_
              rotate_left
              ·show Act.put _ (some 31) _ = _
               simp only [Act.put,List.setIfInBounds_toArray,List.set_cons_zero,List.set_cons_succ,i64_w,i32_w]
               rfl
              refine pure_ (i:=17) (N:=some 32) (v:=?_) (a':=?_) q18_ rfl rfl (any_of HT_.out (by kernel_rfl)) (fun _ _ _ h => h) (Or.inl ⟨by rfl,?_⟩) ?_ ?_
              rotate_left
              ·intro w';go_simp;with_reducible rfl
              rotate_left
              ·simp only [Act.put,List.setIfInBounds_toArray,List.set_cons_zero,List.set_cons_succ,i64_w,i32_w]
               rfl
              refine pure_ (i:=18) (N:=some 33) (v:=?_) (a':=?_) q19_ rfl rfl (any_of HT_.out (by kernel_rfl)) (fun _ _ _ h => h) (Or.inl ⟨by rfl,?_⟩) ?_ ?_
              rotate_left
              ·intro w';go_simp;with_reducible rfl
              rotate_left
              ·simp only [Act.put,List.setIfInBounds_toArray,List.set_cons_zero,List.set_cons_succ,i64_w,i32_w]
               rfl
              refine pure_ (i:=19) (N:=some 34) (v:=?_) (a':=?_) q20_ rfl rfl (any_of HT_.out (by kernel_rfl)) (fun _ _ _ h => h) (Or.inl ⟨by rfl,?_⟩) ?_ ?_
              rotate_left
              ·intro w';go_simp;with_reducible rfl
              rotate_left
              ·simp only [Act.put,List.setIfInBounds_toArray,List.set_cons_zero,List.set_cons_succ,i64_w,i32_w]
               rfl
              refine pure_ (i:=20) (N:=some 35) (v:=?_) (a':=?_) q21_ rfl rfl (any_of HT_.out (by kernel_rfl)) (fun _ _ _ h => h) (Or.inl ⟨by rfl,?_⟩) ?_ ?_
              rotate_left
              ·intro w';go_simp;with_reducible rfl
              rotate_left
              ·simp only [Act.put,List.setIfInBounds_toArray,List.set_cons_zero,List.set_cons_succ,i64_w,i32_w]
               rfl
              refine pure_ (i:=23) (N:=some 38) (v:=?_) (a':=?_) q34_ rfl rfl (any_of HT_.out (by kernel_rfl)) (fun _ _ _ h => h) (Or.inl ⟨by rfl,?_⟩) ?_ ?_
              rotate_left
              ·intro w';go_simp;with_reducible rfl
              rotate_left
              ·simp only [Act.put,List.setIfInBounds_toArray,List.set_cons_zero,List.set_cons_succ,i64_w,i32_w]
               rfl
              refine take_ (i:=21) (N:=some 36) (v:=?_) (a':=?_) q35_ rfl rfl (take_ofW HT_.out HW_.out (by kernel_rfl)) (fun _ _ _ h => h) (Or.inl ⟨by rfl,?_⟩) hHeld ?_ ?_
              rotate_left
              ·rintro w' ⟨s0,s1,s2,s3,s4,s5,s6,s7,s8,s9,s10,s11,s12,s13⟩
               go_simp;with_reducible rfl
              rotate_left
              ·simp only [Act.put,List.setIfInBounds_toArray,List.set_cons_zero,List.set_cons_succ,i64_w,i32_w]
               rfl
              refine take_ (i:=24) (N:=some 39) (v:=?_) (a':=?_) q36_ rfl rfl (take_ofW HT_.out HW_.out (by kernel_rfl)) (fun _ _ _ h => h) (Or.inl ⟨by rfl,?_⟩) hHeld ?_ ?_
              rotate_left
              ·rintro w' ⟨s0,s1,s2,s3,s4,s5,s6,s7,s8,s9,s10,s11,s12,s13⟩
               go_simp;with_reducible rfl
              rotate_left
              ·simp only [Act.put,List.setIfInBounds_toArray,List.set_cons_zero,List.set_cons_succ,i64_w,i32_w]
               rfl
              refine one_ (i:=22) (N:=some 37) q25_ rfl rfl (one_of HT_.out (by kernel_rfl)) (by decide) (fun K hK => ?_)
              refine goes_ Try.func72 (by kernel_rfl) rfl #[.agg #[.int .i64 ((rd_T94 l0 x10_1).f1.f0),.slice A220_2 ((rd_T94 l0 x10_1).f1.f1).length c220_2,.int .i64 ((rd_T94 l0 x10_1).f1.f2.f0),.int .i64 ((rd_T94 l0 x10_1).f1.f2.f1),.int .i64 ((rd_T94 l0 x10_1).f1.f2.f2)]] (by rfl) rfl rfl (by (try simp only [List.map_toArray,List.map_cons,List.map_nil]);first|done|rfl|(simp only [List.length_drop,List.length_take];rfl)) ?_
              with_reducible refine (impl_DigestOf.calls k1 ((rd_T94 l0 x10_1).f1.f0) _ _ ((rd_T94 l0 x10_1).f1.f1) ((rd_T94 l0 x10_1).f1.f2.f0) ((rd_T94 l0 x10_1).f1.f2.f1) ((rd_T94 l0 x10_1).f1.f2.f2) t224 _ ?side1 ?side2 A17.out).mono ?_
              (case side1 => repeat (first|exact (Kd.C_below HR220_2.out HB.out)|(with_reducible refine Kd.C_alloc ?_ _)|(with_reducible refine Kd.C_drewN ?_ _)|(with_reducible refine Kd.C_drew ?_)))
              (case side2 => exact HC220_2.out)
              rintro e w26 ⟨rfl,hb⟩
              refine ⟨_,rfl,?_⟩
              have n0_:=Aside0.mk (blk_below (g:=gb221) (o:=.cells #[.int .i64 ((rd_T94 l0 x10_1).f0),.int .i64 ((rd_T94 l0 x10_1).f1.f0),.slice A220_2 ((rd_T94 l0 x10_1).f1.f1).length c220_2,.int .i64 ((rd_T94 l0 x10_1).f1.f2.f0),.int .i64 ((rd_T94 l0 x10_1).f1.f2.f1),.int .i64 ((rd_T94 l0 x10_1).f1.f2.f2),.int .i64 ((rd_T94 l0 x10_1).f2)] 94 (0,0)) (by (with_reducible repeat (first|refine blk_drewN ?_ _|refine blk_drew ?_|refine blk_alloc ?_ _));exact BK221.out) hb)
              have n1_:=Aside0.mk (below_step (by repeat (first|(with_reducible first|exact HB.out|apply below_alloc|apply pw_below_drewN|apply below_drew1|refine below_set ?_ GE221.out)|exact HB.out)) hb)
              clear BK221;clear HB;have BK221:=n0_;have HB:=n1_;clear n0_ n1_;(try clear hb);refine hK.out _ _ ⟨(blk_cell BK221.out 0).trans rfl,(blk_cell BK221.out 1).trans rfl,(blk_cell BK221.out 2).trans rfl,(blk_cell BK221.out 3).trans rfl,(blk_cell BK221.out 4).trans rfl,(blk_cell BK221.out 5).trans rfl,(blk_cell BK221.out 6).trans rfl,((HB.out.cell (World.block_lt_of_cell? w _ hw222_0)).trans hw222_0),((HB.out.cell (World.block_lt_of_cell? w _ hw222_1)).trans hw222_1),((HB.out.cell (World.block_lt_of_cell? w _ hw222_2)).trans hw222_2),((HB.out.cell (World.block_lt_of_cell? w _ hw222_3)).trans hw222_3),((HB.out.cell (World.block_lt_of_cell? w _ hw222_4)).trans hw222_4),((HB.out.cell (World.block_lt_of_cell? w _ hw222_5)).trans hw222_5),((HB.out.cell (World.block_lt_of_cell? w _ hw222_6)).trans hw222_6)⟩ (fun hHeld => ?_)
              clear hK K;refine norm_ (a':=?_) ?_ ?_
              rotate_left
              ·show Act.put _ (some 37) _ = _
               simp only [Act.put,List.setIfInBounds_toArray,List.set_cons_zero,List.set_cons_succ,i64_w,i32_w]
               rfl
              refine pure_ (i:=25) (N:=some 40) (v:=?_) (a':=?_) q26_ rfl rfl (any_of HT_.out (by kernel_rfl)) (fun _ _ _ h => h) (Or.inl ⟨by rfl,?_⟩) ?_ ?_
              rotate_left
              ·intro w';go_simp;with_reducible rfl
              rotate_left
              ·simp only [Act.put,List.setIfInBounds_toArray,List.set_cons_zero,List.set_cons_succ,i64_w,i32_w]
               rfl
              refine pure_ (i:=26) (N:=some 41) (v:=?_) (a':=?_) q27_ rfl rfl (any_of HT_.out (by kernel_rfl)) (fun _ _ _ h => h) (Or.inl ⟨by rfl,?_⟩) ?_ ?_
              rotate_left
              ·intro w';go_simp;with_reducible rfl
              rotate_left
              ·simp only [Act.put,List.setIfInBounds_toArray,List.set_cons_zero,List.set_cons_succ,i64_w,i32_w]
               rfl
              refine pure_ (i:=27) (N:=some 42) (v:=?_) (a':=?_) q28_ rfl rfl (any_of HT_.out (by kernel_rfl)) (fun _ _ _ h => h) (Or.inl ⟨by rfl,?_⟩) ?_ ?_
              rotate_left
              ·intro w';go_simp;with_reducible rfl
              rotate_left
              ·simp only [Act.put,List.setIfInBounds_toArray,List.set_cons_zero,List.set_cons_succ,i64_w,i32_w]
               rfl
              refine pure_ (i:=28) (N:=some 43) (v:=?_) (a':=?_) q29_ rfl rfl (any_of HT_.out (by kernel_rfl)) (fun _ _ _ h => h) (Or.inl ⟨by rfl,?_⟩) ?_ ?_
              rotate_left
              ·intro w';go_simp;with_reducible rfl
              rotate_left
              ·simp only [Act.put,List.setIfInBounds_toArray,List.set_cons_zero,List.set_cons_succ,i64_w,i32_w]
               rfl
              refine take_ (i:=29) (N:=some 44) (v:=?_) (a':=?_) q30_ rfl rfl (take_ofW HT_.out HW_.out (by kernel_rfl)) (fun _ _ _ h => h) (Or.inl ⟨by rfl,?_⟩) hHeld ?_ ?_
              rotate_left
              ·rintro w' ⟨s0,s1,s2,s3,s4,s5,s6,s7,s8,s9,s10,s11,s12,s13⟩
               go_simp;with_reducible rfl
              rotate_left
              ·simp only [Act.put,List.setIfInBounds_toArray,List.set_cons_zero,List.set_cons_succ,i64_w,i32_w]
               rfl
              refine one_ (i:=30) (N:=some 45) q31_ rfl rfl (one_of HT_.out (by kernel_rfl)) (by decide) (fun K hK => ?_)
              refine goes_ Try.func62 (by kernel_rfl) rfl #[.int .i64 ((rd_T94 l0 x10_1).f2),.int .i64 1,.int .i64 1000] (by rfl) rfl rfl (by (try simp only [List.map_toArray,List.map_cons,List.map_nil]);first|done|rfl|(simp only [List.length_drop,List.length_take];rfl)) ?_
              with_reducible refine (impl_InRange.calls ((rd_T94 l0 x10_1).f2) 1 1000 true _ A19.out).mono ?_
              rintro e w' ⟨rfl,⟨nd,rfl⟩⟩
              refine ⟨_,rfl,?_⟩
              refine hK.out _ _ ⟨(blk_cell BK221.out 0).trans rfl,(blk_cell BK221.out 1).trans rfl,(blk_cell BK221.out 2).trans rfl,(blk_cell BK221.out 3).trans rfl,(blk_cell BK221.out 4).trans rfl,(blk_cell BK221.out 5).trans rfl,(blk_cell BK221.out 6).trans rfl,((HB.out.cell (World.block_lt_of_cell? w _ hw222_0)).trans hw222_0),((HB.out.cell (World.block_lt_of_cell? w _ hw222_1)).trans hw222_1),((HB.out.cell (World.block_lt_of_cell? w _ hw222_2)).trans hw222_2),((HB.out.cell (World.block_lt_of_cell? w _ hw222_3)).trans hw222_3),((HB.out.cell (World.block_lt_of_cell? w _ hw222_4)).trans hw222_4),((HB.out.cell (World.block_lt_of_cell? w _ hw222_5)).trans hw222_5),((HB.out.cell (World.block_lt_of_cell? w _ hw222_6)).trans hw222_6)⟩ (fun hHeld => ?_)
              clear hK K;refine norm_ (a':=?_) ?_ ?_
              rotate_left
              ·show Act.put _ (some 45) _ = _
               simp only [Act.put,List.setIfInBounds_toArray,List.set_cons_zero,List.set_cons_succ,i64_w,i32_w]
               rfl
              refine pure_ (i:=31) (N:=some 46) (v:=?_) (a':=?_) q32_ rfl rfl (any_of HT_.out (by kernel_rfl)) (fun _ _ _ h => h) (Or.inl ⟨by rfl,?_⟩) ?_ ?_
              rotate_left
              ·intro w';go_simp;with_reducible rfl
              rotate_left
              ·simp only [Act.put,List.setIfInBounds_toArray,List.set_cons_zero,List.set_cons_succ,i64_w,i32_w]
               rfl
              refine pure_ (i:=32) (N:=some 47) (v:=?_) (a':=?_) q33_ rfl rfl (any_of HT_.out (by kernel_rfl)) (fun _ _ _ h => h) (Or.inl ⟨by rfl,?_⟩) ?_ ?_
              rotate_left
              ·intro w';go_simp;with_reducible rfl
              rotate_left
              ·simp only [Act.put,List.setIfInBounds_toArray,List.set_cons_zero,List.set_cons_succ,i64_w,i32_w]
               rfl
              refine done_ (done_of HT_.out (by kernel_rfl)) ?_
              try go_wp2
              go_roundg k1
              case measure => have:=HK1.out;omega
              case rel => exact ⟨(wrap64 (x10_1 + 1)),(by first|rfl|(simp;done)|(simp [*];done)),H',⟨by have:=HK1.out;omega⟩,⟨by repeat (first|(with_reducible first|exact HB.out|apply below_alloc|apply pw_below_drewN|apply below_drew1|refine below_set ?_ GE221.out)|exact HB.out)⟩⟩
             ·replace c20:=Bool.eq_false_iff.mpr c20
              subst c20
              have H1 : (some false) = some r:=by rw [if_neg (show ¬ (false = true) by decide)] at H;exact H
              clear H;have H:=H1;clear H1;obtain rfl:=Option.some.inj H
              have p220 : 0 ≤ (x10_1 : Int):=of_decide_eq_true (by first|(with_reducible assumption)|assumption)
              have q220 : x10_1 < (l0.length : Int):=of_decide_eq_true (by first|(with_reducible assumption)|assumption)
              obtain ⟨ad220,A220_2,c220_2,e220,hx220_0,hx220_1,hx220_2,hx220_3,hx220_4,hx220_5,hx220_6,hl220_2,hi220_2⟩:=at_T94 HR0.out x10_1 p220 q220
              cases e220
              replace hx220_0:=(HB.out.cell (World.block_lt_of_cell? w _ hx220_0)).trans hx220_0
              replace hx220_1:=(HB.out.cell (World.block_lt_of_cell? w _ hx220_1)).trans hx220_1
              replace hx220_2:=(HB.out.cell (World.block_lt_of_cell? w _ hx220_2)).trans hx220_2
              replace hx220_3:=(HB.out.cell (World.block_lt_of_cell? w _ hx220_3)).trans hx220_3
              replace hx220_4:=(HB.out.cell (World.block_lt_of_cell? w _ hx220_4)).trans hx220_4
              replace hx220_5:=(HB.out.cell (World.block_lt_of_cell? w _ hx220_5)).trans hx220_5
              replace hx220_6:=(HB.out.cell (World.block_lt_of_cell? w _ hx220_6)).trans hx220_6
              have HR220_2:=Aside0.mk hi220_2;have HC220_2:=Aside0.mk hl220_2;clear hi220_2 hl220_2;replace p220:=eq_true p220
              replace q220:=eq_true q220
              try go_wp2_with (first|((with_reducible refine gate_dst (N:=4) rfl ?_);refine box_event ?hg (N:=4) ?hd (cs:=#[.int .i64 0,.int .i64 0,.slice none 0 0,.int .i64 0,.int .i64 0,.int .i64 0,.int .i64 0]) (t:=94) ?hr ?_;(case hd => rfl);(case hg => rfl);(case hr => first|(go_simp;done)|(go_simp;rfl));intro gb221 hg w27 hbox hb;have n0_:=Aside0.mk (below_step (by repeat (first|(with_reducible first|exact HB.out|apply below_alloc|apply pw_below_drewN|apply below_drew1)|exact HB.out)) hb);have n1_:=Aside0.mk (hbox);have n2_:=Aside0.mk ((by rw [hg];exact (below_size (by repeat (first|(with_reducible first|exact HB.out|apply below_alloc|apply pw_below_drewN|apply below_drew1)|exact HB.out))) : w.heap.size ≤ gb221));have n3_:=Aside0.mk ((by rw [hg];exact (below_size (by repeat (first|(with_reducible first|exact HB.out|apply below_alloc|apply pw_below_drewN|apply below_drew1)|exact HB.out))) : w.heap.size ≤ gb221));clear HB;have HB:=n0_;have BK221:=n1_;have GW221:=n2_;have GE221:=n3_;clear n0_ n1_ n2_ n3_;clear hb hbox hg;have hcz28_0 : w27.cell? ⟨gb221,0,none⟩ = some (.int .i64 0):=(blk_cell BK221.out 0).trans rfl;have hcz28_1 : w27.cell? ⟨gb221,1,none⟩ = some (.int .i64 0):=(blk_cell BK221.out 1).trans rfl;have hcz28_2 : w27.cell? ⟨gb221,2,none⟩ = some (.slice none 0 0):=(blk_cell BK221.out 2).trans rfl;have hcz28_3 : w27.cell? ⟨gb221,3,none⟩ = some (.int .i64 0):=(blk_cell BK221.out 3).trans rfl;have hcz28_4 : w27.cell? ⟨gb221,4,none⟩ = some (.int .i64 0):=(blk_cell BK221.out 4).trans rfl;have hcz28_5 : w27.cell? ⟨gb221,5,none⟩ = some (.int .i64 0):=(blk_cell BK221.out 5).trans rfl;have hcz28_6 : w27.cell? ⟨gb221,6,none⟩ = some (.int .i64 0):=(blk_cell BK221.out 6).trans rfl;have hfz28_0:=blk_frozen BK221.out 0;have hfz28_1:=blk_frozen BK221.out 1;have hfz28_2:=blk_frozen BK221.out 2;have hfz28_3:=blk_frozen BK221.out 3;have hfz28_4:=blk_frozen BK221.out 4;have hfz28_5:=blk_frozen BK221.out 5;have hfz28_6:=blk_frozen BK221.out 6))
              have n0_ : Aside0 ((((((((w27.setCell ⟨gb221,0,none⟩ (.int .i64 ((rd_T94 l0 x10_1).f0))).setCell ⟨gb221,1,none⟩ (.int .i64 ((rd_T94 l0 x10_1).f1.f0))).setCell ⟨gb221,2,none⟩ (.slice A220_2 ((rd_T94 l0 x10_1).f1.f1).length c220_2)).setCell ⟨gb221,3,none⟩ (.int .i64 ((rd_T94 l0 x10_1).f1.f2.f0))).setCell ⟨gb221,4,none⟩ (.int .i64 ((rd_T94 l0 x10_1).f1.f2.f1))).setCell ⟨gb221,5,none⟩ (.int .i64 ((rd_T94 l0 x10_1).f1.f2.f2))).setCell ⟨gb221,6,none⟩ (.int .i64 ((rd_T94 l0 x10_1).f2))).heap[gb221]? = some (.cells #[.int .i64 ((rd_T94 l0 x10_1).f0),.int .i64 ((rd_T94 l0 x10_1).f1.f0),.slice A220_2 ((rd_T94 l0 x10_1).f1.f1).length c220_2,.int .i64 ((rd_T94 l0 x10_1).f1.f2.f0),.int .i64 ((rd_T94 l0 x10_1).f1.f2.f1),.int .i64 ((rd_T94 l0 x10_1).f1.f2.f2),.int .i64 ((rd_T94 l0 x10_1).f2)] 94 (0,0))):=⟨by (with_reducible repeat (first|refine blk_drewN ?_ _|refine blk_drew ?_|refine blk_alloc ?_ _));refine blk_put (cs:=#[.int .i64 ((rd_T94 l0 x10_1).f0),.int .i64 ((rd_T94 l0 x10_1).f1.f0),.slice A220_2 ((rd_T94 l0 x10_1).f1.f1).length c220_2,.int .i64 ((rd_T94 l0 x10_1).f1.f2.f0),.int .i64 ((rd_T94 l0 x10_1).f1.f2.f1),.int .i64 ((rd_T94 l0 x10_1).f1.f2.f2),.int .i64 0]) ?_ 6 _ rfl;(with_reducible repeat (first|refine blk_drewN ?_ _|refine blk_drew ?_|refine blk_alloc ?_ _));refine blk_put (cs:=#[.int .i64 ((rd_T94 l0 x10_1).f0),.int .i64 ((rd_T94 l0 x10_1).f1.f0),.slice A220_2 ((rd_T94 l0 x10_1).f1.f1).length c220_2,.int .i64 ((rd_T94 l0 x10_1).f1.f2.f0),.int .i64 ((rd_T94 l0 x10_1).f1.f2.f1),.int .i64 0,.int .i64 0]) ?_ 5 _ rfl;(with_reducible repeat (first|refine blk_drewN ?_ _|refine blk_drew ?_|refine blk_alloc ?_ _));refine blk_put (cs:=#[.int .i64 ((rd_T94 l0 x10_1).f0),.int .i64 ((rd_T94 l0 x10_1).f1.f0),.slice A220_2 ((rd_T94 l0 x10_1).f1.f1).length c220_2,.int .i64 ((rd_T94 l0 x10_1).f1.f2.f0),.int .i64 0,.int .i64 0,.int .i64 0]) ?_ 4 _ rfl;(with_reducible repeat (first|refine blk_drewN ?_ _|refine blk_drew ?_|refine blk_alloc ?_ _));refine blk_put (cs:=#[.int .i64 ((rd_T94 l0 x10_1).f0),.int .i64 ((rd_T94 l0 x10_1).f1.f0),.slice A220_2 ((rd_T94 l0 x10_1).f1.f1).length c220_2,.int .i64 0,.int .i64 0,.int .i64 0,.int .i64 0]) ?_ 3 _ rfl;(with_reducible repeat (first|refine blk_drewN ?_ _|refine blk_drew ?_|refine blk_alloc ?_ _));refine blk_put (cs:=#[.int .i64 ((rd_T94 l0 x10_1).f0),.int .i64 ((rd_T94 l0 x10_1).f1.f0),.slice none 0 0,.int .i64 0,.int .i64 0,.int .i64 0,.int .i64 0]) ?_ 2 _ rfl;(with_reducible repeat (first|refine blk_drewN ?_ _|refine blk_drew ?_|refine blk_alloc ?_ _));refine blk_put (cs:=#[.int .i64 ((rd_T94 l0 x10_1).f0),.int .i64 0,.slice none 0 0,.int .i64 0,.int .i64 0,.int .i64 0,.int .i64 0]) ?_ 1 _ rfl;(with_reducible repeat (first|refine blk_drewN ?_ _|refine blk_drew ?_|refine blk_alloc ?_ _));refine blk_put (cs:=#[.int .i64 0,.int .i64 0,.slice none 0 0,.int .i64 0,.int .i64 0,.int .i64 0,.int .i64 0]) ?_ 0 _ rfl;(with_reducible repeat (first|refine blk_drewN ?_ _|refine blk_drew ?_|refine blk_alloc ?_ _));exact BK221.out⟩
              have n1_ : Aside0 (Below w.heap.size w (((((((w27.setCell ⟨gb221,0,none⟩ (.int .i64 ((rd_T94 l0 x10_1).f0))).setCell ⟨gb221,1,none⟩ (.int .i64 ((rd_T94 l0 x10_1).f1.f0))).setCell ⟨gb221,2,none⟩ (.slice A220_2 ((rd_T94 l0 x10_1).f1.f1).length c220_2)).setCell ⟨gb221,3,none⟩ (.int .i64 ((rd_T94 l0 x10_1).f1.f2.f0))).setCell ⟨gb221,4,none⟩ (.int .i64 ((rd_T94 l0 x10_1).f1.f2.f1))).setCell ⟨gb221,5,none⟩ (.int .i64 ((rd_T94 l0 x10_1).f1.f2.f2))).setCell ⟨gb221,6,none⟩ (.int .i64 ((rd_T94 l0 x10_1).f2)))):=⟨by repeat (first|(with_reducible first|exact HB.out|apply below_alloc|apply pw_below_drewN|apply below_drew1|refine below_set ?_ GE221.out)|exact HB.out)⟩
              (try clear BK221);(try clear HB);generalize (((((((w27.setCell ⟨gb221,0,none⟩ (.int .i64 ((rd_T94 l0 x10_1).f0))).setCell ⟨gb221,1,none⟩ (.int .i64 ((rd_T94 l0 x10_1).f1.f0))).setCell ⟨gb221,2,none⟩ (.slice A220_2 ((rd_T94 l0 x10_1).f1.f1).length c220_2)).setCell ⟨gb221,3,none⟩ (.int .i64 ((rd_T94 l0 x10_1).f1.f2.f0))).setCell ⟨gb221,4,none⟩ (.int .i64 ((rd_T94 l0 x10_1).f1.f2.f1))).setCell ⟨gb221,5,none⟩ (.int .i64 ((rd_T94 l0 x10_1).f1.f2.f2))).setCell ⟨gb221,6,none⟩ (.int .i64 ((rd_T94 l0 x10_1).f2))) = w29 at n0_ n1_ ⊢
              have BK221:=n0_;have HB:=n1_;clear n0_ n1_;have n0_:=Aside0.mk (blk_drew BK221.out)
              have n1_:=Aside0.mk (below_drew1 HB.out)
              clear BK221;clear HB;have BK221:=n0_;have HB:=n1_;clear n0_ n1_;have p222 : 0 ≤ ((ji7) : Int):=of_decide_eq_true (by first|(with_reducible assumption)|assumption)
              have q222 : (ji7) < (l0.length : Int):=of_decide_eq_true (by first|(with_reducible assumption)|assumption)
              obtain ⟨ad222,A222_2,c222_2,e222,hx222_0,hx222_1,hx222_2,hx222_3,hx222_4,hx222_5,hx222_6,hl222_2,hi222_2⟩:=at_T94 HR0.out (ji7) p222 q222
              have hw222_6:=hx222_6;have hw222_5:=hx222_5;have hw222_4:=hx222_4;have hw222_3:=hx222_3;have hw222_2:=hx222_2;have hw222_1:=hx222_1;have hw222_0:=hx222_0;obtain rfl : ad220 = ad222:=(by injection e222)
              replace hx222_0:=(HB.out.cell (World.block_lt_of_cell? w _ hx222_0)).trans hx222_0
              replace hx222_1:=(HB.out.cell (World.block_lt_of_cell? w _ hx222_1)).trans hx222_1
              replace hx222_2:=(HB.out.cell (World.block_lt_of_cell? w _ hx222_2)).trans hx222_2
              replace hx222_3:=(HB.out.cell (World.block_lt_of_cell? w _ hx222_3)).trans hx222_3
              replace hx222_4:=(HB.out.cell (World.block_lt_of_cell? w _ hx222_4)).trans hx222_4
              replace hx222_5:=(HB.out.cell (World.block_lt_of_cell? w _ hx222_5)).trans hx222_5
              replace hx222_6:=(HB.out.cell (World.block_lt_of_cell? w _ hx222_6)).trans hx222_6
              have HR222_2:=Aside0.mk hi222_2;have HC222_2:=Aside0.mk hl222_2;clear hi222_2 hl222_2;replace p222:=eq_true p222
              replace q222:=eq_true q222
              refine start_ (n:=33) (S:=fun w' => w'.cell? ⟨gb221,0,none⟩ = some (.int .i64 ((rd_T94 l0 x10_1).f0)) ∧ w'.cell? ⟨gb221,1,none⟩ = some (.int .i64 ((rd_T94 l0 x10_1).f1.f0)) ∧ w'.cell? ⟨gb221,2,none⟩ = some (.slice A220_2 ((rd_T94 l0 x10_1).f1.f1).length c220_2) ∧ w'.cell? ⟨gb221,3,none⟩ = some (.int .i64 ((rd_T94 l0 x10_1).f1.f2.f0)) ∧ w'.cell? ⟨gb221,4,none⟩ = some (.int .i64 ((rd_T94 l0 x10_1).f1.f2.f1)) ∧ w'.cell? ⟨gb221,5,none⟩ = some (.int .i64 ((rd_T94 l0 x10_1).f1.f2.f2)) ∧ w'.cell? ⟨gb221,6,none⟩ = some (.int .i64 ((rd_T94 l0 x10_1).f2)) ∧ w'.cell? (ad220.add (((ji7)).toNat * 7)) = some (.int .i64 ((rd_T94 l0 (ji7)).f0)) ∧ w'.cell? ⟨(ad220.add (((ji7)).toNat * 7)).block,(ad220.add (((ji7)).toNat * 7)).off + 1,none⟩ = some (.int .i64 ((rd_T94 l0 (ji7)).f1.f0)) ∧ w'.cell? ⟨(ad220.add (((ji7)).toNat * 7)).block,(ad220.add (((ji7)).toNat * 7)).off + 2,none⟩ = some (.slice A222_2 ((rd_T94 l0 (ji7)).f1.f1).length c222_2) ∧ w'.cell? ⟨(ad220.add (((ji7)).toNat * 7)).block,(ad220.add (((ji7)).toNat * 7)).off + 3,none⟩ = some (.int .i64 ((rd_T94 l0 (ji7)).f1.f2.f0)) ∧ w'.cell? ⟨(ad220.add (((ji7)).toNat * 7)).block,(ad220.add (((ji7)).toNat * 7)).off + 4,none⟩ = some (.int .i64 ((rd_T94 l0 (ji7)).f1.f2.f1)) ∧ w'.cell? ⟨(ad220.add (((ji7)).toNat * 7)).block,(ad220.add (((ji7)).toNat * 7)).off + 5,none⟩ = some (.int .i64 ((rd_T94 l0 (ji7)).f1.f2.f2)) ∧ w'.cell? ⟨(ad220.add (((ji7)).toNat * 7)).block,(ad220.add (((ji7)).toNat * 7)).off + 6,none⟩ = some (.int .i64 ((rd_T94 l0 (ji7)).f2))) (ds:=[]) q0_ (by kernel_rfl) rfl rfl ⟨(blk_cell BK221.out 0).trans rfl,(blk_cell BK221.out 1).trans rfl,(blk_cell BK221.out 2).trans rfl,(blk_cell BK221.out 3).trans rfl,(blk_cell BK221.out 4).trans rfl,(blk_cell BK221.out 5).trans rfl,(blk_cell BK221.out 6).trans rfl,((HB.out.cell (World.block_lt_of_cell? w _ hw222_0)).trans hw222_0),((HB.out.cell (World.block_lt_of_cell? w _ hw222_1)).trans hw222_1),((HB.out.cell (World.block_lt_of_cell? w _ hw222_2)).trans hw222_2),((HB.out.cell (World.block_lt_of_cell? w _ hw222_3)).trans hw222_3),((HB.out.cell (World.block_lt_of_cell? w _ hw222_4)).trans hw222_4),((HB.out.cell (World.block_lt_of_cell? w _ hw222_5)).trans hw222_5),((HB.out.cell (World.block_lt_of_cell? w _ hw222_6)).trans hw222_6)⟩ (fun hHeld => ?_);refine with_tabW impl_IsStore.tab6 impl_IsStore.bits6 (fun HT_ HW_ => ?_)
              generalize w29.drew = w30 at BK221 HB HR222_2 hx222_0 hx222_1 hx222_2 hx222_3 hx222_4 hx222_5 hx222_6 hHeld ⊢
              refine pure_ (i:=0) (N:=some 15) (v:=?_) (a':=?_) q1_ rfl rfl (any_of HT_.out (by kernel_rfl)) (fun _ _ _ h => h) (Or.inl ⟨by rfl,?_⟩) ?_ ?_
              rotate_left
              ·intro w';go_simp;with_reducible rfl
              rotate_left
              ·simp only [Act.put,List.setIfInBounds_toArray,List.set_cons_zero,List.set_cons_succ,i64_w,i32_w]
               rfl
              refine pure_ (i:=1) (N:=some 16) (v:=?_) (a':=?_) q2_ rfl rfl (any_of HT_.out (by kernel_rfl)) (fun _ _ _ h => h) (Or.inl ⟨by rfl,?_⟩) ?_ ?_
              rotate_left
              ·intro w';go_simp;with_reducible rfl
              rotate_left
              ·simp only [Act.put,List.setIfInBounds_toArray,List.set_cons_zero,List.set_cons_succ,i64_w,i32_w]
               rfl
              refine pure_ (i:=2) (N:=some 17) (v:=?_) (a':=?_) q3_ rfl rfl (any_of HT_.out (by kernel_rfl)) (fun _ _ _ h => h) (Or.inl ⟨by rfl,?_⟩) ?_ ?_
              rotate_left
              ·intro w';go_simp;with_reducible rfl
              rotate_left
              ·simp only [Act.put,List.setIfInBounds_toArray,List.set_cons_zero,List.set_cons_succ,i64_w,i32_w]
               rfl
              refine pure_ (i:=3) (N:=some 18) (v:=?_) (a':=?_) q4_ rfl rfl (any_of HT_.out (by kernel_rfl)) (fun _ _ _ h => h) (Or.inl ⟨by rfl,?_⟩) ?_ ?_
              rotate_left
              ·intro w';go_simp;with_reducible rfl
              rotate_left
              ·simp only [Act.put,List.setIfInBounds_toArray,List.set_cons_zero,List.set_cons_succ,i64_w,i32_w]
               rfl
              refine pure_ (i:=4) (N:=some 19) (v:=?_) (a':=?_) q5_ rfl rfl (any_of HT_.out (by kernel_rfl)) (fun _ _ _ h => h) (Or.inl ⟨by rfl,?_⟩) ?_ ?_
              rotate_left
              ·intro w';go_simp;with_reducible rfl
              rotate_left
              ·simp only [Act.put,List.setIfInBounds_toArray,List.set_cons_zero,List.set_cons_succ,i64_w,i32_w]
               rfl
              refine pure_ (i:=5) (N:=some 20) (v:=?_) (a':=?_) q6_ rfl rfl (any_of HT_.out (by kernel_rfl)) (fun _ _ _ h => h) (Or.inl ⟨by rfl,?_⟩) ?_ ?_
              rotate_left
              ·intro w';go_simp;with_reducible rfl
              rotate_left
              ·simp only [Act.put,List.setIfInBounds_toArray,List.set_cons_zero,List.set_cons_succ,i64_w,i32_w]
               rfl
              refine pure_ (i:=6) (N:=some 21) (v:=?_) (a':=?_) q7_ rfl rfl (any_of HT_.out (by kernel_rfl)) (fun _ _ _ h => h) (Or.inl ⟨by rfl,?_⟩) ?_ ?_
              rotate_left
              ·intro w';go_simp;with_reducible rfl
              rotate_left
              ·simp only [Act.put,List.setIfInBounds_toArray,List.set_cons_zero,List.set_cons_succ,i64_w,i32_w]
               rfl
              refine pure_ (i:=7) (N:=some 22) (v:=?_) (a':=?_) q8_ rfl rfl (any_of HT_.out (by kernel_rfl)) (fun _ _ _ h => h) (Or.inl ⟨by rfl,?_⟩) ?_ ?_
              rotate_left
              ·intro w';go_simp;with_reducible rfl
              rotate_left
              ·simp only [Act.put,List.setIfInBounds_toArray,List.set_cons_zero,List.set_cons_succ,i64_w,i32_w]
               rfl
              refine pure_ (i:=9) (N:=some 24) (v:=?_) (a':=?_) q9_ rfl rfl (any_of HT_.out (by kernel_rfl)) (fun _ _ _ h => h) (Or.inl ⟨by rfl,?_⟩) ?_ ?_
              rotate_left
              ·intro w';go_simp;with_reducible rfl
              rotate_left
              ·simp only [Act.put,List.setIfInBounds_toArray,List.set_cons_zero,List.set_cons_succ,i64_w,i32_w]
               rfl
              refine take_ (i:=8) (N:=some 23) (v:=?_) (a':=?_) q10_ rfl rfl (take_ofW HT_.out HW_.out (by kernel_rfl)) (fun _ _ _ h => h) (Or.inl ⟨by rfl,?_⟩) hHeld ?_ ?_
              rotate_left
              ·rintro w' ⟨s0,s1,s2,s3,s4,s5,s6,s7,s8,s9,s10,s11,s12,s13⟩
               go_simp;with_reducible rfl
              rotate_left
              ·simp only [Act.put,List.setIfInBounds_toArray,List.set_cons_zero,List.set_cons_succ,i64_w,i32_w]
               rfl
              refine take_ (i:=10) (N:=some 25) (v:=?_) (a':=?_) q11_ rfl rfl (take_ofW HT_.out HW_.out (by kernel_rfl)) (fun _ _ _ h => h) (Or.inl ⟨by rfl,?_⟩) hHeld ?_ ?_
              rotate_left
              ·rintro w' ⟨s0,s1,s2,s3,s4,s5,s6,s7,s8,s9,s10,s11,s12,s13⟩
               go_simp;with_reducible rfl
              rotate_left
              ·simp only [Act.put,List.setIfInBounds_toArray,List.set_cons_zero,List.set_cons_succ,i64_w,i32_w]
               rfl
              refine pure_ (i:=11) (N:=some 26) (v:=?_) (a':=?_) q12_ rfl rfl (any_of HT_.out (by kernel_rfl)) (fun _ _ _ h => h) (Or.inl ⟨by rfl,?_⟩) ?_ ?_
              rotate_left
              ·intro w';go_simp;with_reducible rfl
              rotate_left
              ·simp only [Act.put,List.setIfInBounds_toArray,List.set_cons_zero,List.set_cons_succ,i64_w,i32_w]
               rfl
              refine pure_ (i:=12) (N:=some 27) (v:=?_) (a':=?_) q13_ rfl rfl (any_of HT_.out (by kernel_rfl)) (fun _ _ _ h => h) (Or.inl ⟨by rfl,?_⟩) ?_ ?_
              rotate_left
              ·intro w';go_simp;with_reducible rfl
              rotate_left
              ·simp only [Act.put,List.setIfInBounds_toArray,List.set_cons_zero,List.set_cons_succ,i64_w,i32_w]
               rfl
              refine pure_ (i:=13) (N:=some 28) (v:=?_) (a':=?_) q14_ rfl rfl (any_of HT_.out (by kernel_rfl)) (fun _ _ _ h => h) (Or.inl ⟨by rfl,?_⟩) ?_ ?_
              rotate_left
              ·intro w';go_simp;with_reducible rfl
              rotate_left
              ·simp only [Act.put,List.setIfInBounds_toArray,List.set_cons_zero,List.set_cons_succ,i64_w,i32_w]
               rfl
              refine pure_ (i:=14) (N:=some 29) (v:=?_) (a':=?_) q15_ rfl rfl (any_of HT_.out (by kernel_rfl)) (fun _ _ _ h => h) (Or.inl ⟨by rfl,?_⟩) ?_ ?_
              rotate_left
              ·intro w';go_simp;with_reducible rfl
              rotate_left
              ·simp only [Act.put,List.setIfInBounds_toArray,List.set_cons_zero,List.set_cons_succ,i64_w,i32_w]
               rfl
              refine take_ (i:=15) (N:=some 30) (v:=?_) (a':=?_) q16_ rfl rfl (take_ofW HT_.out HW_.out (by kernel_rfl)) (fun _ _ _ h => h) (Or.inl ⟨by rfl,?_⟩) hHeld ?_ ?_
              rotate_left
              ·rintro w' ⟨s0,s1,s2,s3,s4,s5,s6,s7,s8,s9,s10,s11,s12,s13⟩
               go_simp;with_reducible rfl
              rotate_left
              ·simp only [Act.put,List.setIfInBounds_toArray,List.set_cons_zero,List.set_cons_succ,i64_w,i32_w]
               rfl
              refine one_ (i:=16) (N:=some 31) q17_ rfl rfl (one_of HT_.out (by kernel_rfl)) (by decide) (fun K hK => ?_)
              refine goes_ Try.func71 (by kernel_rfl) rfl #[.agg #[.int .i64 ((rd_T94 l0 x10_1).f1.f0),.slice A220_2 ((rd_T94 l0 x10_1).f1.f1).length c220_2,.int .i64 ((rd_T94 l0 x10_1).f1.f2.f0),.int .i64 ((rd_T94 l0 x10_1).f1.f2.f1),.int .i64 ((rd_T94 l0 x10_1).f1.f2.f2)]] (by rfl) rfl rfl (by (try simp only [List.map_toArray,List.map_cons,List.map_nil]);first|done|rfl|(simp only [List.length_drop,List.length_take];rfl)) ?_
              with_reducible refine (impl_IsResource.calls k1 ((rd_T94 l0 x10_1).f1.f0) _ _ ((rd_T94 l0 x10_1).f1.f1) ((rd_T94 l0 x10_1).f1.f2.f0) ((rd_T94 l0 x10_1).f1.f2.f1) ((rd_T94 l0 x10_1).f1.f2.f2) true _ ?side1 ?side2 A15.out).mono ?_
              (case side1 => repeat (first|exact (Kd.C_below HR220_2.out HB.out)|(with_reducible refine Kd.C_alloc ?_ _)|(with_reducible refine Kd.C_drewN ?_ _)|(with_reducible refine Kd.C_drew ?_)))
              (case side2 => exact HC220_2.out)
              rintro e w31 ⟨rfl,hb⟩
              refine ⟨_,rfl,?_⟩
              have n0_:=Aside0.mk (blk_below (g:=gb221) (o:=.cells #[.int .i64 ((rd_T94 l0 x10_1).f0),.int .i64 ((rd_T94 l0 x10_1).f1.f0),.slice A220_2 ((rd_T94 l0 x10_1).f1.f1).length c220_2,.int .i64 ((rd_T94 l0 x10_1).f1.f2.f0),.int .i64 ((rd_T94 l0 x10_1).f1.f2.f1),.int .i64 ((rd_T94 l0 x10_1).f1.f2.f2),.int .i64 ((rd_T94 l0 x10_1).f2)] 94 (0,0)) (by (with_reducible repeat (first|refine blk_drewN ?_ _|refine blk_drew ?_|refine blk_alloc ?_ _));exact BK221.out) hb)
              have n1_:=Aside0.mk (below_step (by repeat (first|(with_reducible first|exact HB.out|apply below_alloc|apply pw_below_drewN|apply below_drew1|refine below_set ?_ GE221.out)|exact HB.out)) hb)
              clear BK221;clear HB;have BK221:=n0_;have HB:=n1_;clear n0_ n1_;(try clear hb);refine hK.out _ _ ⟨(blk_cell BK221.out 0).trans rfl,(blk_cell BK221.out 1).trans rfl,(blk_cell BK221.out 2).trans rfl,(blk_cell BK221.out 3).trans rfl,(blk_cell BK221.out 4).trans rfl,(blk_cell BK221.out 5).trans rfl,(blk_cell BK221.out 6).trans rfl,((HB.out.cell (World.block_lt_of_cell? w _ hw222_0)).trans hw222_0),((HB.out.cell (World.block_lt_of_cell? w _ hw222_1)).trans hw222_1),((HB.out.cell (World.block_lt_of_cell? w _ hw222_2)).trans hw222_2),((HB.out.cell (World.block_lt_of_cell? w _ hw222_3)).trans hw222_3),((HB.out.cell (World.block_lt_of_cell? w _ hw222_4)).trans hw222_4),((HB.out.cell (World.block_lt_of_cell? w _ hw222_5)).trans hw222_5),((HB.out.cell (World.block_lt_of_cell? w _ hw222_6)).trans hw222_6)⟩ (fun hHeld => ?_)
              clear hK K;refine norm_ (a':=?_) ?_ ?_
              rotate_left
              ·show Act.put _ (some 31) _ = _
               simp only [Act.put,List.setIfInBounds_toArray,List.set_cons_zero,List.set_cons_succ,i64_w,i32_w]
               rfl
              refine pure_ (i:=17) (N:=some 32) (v:=?_) (a':=?_) q18_ rfl rfl (any_of HT_.out (by kernel_rfl)) (fun _ _ _ h => h) (Or.inl ⟨by rfl,?_⟩) ?_ ?_
              rotate_left
              ·intro w';go_simp;with_reducible rfl
              rotate_left
              ·simp only [Act.put,List.setIfInBounds_toArray,List.set_cons_zero,List.set_cons_succ,i64_w,i32_w]
               rfl
              refine pure_ (i:=18) (N:=some 33) (v:=?_) (a':=?_) q19_ rfl rfl (any_of HT_.out (by kernel_rfl)) (fun _ _ _ h => h) (Or.inl ⟨by rfl,?_⟩) ?_ ?_
              rotate_left
              ·intro w';go_simp;with_reducible rfl
              rotate_left
              ·simp only [Act.put,List.setIfInBounds_toArray,List.set_cons_zero,List.set_cons_succ,i64_w,i32_w]
               rfl
              refine pure_ (i:=19) (N:=some 34) (v:=?_) (a':=?_) q20_ rfl rfl (any_of HT_.out (by kernel_rfl)) (fun _ _ _ h => h) (Or.inl ⟨by rfl,?_⟩) ?_ ?_
              rotate_left
              ·intro w';go_simp;with_reducible rfl
              rotate_left
              ·simp only [Act.put,List.setIfInBounds_toArray,List.set_cons_zero,List.set_cons_succ,i64_w,i32_w]
               rfl
              refine pure_ (i:=20) (N:=some 35) (v:=?_) (a':=?_) q21_ rfl rfl (any_of HT_.out (by kernel_rfl)) (fun _ _ _ h => h) (Or.inl ⟨by rfl,?_⟩) ?_ ?_
              rotate_left
              ·intro w';go_simp;with_reducible rfl
              rotate_left
              ·simp only [Act.put,List.setIfInBounds_toArray,List.set_cons_zero,List.set_cons_succ,i64_w,i32_w]
               rfl
              refine pure_ (i:=23) (N:=some 38) (v:=?_) (a':=?_) q34_ rfl rfl (any_of HT_.out (by kernel_rfl)) (fun _ _ _ h => h) (Or.inl ⟨by rfl,?_⟩) ?_ ?_
              rotate_left
              ·intro w';go_simp;with_reducible rfl
              rotate_left
              ·simp only [Act.put,List.setIfInBounds_toArray,List.set_cons_zero,List.set_cons_succ,i64_w,i32_w]
               rfl
              refine take_ (i:=21) (N:=some 36) (v:=?_) (a':=?_) q35_ rfl rfl (take_ofW HT_.out HW_.out (by kernel_rfl)) (fun _ _ _ h => h) (Or.inl ⟨by rfl,?_⟩) hHeld ?_ ?_
              rotate_left
              ·rintro w' ⟨s0,s1,s2,s3,s4,s5,s6,s7,s8,s9,s10,s11,s12,s13⟩
               go_simp;with_reducible rfl
              rotate_left
              ·simp only [Act.put,List.setIfInBounds_toArray,List.set_cons_zero,List.set_cons_succ,i64_w,i32_w]
               rfl
              refine take_ (i:=24) (N:=some 39) (v:=?_) (a':=?_) q36_ rfl rfl (take_ofW HT_.out HW_.out (by kernel_rfl)) (fun _ _ _ h => h) (Or.inl ⟨by rfl,?_⟩) hHeld ?_ ?_
              rotate_left
              ·rintro w' ⟨s0,s1,s2,s3,s4,s5,s6,s7,s8,s9,s10,s11,s12,s13⟩
               go_simp;with_reducible rfl
              rotate_left
              ·simp only [Act.put,List.setIfInBounds_toArray,List.set_cons_zero,List.set_cons_succ,i64_w,i32_w]
               rfl
              refine one_ (i:=22) (N:=some 37) q25_ rfl rfl (one_of HT_.out (by kernel_rfl)) (by decide) (fun K hK => ?_)
              refine goes_ Try.func72 (by kernel_rfl) rfl #[.agg #[.int .i64 ((rd_T94 l0 x10_1).f1.f0),.slice A220_2 ((rd_T94 l0 x10_1).f1.f1).length c220_2,.int .i64 ((rd_T94 l0 x10_1).f1.f2.f0),.int .i64 ((rd_T94 l0 x10_1).f1.f2.f1),.int .i64 ((rd_T94 l0 x10_1).f1.f2.f2)]] (by rfl) rfl rfl (by (try simp only [List.map_toArray,List.map_cons,List.map_nil]);first|done|rfl|(simp only [List.length_drop,List.length_take];rfl)) ?_
              with_reducible refine (impl_DigestOf.calls k1 ((rd_T94 l0 x10_1).f1.f0) _ _ ((rd_T94 l0 x10_1).f1.f1) ((rd_T94 l0 x10_1).f1.f2.f0) ((rd_T94 l0 x10_1).f1.f2.f1) ((rd_T94 l0 x10_1).f1.f2.f2) t224 _ ?side1 ?side2 A17.out).mono ?_
              (case side1 => repeat (first|exact (Kd.C_below HR220_2.out HB.out)|(with_reducible refine Kd.C_alloc ?_ _)|(with_reducible refine Kd.C_drewN ?_ _)|(with_reducible refine Kd.C_drew ?_)))
              (case side2 => exact HC220_2.out)
              rintro e w32 ⟨rfl,hb⟩
              refine ⟨_,rfl,?_⟩
              have n0_:=Aside0.mk (blk_below (g:=gb221) (o:=.cells #[.int .i64 ((rd_T94 l0 x10_1).f0),.int .i64 ((rd_T94 l0 x10_1).f1.f0),.slice A220_2 ((rd_T94 l0 x10_1).f1.f1).length c220_2,.int .i64 ((rd_T94 l0 x10_1).f1.f2.f0),.int .i64 ((rd_T94 l0 x10_1).f1.f2.f1),.int .i64 ((rd_T94 l0 x10_1).f1.f2.f2),.int .i64 ((rd_T94 l0 x10_1).f2)] 94 (0,0)) (by (with_reducible repeat (first|refine blk_drewN ?_ _|refine blk_drew ?_|refine blk_alloc ?_ _));exact BK221.out) hb)
              have n1_:=Aside0.mk (below_step (by repeat (first|(with_reducible first|exact HB.out|apply below_alloc|apply pw_below_drewN|apply below_drew1|refine below_set ?_ GE221.out)|exact HB.out)) hb)
              clear BK221;clear HB;have BK221:=n0_;have HB:=n1_;clear n0_ n1_;(try clear hb);refine hK.out _ _ ⟨(blk_cell BK221.out 0).trans rfl,(blk_cell BK221.out 1).trans rfl,(blk_cell BK221.out 2).trans rfl,(blk_cell BK221.out 3).trans rfl,(blk_cell BK221.out 4).trans rfl,(blk_cell BK221.out 5).trans rfl,(blk_cell BK221.out 6).trans rfl,((HB.out.cell (World.block_lt_of_cell? w _ hw222_0)).trans hw222_0),((HB.out.cell (World.block_lt_of_cell? w _ hw222_1)).trans hw222_1),((HB.out.cell (World.block_lt_of_cell? w _ hw222_2)).trans hw222_2),((HB.out.cell (World.block_lt_of_cell? w _ hw222_3)).trans hw222_3),((HB.out.cell (World.block_lt_of_cell? w _ hw222_4)).trans hw222_4),((HB.out.cell (World.block_lt_of_cell? w _ hw222_5)).trans hw222_5),((HB.out.cell (World.block_lt_of_cell? w _ hw222_6)).trans hw222_6)⟩ (fun hHeld => ?_)
              clear hK K;refine norm_ (a':=?_) ?_ ?_
              rotate_left
              ·show Act.put _ (some 37) _ = _
               simp only [Act.put,List.setIfInBounds_toArray,List.set_cons_zero,List.set_cons_succ,i64_w,i32_w]
               rfl
              refine pure_ (i:=25) (N:=some 40) (v:=?_) (a':=?_) q26_ rfl rfl (any_of HT_.out (by kernel_rfl)) (fun _ _ _ h => h) (Or.inl ⟨by rfl,?_⟩) ?_ ?_
              rotate_left
              ·intro w';go_simp;with_reducible rfl
              rotate_left
              ·simp only [Act.put,List.setIfInBounds_toArray,List.set_cons_zero,List.set_cons_succ,i64_w,i32_w]
               rfl
              refine pure_ (i:=26) (N:=some 41) (v:=?_) (a':=?_) q27_ rfl rfl (any_of HT_.out (by kernel_rfl)) (fun _ _ _ h => h) (Or.inl ⟨by rfl,?_⟩) ?_ ?_
              rotate_left
              ·intro w';go_simp;with_reducible rfl
              rotate_left
              ·simp only [Act.put,List.setIfInBounds_toArray,List.set_cons_zero,List.set_cons_succ,i64_w,i32_w]
               rfl
              refine pure_ (i:=27) (N:=some 42) (v:=?_) (a':=?_) q28_ rfl rfl (any_of HT_.out (by kernel_rfl)) (fun _ _ _ h => h) (Or.inl ⟨by rfl,?_⟩) ?_ ?_
              rotate_left
              ·intro w';go_simp;with_reducible rfl
              rotate_left
              ·simp only [Act.put,List.setIfInBounds_toArray,List.set_cons_zero,List.set_cons_succ,i64_w,i32_w]
               rfl
              refine pure_ (i:=28) (N:=some 43) (v:=?_) (a':=?_) q29_ rfl rfl (any_of HT_.out (by kernel_rfl)) (fun _ _ _ h => h) (Or.inl ⟨by rfl,?_⟩) ?_ ?_
              rotate_left
              ·intro w';go_simp;with_reducible rfl
              rotate_left
              ·simp only [Act.put,List.setIfInBounds_toArray,List.set_cons_zero,List.set_cons_succ,i64_w,i32_w]
               rfl
              refine take_ (i:=29) (N:=some 44) (v:=?_) (a':=?_) q30_ rfl rfl (take_ofW HT_.out HW_.out (by kernel_rfl)) (fun _ _ _ h => h) (Or.inl ⟨by rfl,?_⟩) hHeld ?_ ?_
              rotate_left
              ·rintro w' ⟨s0,s1,s2,s3,s4,s5,s6,s7,s8,s9,s10,s11,s12,s13⟩
               go_simp;with_reducible rfl
              rotate_left
              ·simp only [Act.put,List.setIfInBounds_toArray,List.set_cons_zero,List.set_cons_succ,i64_w,i32_w]
               rfl
              refine one_ (i:=30) (N:=some 45) q31_ rfl rfl (one_of HT_.out (by kernel_rfl)) (by decide) (fun K hK => ?_)
              refine goes_ Try.func62 (by kernel_rfl) rfl #[.int .i64 ((rd_T94 l0 x10_1).f2),.int .i64 1,.int .i64 1000] (by rfl) rfl rfl (by (try simp only [List.map_toArray,List.map_cons,List.map_nil]);first|done|rfl|(simp only [List.length_drop,List.length_take];rfl)) ?_
              with_reducible refine (impl_InRange.calls ((rd_T94 l0 x10_1).f2) 1 1000 false _ A19.out).mono ?_
              rintro e w' ⟨rfl,⟨nd,rfl⟩⟩
              refine ⟨_,rfl,?_⟩
              refine hK.out _ _ ⟨(blk_cell BK221.out 0).trans rfl,(blk_cell BK221.out 1).trans rfl,(blk_cell BK221.out 2).trans rfl,(blk_cell BK221.out 3).trans rfl,(blk_cell BK221.out 4).trans rfl,(blk_cell BK221.out 5).trans rfl,(blk_cell BK221.out 6).trans rfl,((HB.out.cell (World.block_lt_of_cell? w _ hw222_0)).trans hw222_0),((HB.out.cell (World.block_lt_of_cell? w _ hw222_1)).trans hw222_1),((HB.out.cell (World.block_lt_of_cell? w _ hw222_2)).trans hw222_2),((HB.out.cell (World.block_lt_of_cell? w _ hw222_3)).trans hw222_3),((HB.out.cell (World.block_lt_of_cell? w _ hw222_4)).trans hw222_4),((HB.out.cell (World.block_lt_of_cell? w _ hw222_5)).trans hw222_5),((HB.out.cell (World.block_lt_of_cell? w _ hw222_6)).trans hw222_6)⟩ (fun hHeld => ?_)
              clear hK K;refine norm_ (a':=?_) ?_ ?_
              rotate_left
              ·show Act.put _ (some 45) _ = _
               simp only [Act.put,List.setIfInBounds_toArray,List.set_cons_zero,List.set_cons_succ,i64_w,i32_w]
               rfl
              refine pure_ (i:=31) (N:=some 46) (v:=?_) (a':=?_) q32_ rfl rfl (any_of HT_.out (by kernel_rfl)) (fun _ _ _ h => h) (Or.inl ⟨by rfl,?_⟩) ?_ ?_
              rotate_left
              ·intro w';go_simp;with_reducible rfl
              rotate_left
              ·simp only [Act.put,List.setIfInBounds_toArray,List.set_cons_zero,List.set_cons_succ,i64_w,i32_w]
               rfl
              refine pure_ (i:=32) (N:=some 47) (v:=?_) (a':=?_) q33_ rfl rfl (any_of HT_.out (by kernel_rfl)) (fun _ _ _ h => h) (Or.inl ⟨by rfl,?_⟩) ?_ ?_
              rotate_left
              ·intro w';go_simp;with_reducible rfl
              rotate_left
              ·simp only [Act.put,List.setIfInBounds_toArray,List.set_cons_zero,List.set_cons_succ,i64_w,i32_w]
               rfl
              refine done_ (done_of HT_.out (by kernel_rfl)) ?_
              try go_wp2
              go_ret
              exact ⟨by first|rfl|(simp [errW_none,errW_some] <;> rfl)|(simp only [← hji7];first|rfl|(simp [errW_none,errW_some] <;> rfl))|(simp [*,errW_none,errW_some] <;> rfl),by repeat (first|(with_reducible first|exact HB.out|apply below_alloc|apply pw_below_drewN|apply below_drew1|refine below_set ?_ GE221.out)|exact HB.out)⟩
            ·rw [if_neg c18] at H
             have c18b0 : (t224 == ((rd_T94 l0 x10_1).f0)) = false:=beq_eq_false_iff_ne.mpr c18
             have c18b1 : (t224 != ((rd_T94 l0 x10_1).f0)) = true:=bne_iff_ne.mpr c18
             obtain rfl:=Option.some.inj H
             have p220 : 0 ≤ (x10_1 : Int):=of_decide_eq_true (by first|(with_reducible assumption)|assumption)
             have q220 : x10_1 < (l0.length : Int):=of_decide_eq_true (by first|(with_reducible assumption)|assumption)
             obtain ⟨ad220,A220_2,c220_2,e220,hx220_0,hx220_1,hx220_2,hx220_3,hx220_4,hx220_5,hx220_6,hl220_2,hi220_2⟩:=at_T94 HR0.out x10_1 p220 q220
             cases e220
             replace hx220_0:=(HB.out.cell (World.block_lt_of_cell? w _ hx220_0)).trans hx220_0
             replace hx220_1:=(HB.out.cell (World.block_lt_of_cell? w _ hx220_1)).trans hx220_1
             replace hx220_2:=(HB.out.cell (World.block_lt_of_cell? w _ hx220_2)).trans hx220_2
             replace hx220_3:=(HB.out.cell (World.block_lt_of_cell? w _ hx220_3)).trans hx220_3
             replace hx220_4:=(HB.out.cell (World.block_lt_of_cell? w _ hx220_4)).trans hx220_4
             replace hx220_5:=(HB.out.cell (World.block_lt_of_cell? w _ hx220_5)).trans hx220_5
             replace hx220_6:=(HB.out.cell (World.block_lt_of_cell? w _ hx220_6)).trans hx220_6
             have HR220_2:=Aside0.mk hi220_2;have HC220_2:=Aside0.mk hl220_2;clear hi220_2 hl220_2;replace p220:=eq_true p220
             replace q220:=eq_true q220
             try go_wp2_with (first|((with_reducible refine gate_dst (N:=4) rfl ?_);refine box_event ?hg (N:=4) ?hd (cs:=#[.int .i64 0,.int .i64 0,.slice none 0 0,.int .i64 0,.int .i64 0,.int .i64 0,.int .i64 0]) (t:=94) ?hr ?_;(case hd => rfl);(case hg => rfl);(case hr => first|(go_simp;done)|(go_simp;rfl));intro gb221 hg w33 hbox hb;have n0_:=Aside0.mk (below_step (by repeat (first|(with_reducible first|exact HB.out|apply below_alloc|apply pw_below_drewN|apply below_drew1)|exact HB.out)) hb);have n1_:=Aside0.mk (hbox);have n2_:=Aside0.mk ((by rw [hg];exact (below_size (by repeat (first|(with_reducible first|exact HB.out|apply below_alloc|apply pw_below_drewN|apply below_drew1)|exact HB.out))) : w.heap.size ≤ gb221));have n3_:=Aside0.mk ((by rw [hg];exact (below_size (by repeat (first|(with_reducible first|exact HB.out|apply below_alloc|apply pw_below_drewN|apply below_drew1)|exact HB.out))) : w.heap.size ≤ gb221));clear HB;have HB:=n0_;have BK221:=n1_;have GW221:=n2_;have GE221:=n3_;clear n0_ n1_ n2_ n3_;clear hb hbox hg;have hcz34_0 : w33.cell? ⟨gb221,0,none⟩ = some (.int .i64 0):=(blk_cell BK221.out 0).trans rfl;have hcz34_1 : w33.cell? ⟨gb221,1,none⟩ = some (.int .i64 0):=(blk_cell BK221.out 1).trans rfl;have hcz34_2 : w33.cell? ⟨gb221,2,none⟩ = some (.slice none 0 0):=(blk_cell BK221.out 2).trans rfl;have hcz34_3 : w33.cell? ⟨gb221,3,none⟩ = some (.int .i64 0):=(blk_cell BK221.out 3).trans rfl;have hcz34_4 : w33.cell? ⟨gb221,4,none⟩ = some (.int .i64 0):=(blk_cell BK221.out 4).trans rfl;have hcz34_5 : w33.cell? ⟨gb221,5,none⟩ = some (.int .i64 0):=(blk_cell BK221.out 5).trans rfl;have hcz34_6 : w33.cell? ⟨gb221,6,none⟩ = some (.int .i64 0):=(blk_cell BK221.out 6).trans rfl;have hfz34_0:=blk_frozen BK221.out 0;have hfz34_1:=blk_frozen BK221.out 1;have hfz34_2:=blk_frozen BK221.out 2;have hfz34_3:=blk_frozen BK221.out 3;have hfz34_4:=blk_frozen BK221.out 4;have hfz34_5:=blk_frozen BK221.out 5;have hfz34_6:=blk_frozen BK221.out 6))
             have n0_ : Aside0 ((((((((w33.setCell ⟨gb221,0,none⟩ (.int .i64 ((rd_T94 l0 x10_1).f0))).setCell ⟨gb221,1,none⟩ (.int .i64 ((rd_T94 l0 x10_1).f1.f0))).setCell ⟨gb221,2,none⟩ (.slice A220_2 ((rd_T94 l0 x10_1).f1.f1).length c220_2)).setCell ⟨gb221,3,none⟩ (.int .i64 ((rd_T94 l0 x10_1).f1.f2.f0))).setCell ⟨gb221,4,none⟩ (.int .i64 ((rd_T94 l0 x10_1).f1.f2.f1))).setCell ⟨gb221,5,none⟩ (.int .i64 ((rd_T94 l0 x10_1).f1.f2.f2))).setCell ⟨gb221,6,none⟩ (.int .i64 ((rd_T94 l0 x10_1).f2))).heap[gb221]? = some (.cells #[.int .i64 ((rd_T94 l0 x10_1).f0),.int .i64 ((rd_T94 l0 x10_1).f1.f0),.slice A220_2 ((rd_T94 l0 x10_1).f1.f1).length c220_2,.int .i64 ((rd_T94 l0 x10_1).f1.f2.f0),.int .i64 ((rd_T94 l0 x10_1).f1.f2.f1),.int .i64 ((rd_T94 l0 x10_1).f1.f2.f2),.int .i64 ((rd_T94 l0 x10_1).f2)] 94 (0,0))):=⟨by (with_reducible repeat (first|refine blk_drewN ?_ _|refine blk_drew ?_|refine blk_alloc ?_ _));refine blk_put (cs:=#[.int .i64 ((rd_T94 l0 x10_1).f0),.int .i64 ((rd_T94 l0 x10_1).f1.f0),.slice A220_2 ((rd_T94 l0 x10_1).f1.f1).length c220_2,.int .i64 ((rd_T94 l0 x10_1).f1.f2.f0),.int .i64 ((rd_T94 l0 x10_1).f1.f2.f1),.int .i64 ((rd_T94 l0 x10_1).f1.f2.f2),.int .i64 0]) ?_ 6 _ rfl;(with_reducible repeat (first|refine blk_drewN ?_ _|refine blk_drew ?_|refine blk_alloc ?_ _));refine blk_put (cs:=#[.int .i64 ((rd_T94 l0 x10_1).f0),.int .i64 ((rd_T94 l0 x10_1).f1.f0),.slice A220_2 ((rd_T94 l0 x10_1).f1.f1).length c220_2,.int .i64 ((rd_T94 l0 x10_1).f1.f2.f0),.int .i64 ((rd_T94 l0 x10_1).f1.f2.f1),.int .i64 0,.int .i64 0]) ?_ 5 _ rfl;(with_reducible repeat (first|refine blk_drewN ?_ _|refine blk_drew ?_|refine blk_alloc ?_ _));refine blk_put (cs:=#[.int .i64 ((rd_T94 l0 x10_1).f0),.int .i64 ((rd_T94 l0 x10_1).f1.f0),.slice A220_2 ((rd_T94 l0 x10_1).f1.f1).length c220_2,.int .i64 ((rd_T94 l0 x10_1).f1.f2.f0),.int .i64 0,.int .i64 0,.int .i64 0]) ?_ 4 _ rfl;(with_reducible repeat (first|refine blk_drewN ?_ _|refine blk_drew ?_|refine blk_alloc ?_ _));refine blk_put (cs:=#[.int .i64 ((rd_T94 l0 x10_1).f0),.int .i64 ((rd_T94 l0 x10_1).f1.f0),.slice A220_2 ((rd_T94 l0 x10_1).f1.f1).length c220_2,.int .i64 0,.int .i64 0,.int .i64 0,.int .i64 0]) ?_ 3 _ rfl;(with_reducible repeat (first|refine blk_drewN ?_ _|refine blk_drew ?_|refine blk_alloc ?_ _));refine blk_put (cs:=#[.int .i64 ((rd_T94 l0 x10_1).f0),.int .i64 ((rd_T94 l0 x10_1).f1.f0),.slice none 0 0,.int .i64 0,.int .i64 0,.int .i64 0,.int .i64 0]) ?_ 2 _ rfl;(with_reducible repeat (first|refine blk_drewN ?_ _|refine blk_drew ?_|refine blk_alloc ?_ _));refine blk_put (cs:=#[.int .i64 ((rd_T94 l0 x10_1).f0),.int .i64 0,.slice none 0 0,.int .i64 0,.int .i64 0,.int .i64 0,.int .i64 0]) ?_ 1 _ rfl;(with_reducible repeat (first|refine blk_drewN ?_ _|refine blk_drew ?_|refine blk_alloc ?_ _));refine blk_put (cs:=#[.int .i64 0,.int .i64 0,.slice none 0 0,.int .i64 0,.int .i64 0,.int .i64 0,.int .i64 0]) ?_ 0 _ rfl;(with_reducible repeat (first|refine blk_drewN ?_ _|refine blk_drew ?_|refine blk_alloc ?_ _));exact BK221.out⟩
             have n1_ : Aside0 (Below w.heap.size w (((((((w33.setCell ⟨gb221,0,none⟩ (.int .i64 ((rd_T94 l0 x10_1).f0))).setCell ⟨gb221,1,none⟩ (.int .i64 ((rd_T94 l0 x10_1).f1.f0))).setCell ⟨gb221,2,none⟩ (.slice A220_2 ((rd_T94 l0 x10_1).f1.f1).length c220_2)).setCell ⟨gb221,3,none⟩ (.int .i64 ((rd_T94 l0 x10_1).f1.f2.f0))).setCell ⟨gb221,4,none⟩ (.int .i64 ((rd_T94 l0 x10_1).f1.f2.f1))).setCell ⟨gb221,5,none⟩ (.int .i64 ((rd_T94 l0 x10_1).f1.f2.f2))).setCell ⟨gb221,6,none⟩ (.int .i64 ((rd_T94 l0 x10_1).f2)))):=⟨by repeat (first|(with_reducible first|exact HB.out|apply below_alloc|apply pw_below_drewN|apply below_drew1|refine below_set ?_ GE221.out)|exact HB.out)⟩
             (try clear BK221);(try clear HB);generalize (((((((w33.setCell ⟨gb221,0,none⟩ (.int .i64 ((rd_T94 l0 x10_1).f0))).setCell ⟨gb221,1,none⟩ (.int .i64 ((rd_T94 l0 x10_1).f1.f0))).setCell ⟨gb221,2,none⟩ (.slice A220_2 ((rd_T94 l0 x10_1).f1.f1).length c220_2)).setCell ⟨gb221,3,none⟩ (.int .i64 ((rd_T94 l0 x10_1).f1.f2.f0))).setCell ⟨gb221,4,none⟩ (.int .i64 ((rd_T94 l0 x10_1).f1.f2.f1))).setCell ⟨gb221,5,none⟩ (.int .i64 ((rd_T94 l0 x10_1).f1.f2.f2))).setCell ⟨gb221,6,none⟩ (.int .i64 ((rd_T94 l0 x10_1).f2))) = w35 at n0_ n1_ ⊢
             have BK221:=n0_;have HB:=n1_;clear n0_ n1_;have n0_:=Aside0.mk (blk_drew BK221.out)
             have n1_:=Aside0.mk (below_drew1 HB.out)
             clear BK221;clear HB;have BK221:=n0_;have HB:=n1_;clear n0_ n1_;have p222 : 0 ≤ ((ji7) : Int):=of_decide_eq_true (by first|(with_reducible assumption)|assumption)
             have q222 : (ji7) < (l0.length : Int):=of_decide_eq_true (by first|(with_reducible assumption)|assumption)
             obtain ⟨ad222,A222_2,c222_2,e222,hx222_0,hx222_1,hx222_2,hx222_3,hx222_4,hx222_5,hx222_6,hl222_2,hi222_2⟩:=at_T94 HR0.out (ji7) p222 q222
             have hw222_6:=hx222_6;have hw222_5:=hx222_5;have hw222_4:=hx222_4;have hw222_3:=hx222_3;have hw222_2:=hx222_2;have hw222_1:=hx222_1;have hw222_0:=hx222_0;obtain rfl : ad220 = ad222:=(by injection e222)
             replace hx222_0:=(HB.out.cell (World.block_lt_of_cell? w _ hx222_0)).trans hx222_0
             replace hx222_1:=(HB.out.cell (World.block_lt_of_cell? w _ hx222_1)).trans hx222_1
             replace hx222_2:=(HB.out.cell (World.block_lt_of_cell? w _ hx222_2)).trans hx222_2
             replace hx222_3:=(HB.out.cell (World.block_lt_of_cell? w _ hx222_3)).trans hx222_3
             replace hx222_4:=(HB.out.cell (World.block_lt_of_cell? w _ hx222_4)).trans hx222_4
             replace hx222_5:=(HB.out.cell (World.block_lt_of_cell? w _ hx222_5)).trans hx222_5
             replace hx222_6:=(HB.out.cell (World.block_lt_of_cell? w _ hx222_6)).trans hx222_6
             have HR222_2:=Aside0.mk hi222_2;have HC222_2:=Aside0.mk hl222_2;clear hi222_2 hl222_2;replace p222:=eq_true p222
             replace q222:=eq_true q222
             refine start_ (n:=33) (S:=fun w' => w'.cell? ⟨gb221,0,none⟩ = some (.int .i64 ((rd_T94 l0 x10_1).f0)) ∧ w'.cell? ⟨gb221,1,none⟩ = some (.int .i64 ((rd_T94 l0 x10_1).f1.f0)) ∧ w'.cell? ⟨gb221,2,none⟩ = some (.slice A220_2 ((rd_T94 l0 x10_1).f1.f1).length c220_2) ∧ w'.cell? ⟨gb221,3,none⟩ = some (.int .i64 ((rd_T94 l0 x10_1).f1.f2.f0)) ∧ w'.cell? ⟨gb221,4,none⟩ = some (.int .i64 ((rd_T94 l0 x10_1).f1.f2.f1)) ∧ w'.cell? ⟨gb221,5,none⟩ = some (.int .i64 ((rd_T94 l0 x10_1).f1.f2.f2)) ∧ w'.cell? ⟨gb221,6,none⟩ = some (.int .i64 ((rd_T94 l0 x10_1).f2)) ∧ w'.cell? (ad220.add (((ji7)).toNat * 7)) = some (.int .i64 ((rd_T94 l0 (ji7)).f0)) ∧ w'.cell? ⟨(ad220.add (((ji7)).toNat * 7)).block,(ad220.add (((ji7)).toNat * 7)).off + 1,none⟩ = some (.int .i64 ((rd_T94 l0 (ji7)).f1.f0)) ∧ w'.cell? ⟨(ad220.add (((ji7)).toNat * 7)).block,(ad220.add (((ji7)).toNat * 7)).off + 2,none⟩ = some (.slice A222_2 ((rd_T94 l0 (ji7)).f1.f1).length c222_2) ∧ w'.cell? ⟨(ad220.add (((ji7)).toNat * 7)).block,(ad220.add (((ji7)).toNat * 7)).off + 3,none⟩ = some (.int .i64 ((rd_T94 l0 (ji7)).f1.f2.f0)) ∧ w'.cell? ⟨(ad220.add (((ji7)).toNat * 7)).block,(ad220.add (((ji7)).toNat * 7)).off + 4,none⟩ = some (.int .i64 ((rd_T94 l0 (ji7)).f1.f2.f1)) ∧ w'.cell? ⟨(ad220.add (((ji7)).toNat * 7)).block,(ad220.add (((ji7)).toNat * 7)).off + 5,none⟩ = some (.int .i64 ((rd_T94 l0 (ji7)).f1.f2.f2)) ∧ w'.cell? ⟨(ad220.add (((ji7)).toNat * 7)).block,(ad220.add (((ji7)).toNat * 7)).off + 6,none⟩ = some (.int .i64 ((rd_T94 l0 (ji7)).f2))) (ds:=[]) q0_ (by kernel_rfl) rfl rfl ⟨(blk_cell BK221.out 0).trans rfl,(blk_cell BK221.out 1).trans rfl,(blk_cell BK221.out 2).trans rfl,(blk_cell BK221.out 3).trans rfl,(blk_cell BK221.out 4).trans rfl,(blk_cell BK221.out 5).trans rfl,(blk_cell BK221.out 6).trans rfl,((HB.out.cell (World.block_lt_of_cell? w _ hw222_0)).trans hw222_0),((HB.out.cell (World.block_lt_of_cell? w _ hw222_1)).trans hw222_1),((HB.out.cell (World.block_lt_of_cell? w _ hw222_2)).trans hw222_2),((HB.out.cell (World.block_lt_of_cell? w _ hw222_3)).trans hw222_3),((HB.out.cell (World.block_lt_of_cell? w _ hw222_4)).trans hw222_4),((HB.out.cell (World.block_lt_of_cell? w _ hw222_5)).trans hw222_5),((HB.out.cell (World.block_lt_of_cell? w _ hw222_6)).trans hw222_6)⟩ (fun hHeld => ?_);refine with_tabW impl_IsStore.tab6 impl_IsStore.bits6 (fun HT_ HW_ => ?_)
             generalize w35.drew = w36 at BK221 HB HR222_2 hx222_0 hx222_1 hx222_2 hx222_3 hx222_4 hx222_5 hx222_6 hHeld ⊢
             refine pure_ (i:=0) (N:=some 15) (v:=?_) (a':=?_) q1_ rfl rfl (any_of HT_.out (by kernel_rfl)) (fun _ _ _ h => h) (Or.inl ⟨by rfl,?_⟩) ?_ ?_
             rotate_left
             ·intro w';go_simp;with_reducible rfl
             rotate_left
             ·simp only [Act.put,List.setIfInBounds_toArray,List.set_cons_zero,List.set_cons_succ,i64_w,i32_w]
              rfl
             refine pure_ (i:=1) (N:=some 16) (v:=?_) (a':=?_) q2_ rfl rfl (any_of HT_.out (by kernel_rfl)) (fun _ _ _ h => h) (Or.inl ⟨by rfl,?_⟩) ?_ ?_
             rotate_left
             ·intro w';go_simp;with_reducible rfl
             rotate_left
             ·simp only [Act.put,List.setIfInBounds_toArray,List.set_cons_zero,List.set_cons_succ,i64_w,i32_w]
              rfl
             refine pure_ (i:=2) (N:=some 17) (v:=?_) (a':=?_) q3_ rfl rfl (any_of HT_.out (by kernel_rfl)) (fun _ _ _ h => h) (Or.inl ⟨by rfl,?_⟩) ?_ ?_
             rotate_left
             ·intro w';go_simp;with_reducible rfl
             rotate_left
             ·simp only [Act.put,List.setIfInBounds_toArray,List.set_cons_zero,List.set_cons_succ,i64_w,i32_w]
              rfl
             refine pure_ (i:=3) (N:=some 18) (v:=?_) (a':=?_) q4_ rfl rfl (any_of HT_.out (by kernel_rfl)) (fun _ _ _ h => h) (Or.inl ⟨by rfl,?_⟩) ?_ ?_
             rotate_left
             ·intro w';go_simp;with_reducible rfl
             rotate_left
             ·simp only [Act.put,List.setIfInBounds_toArray,List.set_cons_zero,List.set_cons_succ,i64_w,i32_w]
              rfl
             refine pure_ (i:=4) (N:=some 19) (v:=?_) (a':=?_) q5_ rfl rfl (any_of HT_.out (by kernel_rfl)) (fun _ _ _ h => h) (Or.inl ⟨by rfl,?_⟩) ?_ ?_
             rotate_left
             ·intro w';go_simp;with_reducible rfl
             rotate_left
             ·simp only [Act.put,List.setIfInBounds_toArray,List.set_cons_zero,List.set_cons_succ,i64_w,i32_w]
              rfl
             refine pure_ (i:=5) (N:=some 20) (v:=?_) (a':=?_) q6_ rfl rfl (any_of HT_.out (by kernel_rfl)) (fun _ _ _ h => h) (Or.inl ⟨by rfl,?_⟩) ?_ ?_
             rotate_left
             ·intro w';go_simp;with_reducible rfl
             rotate_left
             ·simp only [Act.put,List.setIfInBounds_toArray,List.set_cons_zero,List.set_cons_succ,i64_w,i32_w]
              rfl
             refine pure_ (i:=6) (N:=some 21) (v:=?_) (a':=?_) q7_ rfl rfl (any_of HT_.out (by kernel_rfl)) (fun _ _ _ h => h) (Or.inl ⟨by rfl,?_⟩) ?_ ?_
             rotate_left
             ·intro w';go_simp;with_reducible rfl
             rotate_left
             ·simp only [Act.put,List.setIfInBounds_toArray,List.set_cons_zero,List.set_cons_succ,i64_w,i32_w]
              rfl
             refine pure_ (i:=7) (N:=some 22) (v:=?_) (a':=?_) q8_ rfl rfl (any_of HT_.out (by kernel_rfl)) (fun _ _ _ h => h) (Or.inl ⟨by rfl,?_⟩) ?_ ?_
             rotate_left
             ·intro w';go_simp;with_reducible rfl
             rotate_left
             ·simp only [Act.put,List.setIfInBounds_toArray,List.set_cons_zero,List.set_cons_succ,i64_w,i32_w]
              rfl
             refine pure_ (i:=9) (N:=some 24) (v:=?_) (a':=?_) q9_ rfl rfl (any_of HT_.out (by kernel_rfl)) (fun _ _ _ h => h) (Or.inl ⟨by rfl,?_⟩) ?_ ?_
             rotate_left
             ·intro w';go_simp;with_reducible rfl
             rotate_left
             ·simp only [Act.put,List.setIfInBounds_toArray,List.set_cons_zero,List.set_cons_succ,i64_w,i32_w]
              rfl
             refine take_ (i:=8) (N:=some 23) (v:=?_) (a':=?_) q10_ rfl rfl (take_ofW HT_.out HW_.out (by kernel_rfl)) (fun _ _ _ h => h) (Or.inl ⟨by rfl,?_⟩) hHeld ?_ ?_
             rotate_left
             ·rintro w' ⟨s0,s1,s2,s3,s4,s5,s6,s7,s8,s9,s10,s11,s12,s13⟩
              go_simp;with_reducible rfl
             rotate_left
             ·simp only [Act.put,List.setIfInBounds_toArray,List.set_cons_zero,List.set_cons_succ,i64_w,i32_w]
              rfl
             refine take_ (i:=10) (N:=some 25) (v:=?_) (a':=?_) q11_ rfl rfl (take_ofW HT_.out HW_.out (by kernel_rfl)) (fun _ _ _ h => h) (Or.inl ⟨by rfl,?_⟩) hHeld ?_ ?_
             rotate_left
             ·rintro w' ⟨s0,s1,s2,s3,s4,s5,s6,s7,s8,s9,s10,s11,s12,s13⟩
              go_simp;with_reducible rfl
             rotate_left
             ·simp only [Act.put,List.setIfInBounds_toArray,List.set_cons_zero,List.set_cons_succ,i64_w,i32_w]
              rfl
             refine pure_ (i:=11) (N:=some 26) (v:=?_) (a':=?_) q12_ rfl rfl (any_of HT_.out (by kernel_rfl)) (fun _ _ _ h => h) (Or.inl ⟨by rfl,?_⟩) ?_ ?_
             rotate_left
             ·intro w';go_simp;with_reducible rfl
             rotate_left
             ·simp only [Act.put,List.setIfInBounds_toArray,List.set_cons_zero,List.set_cons_succ,i64_w,i32_w]
              rfl
             refine pure_ (i:=12) (N:=some 27) (v:=?_) (a':=?_) q13_ rfl rfl (any_of HT_.out (by kernel_rfl)) (fun _ _ _ h => h) (Or.inl ⟨by rfl,?_⟩) ?_ ?_
             rotate_left
             ·intro w';go_simp;with_reducible rfl
             rotate_left
             ·simp only [Act.put,List.setIfInBounds_toArray,List.set_cons_zero,List.set_cons_succ,i64_w,i32_w]
              rfl
             refine pure_ (i:=13) (N:=some 28) (v:=?_) (a':=?_) q14_ rfl rfl (any_of HT_.out (by kernel_rfl)) (fun _ _ _ h => h) (Or.inl ⟨by rfl,?_⟩) ?_ ?_
             rotate_left
             ·intro w';go_simp;with_reducible rfl
             rotate_left
             ·simp only [Act.put,List.setIfInBounds_toArray,List.set_cons_zero,List.set_cons_succ,i64_w,i32_w]
              rfl
             refine pure_ (i:=14) (N:=some 29) (v:=?_) (a':=?_) q15_ rfl rfl (any_of HT_.out (by kernel_rfl)) (fun _ _ _ h => h) (Or.inl ⟨by rfl,?_⟩) ?_ ?_
             rotate_left
             ·intro w';go_simp;with_reducible rfl
             rotate_left
             ·simp only [Act.put,List.setIfInBounds_toArray,List.set_cons_zero,List.set_cons_succ,i64_w,i32_w]
              rfl
             refine take_ (i:=15) (N:=some 30) (v:=?_) (a':=?_) q16_ rfl rfl (take_ofW HT_.out HW_.out (by kernel_rfl)) (fun _ _ _ h => h) (Or.inl ⟨by rfl,?_⟩) hHeld ?_ ?_
             rotate_left
             ·rintro w' ⟨s0,s1,s2,s3,s4,s5,s6,s7,s8,s9,s10,s11,s12,s13⟩
              go_simp;with_reducible rfl
             rotate_left
             ·simp only [Act.put,List.setIfInBounds_toArray,List.set_cons_zero,List.set_cons_succ,i64_w,i32_w]
              rfl
             refine one_ (i:=16) (N:=some 31) q17_ rfl rfl (one_of HT_.out (by kernel_rfl)) (by decide) (fun K hK => ?_)
             refine goes_ Try.func71 (by kernel_rfl) rfl #[.agg #[.int .i64 ((rd_T94 l0 x10_1).f1.f0),.slice A220_2 ((rd_T94 l0 x10_1).f1.f1).length c220_2,.int .i64 ((rd_T94 l0 x10_1).f1.f2.f0),.int .i64 ((rd_T94 l0 x10_1).f1.f2.f1),.int .i64 ((rd_T94 l0 x10_1).f1.f2.f2)]] (by rfl) rfl rfl (by (try simp only [List.map_toArray,List.map_cons,List.map_nil]);first|done|rfl|(simp only [List.length_drop,List.length_take];rfl)) ?_
             with_reducible refine (impl_IsResource.calls k1 ((rd_T94 l0 x10_1).f1.f0) _ _ ((rd_T94 l0 x10_1).f1.f1) ((rd_T94 l0 x10_1).f1.f2.f0) ((rd_T94 l0 x10_1).f1.f2.f1) ((rd_T94 l0 x10_1).f1.f2.f2) true _ ?side1 ?side2 A15.out).mono ?_
             (case side1 => repeat (first|exact (Kd.C_below HR220_2.out HB.out)|(with_reducible refine Kd.C_alloc ?_ _)|(with_reducible refine Kd.C_drewN ?_ _)|(with_reducible refine Kd.C_drew ?_)))
             (case side2 => exact HC220_2.out)
             rintro e w37 ⟨rfl,hb⟩
             refine ⟨_,rfl,?_⟩
             have n0_:=Aside0.mk (blk_below (g:=gb221) (o:=.cells #[.int .i64 ((rd_T94 l0 x10_1).f0),.int .i64 ((rd_T94 l0 x10_1).f1.f0),.slice A220_2 ((rd_T94 l0 x10_1).f1.f1).length c220_2,.int .i64 ((rd_T94 l0 x10_1).f1.f2.f0),.int .i64 ((rd_T94 l0 x10_1).f1.f2.f1),.int .i64 ((rd_T94 l0 x10_1).f1.f2.f2),.int .i64 ((rd_T94 l0 x10_1).f2)] 94 (0,0)) (by (with_reducible repeat (first|refine blk_drewN ?_ _|refine blk_drew ?_|refine blk_alloc ?_ _));exact BK221.out) hb)
             have n1_:=Aside0.mk (below_step (by repeat (first|(with_reducible first|exact HB.out|apply below_alloc|apply pw_below_drewN|apply below_drew1|refine below_set ?_ GE221.out)|exact HB.out)) hb)
             clear BK221;clear HB;have BK221:=n0_;have HB:=n1_;clear n0_ n1_;(try clear hb);refine hK.out _ _ ⟨(blk_cell BK221.out 0).trans rfl,(blk_cell BK221.out 1).trans rfl,(blk_cell BK221.out 2).trans rfl,(blk_cell BK221.out 3).trans rfl,(blk_cell BK221.out 4).trans rfl,(blk_cell BK221.out 5).trans rfl,(blk_cell BK221.out 6).trans rfl,((HB.out.cell (World.block_lt_of_cell? w _ hw222_0)).trans hw222_0),((HB.out.cell (World.block_lt_of_cell? w _ hw222_1)).trans hw222_1),((HB.out.cell (World.block_lt_of_cell? w _ hw222_2)).trans hw222_2),((HB.out.cell (World.block_lt_of_cell? w _ hw222_3)).trans hw222_3),((HB.out.cell (World.block_lt_of_cell? w _ hw222_4)).trans hw222_4),((HB.out.cell (World.block_lt_of_cell? w _ hw222_5)).trans hw222_5),((HB.out.cell (World.block_lt_of_cell? w _ hw222_6)).trans hw222_6)⟩ (fun hHeld => ?_)
             clear hK K;refine norm_ (a':=?_) ?_ ?_
             rotate_left
             ·show Act.put _ (some 31) _ = _
              simp only [Act.put,List.setIfInBounds_toArray,List.set_cons_zero,List.set_cons_succ,i64_w,i32_w]
              rfl
             refine pure_ (i:=17) (N:=some 32) (v:=?_) (a':=?_) q18_ rfl rfl (any_of HT_.out (by kernel_rfl)) (fun _ _ _ h => h) (Or.inl ⟨by rfl,?_⟩) ?_ ?_
             rotate_left
             ·intro w';go_simp;with_reducible rfl
             rotate_left
             ·simp only [Act.put,List.setIfInBounds_toArray,List.set_cons_zero,List.set_cons_succ,i64_w,i32_w]
              rfl
             refine pure_ (i:=18) (N:=some 33) (v:=?_) (a':=?_) q19_ rfl rfl (any_of HT_.out (by kernel_rfl)) (fun _ _ _ h => h) (Or.inl ⟨by rfl,?_⟩) ?_ ?_
             rotate_left
             ·intro w';go_simp;with_reducible rfl
             rotate_left
             ·simp only [Act.put,List.setIfInBounds_toArray,List.set_cons_zero,List.set_cons_succ,i64_w,i32_w]
              rfl
             refine pure_ (i:=19) (N:=some 34) (v:=?_) (a':=?_) q20_ rfl rfl (any_of HT_.out (by kernel_rfl)) (fun _ _ _ h => h) (Or.inl ⟨by rfl,?_⟩) ?_ ?_
             rotate_left
             ·intro w';go_simp;with_reducible rfl
             rotate_left
             ·simp only [Act.put,List.setIfInBounds_toArray,List.set_cons_zero,List.set_cons_succ,i64_w,i32_w]
              rfl
             refine pure_ (i:=20) (N:=some 35) (v:=?_) (a':=?_) q21_ rfl rfl (any_of HT_.out (by kernel_rfl)) (fun _ _ _ h => h) (Or.inl ⟨by rfl,?_⟩) ?_ ?_
             rotate_left
             ·intro w';go_simp;with_reducible rfl
             rotate_left
             ·simp only [Act.put,List.setIfInBounds_toArray,List.set_cons_zero,List.set_cons_succ,i64_w,i32_w]
              rfl
             refine pure_ (i:=23) (N:=some 38) (v:=?_) (a':=?_) q34_ rfl rfl (any_of HT_.out (by kernel_rfl)) (fun _ _ _ h => h) (Or.inl ⟨by rfl,?_⟩) ?_ ?_
             rotate_left
             ·intro w';go_simp;with_reducible rfl
             rotate_left
             ·simp only [Act.put,List.setIfInBounds_toArray,List.set_cons_zero,List.set_cons_succ,i64_w,i32_w]
              rfl
             refine take_ (i:=21) (N:=some 36) (v:=?_) (a':=?_) q35_ rfl rfl (take_ofW HT_.out HW_.out (by kernel_rfl)) (fun _ _ _ h => h) (Or.inl ⟨by rfl,?_⟩) hHeld ?_ ?_
             rotate_left
             ·rintro w' ⟨s0,s1,s2,s3,s4,s5,s6,s7,s8,s9,s10,s11,s12,s13⟩
              go_simp;with_reducible rfl
             rotate_left
             ·simp only [Act.put,List.setIfInBounds_toArray,List.set_cons_zero,List.set_cons_succ,i64_w,i32_w]
              rfl
             refine take_ (i:=24) (N:=some 39) (v:=?_) (a':=?_) q36_ rfl rfl (take_ofW HT_.out HW_.out (by kernel_rfl)) (fun _ _ _ h => h) (Or.inl ⟨by rfl,?_⟩) hHeld ?_ ?_
             rotate_left
             ·rintro w' ⟨s0,s1,s2,s3,s4,s5,s6,s7,s8,s9,s10,s11,s12,s13⟩
              go_simp;with_reducible rfl
             rotate_left
             ·simp only [Act.put,List.setIfInBounds_toArray,List.set_cons_zero,List.set_cons_succ,i64_w,i32_w]
              rfl
             refine one_ (i:=22) (N:=some 37) q25_ rfl rfl (one_of HT_.out (by kernel_rfl)) (by decide) (fun K hK => ?_)
             refine goes_ Try.func72 (by kernel_rfl) rfl #[.agg #[.int .i64 ((rd_T94 l0 x10_1).f1.f0),.slice A220_2 ((rd_T94 l0 x10_1).f1.f1).length c220_2,.int .i64 ((rd_T94 l0 x10_1).f1.f2.f0),.int .i64 ((rd_T94 l0 x10_1).f1.f2.f1),.int .i64 ((rd_T94 l0 x10_1).f1.f2.f2)]] (by rfl) rfl rfl (by (try simp only [List.map_toArray,List.map_cons,List.map_nil]);first|done|rfl|(simp only [List.length_drop,List.length_take];rfl)) ?_
             with_reducible refine (impl_DigestOf.calls k1 ((rd_T94 l0 x10_1).f1.f0) _ _ ((rd_T94 l0 x10_1).f1.f1) ((rd_T94 l0 x10_1).f1.f2.f0) ((rd_T94 l0 x10_1).f1.f2.f1) ((rd_T94 l0 x10_1).f1.f2.f2) t224 _ ?side1 ?side2 A17.out).mono ?_
             (case side1 => repeat (first|exact (Kd.C_below HR220_2.out HB.out)|(with_reducible refine Kd.C_alloc ?_ _)|(with_reducible refine Kd.C_drewN ?_ _)|(with_reducible refine Kd.C_drew ?_)))
             (case side2 => exact HC220_2.out)
             rintro e w38 ⟨rfl,hb⟩
             refine ⟨_,rfl,?_⟩
             have n0_:=Aside0.mk (blk_below (g:=gb221) (o:=.cells #[.int .i64 ((rd_T94 l0 x10_1).f0),.int .i64 ((rd_T94 l0 x10_1).f1.f0),.slice A220_2 ((rd_T94 l0 x10_1).f1.f1).length c220_2,.int .i64 ((rd_T94 l0 x10_1).f1.f2.f0),.int .i64 ((rd_T94 l0 x10_1).f1.f2.f1),.int .i64 ((rd_T94 l0 x10_1).f1.f2.f2),.int .i64 ((rd_T94 l0 x10_1).f2)] 94 (0,0)) (by (with_reducible repeat (first|refine blk_drewN ?_ _|refine blk_drew ?_|refine blk_alloc ?_ _));exact BK221.out) hb)
             have n1_:=Aside0.mk (below_step (by repeat (first|(with_reducible first|exact HB.out|apply below_alloc|apply pw_below_drewN|apply below_drew1|refine below_set ?_ GE221.out)|exact HB.out)) hb)
             clear BK221;clear HB;have BK221:=n0_;have HB:=n1_;clear n0_ n1_;(try clear hb);refine hK.out _ _ ⟨(blk_cell BK221.out 0).trans rfl,(blk_cell BK221.out 1).trans rfl,(blk_cell BK221.out 2).trans rfl,(blk_cell BK221.out 3).trans rfl,(blk_cell BK221.out 4).trans rfl,(blk_cell BK221.out 5).trans rfl,(blk_cell BK221.out 6).trans rfl,((HB.out.cell (World.block_lt_of_cell? w _ hw222_0)).trans hw222_0),((HB.out.cell (World.block_lt_of_cell? w _ hw222_1)).trans hw222_1),((HB.out.cell (World.block_lt_of_cell? w _ hw222_2)).trans hw222_2),((HB.out.cell (World.block_lt_of_cell? w _ hw222_3)).trans hw222_3),((HB.out.cell (World.block_lt_of_cell? w _ hw222_4)).trans hw222_4),((HB.out.cell (World.block_lt_of_cell? w _ hw222_5)).trans hw222_5),((HB.out.cell (World.block_lt_of_cell? w _ hw222_6)).trans hw222_6)⟩ (fun hHeld => ?_)
             clear hK K;refine norm_ (a':=?_) ?_ ?_
             rotate_left
             ·show Act.put _ (some 37) _ = _
              simp only [Act.put,List.setIfInBounds_toArray,List.set_cons_zero,List.set_cons_succ,i64_w,i32_w]
              rfl
             refine pure_ (i:=25) (N:=some 40) (v:=?_) (a':=?_) q26_ rfl rfl (any_of HT_.out (by kernel_rfl)) (fun _ _ _ h => h) (Or.inl ⟨by rfl,?_⟩) ?_ ?_
             rotate_left
             ·intro w';go_simp;with_reducible rfl
             rotate_left
             ·simp only [Act.put,List.setIfInBounds_toArray,List.set_cons_zero,List.set_cons_succ,i64_w,i32_w]
              rfl
             refine pure_ (i:=26) (N:=some 41) (v:=?_) (a':=?_) q27_ rfl rfl (any_of HT_.out (by kernel_rfl)) (fun _ _ _ h => h) (Or.inl ⟨by rfl,?_⟩) ?_ ?_
             rotate_left
             ·intro w';go_simp;with_reducible rfl
             rotate_left
             ·simp only [Act.put,List.setIfInBounds_toArray,List.set_cons_zero,List.set_cons_succ,i64_w,i32_w]
              rfl
             refine pure_ (i:=27) (N:=some 42) (v:=?_) (a':=?_) q28_ rfl rfl (any_of HT_.out (by kernel_rfl)) (fun _ _ _ h => h) (Or.inl ⟨by rfl,?_⟩) ?_ ?_
             rotate_left
             ·intro w';go_simp;with_reducible rfl
             rotate_left
             ·simp only [Act.put,List.setIfInBounds_toArray,List.set_cons_zero,List.set_cons_succ,i64_w,i32_w]
              rfl
             refine pure_ (i:=28) (N:=some 43) (v:=undef) (a':=?_) q29_ rfl rfl (any_of HT_.out (by kernel_rfl)) (fun _ _ _ h => h) (Or.inr ⟨by rfl,rfl⟩) ?_ ?_
             rotate_left
             ·simp only [Act.put,List.setIfInBounds_toArray,List.set_cons_zero,List.set_cons_succ,i64_w,i32_w]
              rfl
             refine pure_ (i:=29) (N:=some 44) (v:=undef) (a':=?_) q30_ rfl rfl (any_of HT_.out (by kernel_rfl)) (fun _ _ _ h => h) (Or.inr ⟨by rfl,rfl⟩) ?_ ?_
             rotate_left
             ·simp only [Act.put,List.setIfInBounds_toArray,List.set_cons_zero,List.set_cons_succ,i64_w,i32_w]
              rfl
             refine pure_ (i:=30) (N:=some 45) (v:=undef) (a':=?_) q31_ rfl rfl (any_of HT_.out (by kernel_rfl)) (fun _ _ _ h => h) (Or.inr ⟨by rfl,rfl⟩) ?_ ?_
             rotate_left
             ·simp only [Act.put,List.setIfInBounds_toArray,List.set_cons_zero,List.set_cons_succ,i64_w,i32_w]
              rfl
             refine pure_ (i:=31) (N:=some 46) (v:=undef) (a':=?_) q32_ rfl rfl (any_of HT_.out (by kernel_rfl)) (fun _ _ _ h => h) (Or.inr ⟨by rfl,rfl⟩) ?_ ?_
             rotate_left
             ·simp only [Act.put,List.setIfInBounds_toArray,List.set_cons_zero,List.set_cons_succ,i64_w,i32_w]
              rfl
             refine pure_ (i:=32) (N:=some 47) (v:=?_) (a':=?_) q33_ rfl rfl (any_of HT_.out (by kernel_rfl)) (fun _ _ _ h => h) (Or.inl ⟨by rfl,?_⟩) ?_ ?_
             rotate_left
             ·intro w';go_simp;with_reducible rfl
             rotate_left
             ·simp only [Act.put,List.setIfInBounds_toArray,List.set_cons_zero,List.set_cons_succ,i64_w,i32_w]
              rfl
             refine done_ (done_of HT_.out (by kernel_rfl)) ?_
             try go_wp2
             go_ret
             exact ⟨by first|rfl|(simp [errW_none,errW_some] <;> rfl)|(simp only [← hji7];first|rfl|(simp [errW_none,errW_some] <;> rfl))|(simp [*,errW_none,errW_some] <;> rfl),by repeat (first|(with_reducible first|exact HB.out|apply below_alloc|apply pw_below_drewN|apply below_drew1|refine below_set ?_ GE221.out)|exact HB.out)⟩
           ·replace c16:=Bool.eq_false_iff.mpr c16
            subst c16
            have H1 : (some false) = some r:=by rw [if_neg (show ¬ (false = true) by decide)] at H;exact H
            clear H;have H:=H1;clear H1;obtain rfl:=Option.some.inj H
            have p220 : 0 ≤ (x10_1 : Int):=of_decide_eq_true (by first|(with_reducible assumption)|assumption)
            have q220 : x10_1 < (l0.length : Int):=of_decide_eq_true (by first|(with_reducible assumption)|assumption)
            obtain ⟨ad220,A220_2,c220_2,e220,hx220_0,hx220_1,hx220_2,hx220_3,hx220_4,hx220_5,hx220_6,hl220_2,hi220_2⟩:=at_T94 HR0.out x10_1 p220 q220
            cases e220
            replace hx220_0:=(HB.out.cell (World.block_lt_of_cell? w _ hx220_0)).trans hx220_0
            replace hx220_1:=(HB.out.cell (World.block_lt_of_cell? w _ hx220_1)).trans hx220_1
            replace hx220_2:=(HB.out.cell (World.block_lt_of_cell? w _ hx220_2)).trans hx220_2
            replace hx220_3:=(HB.out.cell (World.block_lt_of_cell? w _ hx220_3)).trans hx220_3
            replace hx220_4:=(HB.out.cell (World.block_lt_of_cell? w _ hx220_4)).trans hx220_4
            replace hx220_5:=(HB.out.cell (World.block_lt_of_cell? w _ hx220_5)).trans hx220_5
            replace hx220_6:=(HB.out.cell (World.block_lt_of_cell? w _ hx220_6)).trans hx220_6
            have HR220_2:=Aside0.mk hi220_2;have HC220_2:=Aside0.mk hl220_2;clear hi220_2 hl220_2;replace p220:=eq_true p220
            replace q220:=eq_true q220
            try go_wp2_with (first|((with_reducible refine gate_dst (N:=4) rfl ?_);refine box_event ?hg (N:=4) ?hd (cs:=#[.int .i64 0,.int .i64 0,.slice none 0 0,.int .i64 0,.int .i64 0,.int .i64 0,.int .i64 0]) (t:=94) ?hr ?_;(case hd => rfl);(case hg => rfl);(case hr => first|(go_simp;done)|(go_simp;rfl));intro gb221 hg w39 hbox hb;have n0_:=Aside0.mk (below_step (by repeat (first|(with_reducible first|exact HB.out|apply below_alloc|apply pw_below_drewN|apply below_drew1)|exact HB.out)) hb);have n1_:=Aside0.mk (hbox);have n2_:=Aside0.mk ((by rw [hg];exact (below_size (by repeat (first|(with_reducible first|exact HB.out|apply below_alloc|apply pw_below_drewN|apply below_drew1)|exact HB.out))) : w.heap.size ≤ gb221));have n3_:=Aside0.mk ((by rw [hg];exact (below_size (by repeat (first|(with_reducible first|exact HB.out|apply below_alloc|apply pw_below_drewN|apply below_drew1)|exact HB.out))) : w.heap.size ≤ gb221));clear HB;have HB:=n0_;have BK221:=n1_;have GW221:=n2_;have GE221:=n3_;clear n0_ n1_ n2_ n3_;clear hb hbox hg;have hcz40_0 : w39.cell? ⟨gb221,0,none⟩ = some (.int .i64 0):=(blk_cell BK221.out 0).trans rfl;have hcz40_1 : w39.cell? ⟨gb221,1,none⟩ = some (.int .i64 0):=(blk_cell BK221.out 1).trans rfl;have hcz40_2 : w39.cell? ⟨gb221,2,none⟩ = some (.slice none 0 0):=(blk_cell BK221.out 2).trans rfl;have hcz40_3 : w39.cell? ⟨gb221,3,none⟩ = some (.int .i64 0):=(blk_cell BK221.out 3).trans rfl;have hcz40_4 : w39.cell? ⟨gb221,4,none⟩ = some (.int .i64 0):=(blk_cell BK221.out 4).trans rfl;have hcz40_5 : w39.cell? ⟨gb221,5,none⟩ = some (.int .i64 0):=(blk_cell BK221.out 5).trans rfl;have hcz40_6 : w39.cell? ⟨gb221,6,none⟩ = some (.int .i64 0):=(blk_cell BK221.out 6).trans rfl;have hfz40_0:=blk_frozen BK221.out 0;have hfz40_1:=blk_frozen BK221.out 1;have hfz40_2:=blk_frozen BK221.out 2;have hfz40_3:=blk_frozen BK221.out 3;have hfz40_4:=blk_frozen BK221.out 4;have hfz40_5:=blk_frozen BK221.out 5;have hfz40_6:=blk_frozen BK221.out 6))
            have n0_ : Aside0 ((((((((w39.setCell ⟨gb221,0,none⟩ (.int .i64 ((rd_T94 l0 x10_1).f0))).setCell ⟨gb221,1,none⟩ (.int .i64 ((rd_T94 l0 x10_1).f1.f0))).setCell ⟨gb221,2,none⟩ (.slice A220_2 ((rd_T94 l0 x10_1).f1.f1).length c220_2)).setCell ⟨gb221,3,none⟩ (.int .i64 ((rd_T94 l0 x10_1).f1.f2.f0))).setCell ⟨gb221,4,none⟩ (.int .i64 ((rd_T94 l0 x10_1).f1.f2.f1))).setCell ⟨gb221,5,none⟩ (.int .i64 ((rd_T94 l0 x10_1).f1.f2.f2))).setCell ⟨gb221,6,none⟩ (.int .i64 ((rd_T94 l0 x10_1).f2))).heap[gb221]? = some (.cells #[.int .i64 ((rd_T94 l0 x10_1).f0),.int .i64 ((rd_T94 l0 x10_1).f1.f0),.slice A220_2 ((rd_T94 l0 x10_1).f1.f1).length c220_2,.int .i64 ((rd_T94 l0 x10_1).f1.f2.f0),.int .i64 ((rd_T94 l0 x10_1).f1.f2.f1),.int .i64 ((rd_T94 l0 x10_1).f1.f2.f2),.int .i64 ((rd_T94 l0 x10_1).f2)] 94 (0,0))):=⟨by (with_reducible repeat (first|refine blk_drewN ?_ _|refine blk_drew ?_|refine blk_alloc ?_ _));refine blk_put (cs:=#[.int .i64 ((rd_T94 l0 x10_1).f0),.int .i64 ((rd_T94 l0 x10_1).f1.f0),.slice A220_2 ((rd_T94 l0 x10_1).f1.f1).length c220_2,.int .i64 ((rd_T94 l0 x10_1).f1.f2.f0),.int .i64 ((rd_T94 l0 x10_1).f1.f2.f1),.int .i64 ((rd_T94 l0 x10_1).f1.f2.f2),.int .i64 0]) ?_ 6 _ rfl;(with_reducible repeat (first|refine blk_drewN ?_ _|refine blk_drew ?_|refine blk_alloc ?_ _));refine blk_put (cs:=#[.int .i64 ((rd_T94 l0 x10_1).f0),.int .i64 ((rd_T94 l0 x10_1).f1.f0),.slice A220_2 ((rd_T94 l0 x10_1).f1.f1).length c220_2,.int .i64 ((rd_T94 l0 x10_1).f1.f2.f0),.int .i64 ((rd_T94 l0 x10_1).f1.f2.f1),.int .i64 0,.int .i64 0]) ?_ 5 _ rfl;(with_reducible repeat (first|refine blk_drewN ?_ _|refine blk_drew ?_|refine blk_alloc ?_ _));refine blk_put (cs:=#[.int .i64 ((rd_T94 l0 x10_1).f0),.int .i64 ((rd_T94 l0 x10_1).f1.f0),.slice A220_2 ((rd_T94 l0 x10_1).f1.f1).length c220_2,.int .i64 ((rd_T94 l0 x10_1).f1.f2.f0),.int .i64 0,.int .i64 0,.int .i64 0]) ?_ 4 _ rfl;(with_reducible repeat (first|refine blk_drewN ?_ _|refine blk_drew ?_|refine blk_alloc ?_ _));refine blk_put (cs:=#[.int .i64 ((rd_T94 l0 x10_1).f0),.int .i64 ((rd_T94 l0 x10_1).f1.f0),.slice A220_2 ((rd_T94 l0 x10_1).f1.f1).length c220_2,.int .i64 0,.int .i64 0,.int .i64 0,.int .i64 0]) ?_ 3 _ rfl;(with_reducible repeat (first|refine blk_drewN ?_ _|refine blk_drew ?_|refine blk_alloc ?_ _));refine blk_put (cs:=#[.int .i64 ((rd_T94 l0 x10_1).f0),.int .i64 ((rd_T94 l0 x10_1).f1.f0),.slice none 0 0,.int .i64 0,.int .i64 0,.int .i64 0,.int .i64 0]) ?_ 2 _ rfl;(with_reducible repeat (first|refine blk_drewN ?_ _|refine blk_drew ?_|refine blk_alloc ?_ _));refine blk_put (cs:=#[.int .i64 ((rd_T94 l0 x10_1).f0),.int .i64 0,.slice none 0 0,.int .i64 0,.int .i64 0,.int .i64 0,.int .i64 0]) ?_ 1 _ rfl;(with_reducible repeat (first|refine blk_drewN ?_ _|refine blk_drew ?_|refine blk_alloc ?_ _));refine blk_put (cs:=#[.int .i64 0,.int .i64 0,.slice none 0 0,.int .i64 0,.int .i64 0,.int .i64 0,.int .i64 0]) ?_ 0 _ rfl;(with_reducible repeat (first|refine blk_drewN ?_ _|refine blk_drew ?_|refine blk_alloc ?_ _));exact BK221.out⟩
            have n1_ : Aside0 (Below w.heap.size w (((((((w39.setCell ⟨gb221,0,none⟩ (.int .i64 ((rd_T94 l0 x10_1).f0))).setCell ⟨gb221,1,none⟩ (.int .i64 ((rd_T94 l0 x10_1).f1.f0))).setCell ⟨gb221,2,none⟩ (.slice A220_2 ((rd_T94 l0 x10_1).f1.f1).length c220_2)).setCell ⟨gb221,3,none⟩ (.int .i64 ((rd_T94 l0 x10_1).f1.f2.f0))).setCell ⟨gb221,4,none⟩ (.int .i64 ((rd_T94 l0 x10_1).f1.f2.f1))).setCell ⟨gb221,5,none⟩ (.int .i64 ((rd_T94 l0 x10_1).f1.f2.f2))).setCell ⟨gb221,6,none⟩ (.int .i64 ((rd_T94 l0 x10_1).f2)))):=⟨by repeat (first|(with_reducible first|exact HB.out|apply below_alloc|apply pw_below_drewN|apply below_drew1|refine below_set ?_ GE221.out)|exact HB.out)⟩
            (try clear BK221);(try clear HB);generalize (((((((w39.setCell ⟨gb221,0,none⟩ (.int .i64 ((rd_T94 l0 x10_1).f0))).setCell ⟨gb221,1,none⟩ (.int .i64 ((rd_T94 l0 x10_1).f1.f0))).setCell ⟨gb221,2,none⟩ (.slice A220_2 ((rd_T94 l0 x10_1).f1.f1).length c220_2)).setCell ⟨gb221,3,none⟩ (.int .i64 ((rd_T94 l0 x10_1).f1.f2.f0))).setCell ⟨gb221,4,none⟩ (.int .i64 ((rd_T94 l0 x10_1).f1.f2.f1))).setCell ⟨gb221,5,none⟩ (.int .i64 ((rd_T94 l0 x10_1).f1.f2.f2))).setCell ⟨gb221,6,none⟩ (.int .i64 ((rd_T94 l0 x10_1).f2))) = w41 at n0_ n1_ ⊢
            have BK221:=n0_;have HB:=n1_;clear n0_ n1_;have n0_:=Aside0.mk (blk_drew BK221.out)
            have n1_:=Aside0.mk (below_drew1 HB.out)
            clear BK221;clear HB;have BK221:=n0_;have HB:=n1_;clear n0_ n1_;have p222 : 0 ≤ ((ji7) : Int):=of_decide_eq_true (by first|(with_reducible assumption)|assumption)
            have q222 : (ji7) < (l0.length : Int):=of_decide_eq_true (by first|(with_reducible assumption)|assumption)
            obtain ⟨ad222,A222_2,c222_2,e222,hx222_0,hx222_1,hx222_2,hx222_3,hx222_4,hx222_5,hx222_6,hl222_2,hi222_2⟩:=at_T94 HR0.out (ji7) p222 q222
            have hw222_6:=hx222_6;have hw222_5:=hx222_5;have hw222_4:=hx222_4;have hw222_3:=hx222_3;have hw222_2:=hx222_2;have hw222_1:=hx222_1;have hw222_0:=hx222_0;obtain rfl : ad220 = ad222:=(by injection e222)
            replace hx222_0:=(HB.out.cell (World.block_lt_of_cell? w _ hx222_0)).trans hx222_0
            replace hx222_1:=(HB.out.cell (World.block_lt_of_cell? w _ hx222_1)).trans hx222_1
            replace hx222_2:=(HB.out.cell (World.block_lt_of_cell? w _ hx222_2)).trans hx222_2
            replace hx222_3:=(HB.out.cell (World.block_lt_of_cell? w _ hx222_3)).trans hx222_3
            replace hx222_4:=(HB.out.cell (World.block_lt_of_cell? w _ hx222_4)).trans hx222_4
            replace hx222_5:=(HB.out.cell (World.block_lt_of_cell? w _ hx222_5)).trans hx222_5
            replace hx222_6:=(HB.out.cell (World.block_lt_of_cell? w _ hx222_6)).trans hx222_6
            have HR222_2:=Aside0.mk hi222_2;have HC222_2:=Aside0.mk hl222_2;clear hi222_2 hl222_2;replace p222:=eq_true p222
            replace q222:=eq_true q222
            refine start_ (n:=33) (S:=fun w' => w'.cell? ⟨gb221,0,none⟩ = some (.int .i64 ((rd_T94 l0 x10_1).f0)) ∧ w'.cell? ⟨gb221,1,none⟩ = some (.int .i64 ((rd_T94 l0 x10_1).f1.f0)) ∧ w'.cell? ⟨gb221,2,none⟩ = some (.slice A220_2 ((rd_T94 l0 x10_1).f1.f1).length c220_2) ∧ w'.cell? ⟨gb221,3,none⟩ = some (.int .i64 ((rd_T94 l0 x10_1).f1.f2.f0)) ∧ w'.cell? ⟨gb221,4,none⟩ = some (.int .i64 ((rd_T94 l0 x10_1).f1.f2.f1)) ∧ w'.cell? ⟨gb221,5,none⟩ = some (.int .i64 ((rd_T94 l0 x10_1).f1.f2.f2)) ∧ w'.cell? ⟨gb221,6,none⟩ = some (.int .i64 ((rd_T94 l0 x10_1).f2)) ∧ w'.cell? (ad220.add (((ji7)).toNat * 7)) = some (.int .i64 ((rd_T94 l0 (ji7)).f0)) ∧ w'.cell? ⟨(ad220.add (((ji7)).toNat * 7)).block,(ad220.add (((ji7)).toNat * 7)).off + 1,none⟩ = some (.int .i64 ((rd_T94 l0 (ji7)).f1.f0)) ∧ w'.cell? ⟨(ad220.add (((ji7)).toNat * 7)).block,(ad220.add (((ji7)).toNat * 7)).off + 2,none⟩ = some (.slice A222_2 ((rd_T94 l0 (ji7)).f1.f1).length c222_2) ∧ w'.cell? ⟨(ad220.add (((ji7)).toNat * 7)).block,(ad220.add (((ji7)).toNat * 7)).off + 3,none⟩ = some (.int .i64 ((rd_T94 l0 (ji7)).f1.f2.f0)) ∧ w'.cell? ⟨(ad220.add (((ji7)).toNat * 7)).block,(ad220.add (((ji7)).toNat * 7)).off + 4,none⟩ = some (.int .i64 ((rd_T94 l0 (ji7)).f1.f2.f1)) ∧ w'.cell? ⟨(ad220.add (((ji7)).toNat * 7)).block,(ad220.add (((ji7)).toNat * 7)).off + 5,none⟩ = some (.int .i64 ((rd_T94 l0 (ji7)).f1.f2.f2)) ∧ w'.cell? ⟨(ad220.add (((ji7)).toNat * 7)).block,(ad220.add (((ji7)).toNat * 7)).off + 6,none⟩ = some (.int .i64 ((rd_T94 l0 (ji7)).f2))) (ds:=[]) q0_ (by kernel_rfl) rfl rfl ⟨(blk_cell BK221.out 0).trans rfl,(blk_cell BK221.out 1).trans rfl,(blk_cell BK221.out 2).trans rfl,(blk_cell BK221.out 3).trans rfl,(blk_cell BK221.out 4).trans rfl,(blk_cell BK221.out 5).trans rfl,(blk_cell BK221.out 6).trans rfl,((HB.out.cell (World.block_lt_of_cell? w _ hw222_0)).trans hw222_0),((HB.out.cell (World.block_lt_of_cell? w _ hw222_1)).trans hw222_1),((HB.out.cell (World.block_lt_of_cell? w _ hw222_2)).trans hw222_2),((HB.out.cell (World.block_lt_of_cell? w _ hw222_3)).trans hw222_3),((HB.out.cell (World.block_lt_of_cell? w _ hw222_4)).trans hw222_4),((HB.out.cell (World.block_lt_of_cell? w _ hw222_5)).trans hw222_5),((HB.out.cell (World.block_lt_of_cell? w _ hw222_6)).trans hw222_6)⟩ (fun hHeld => ?_);refine with_tabW impl_IsStore.tab6 impl_IsStore.bits6 (fun HT_ HW_ => ?_)
            generalize w41.drew = w42 at BK221 HB HR222_2 hx222_0 hx222_1 hx222_2 hx222_3 hx222_4 hx222_5 hx222_6 hHeld ⊢
            refine pure_ (i:=0) (N:=some 15) (v:=?_) (a':=?_) q1_ rfl rfl (any_of HT_.out (by kernel_rfl)) (fun _ _ _ h => h) (Or.inl ⟨by rfl,?_⟩) ?_ ?_
            rotate_left
            ·intro w';go_simp;with_reducible rfl
            rotate_left
            ·simp only [Act.put,List.setIfInBounds_toArray,List.set_cons_zero,List.set_cons_succ,i64_w,i32_w]
             rfl
            refine pure_ (i:=1) (N:=some 16) (v:=?_) (a':=?_) q2_ rfl rfl (any_of HT_.out (by kernel_rfl)) (fun _ _ _ h => h) (Or.inl ⟨by rfl,?_⟩) ?_ ?_
            rotate_left
            ·intro w';go_simp;with_reducible rfl
            rotate_left
            ·simp only [Act.put,List.setIfInBounds_toArray,List.set_cons_zero,List.set_cons_succ,i64_w,i32_w]
             rfl
            refine pure_ (i:=2) (N:=some 17) (v:=?_) (a':=?_) q3_ rfl rfl (any_of HT_.out (by kernel_rfl)) (fun _ _ _ h => h) (Or.inl ⟨by rfl,?_⟩) ?_ ?_
            rotate_left
            ·intro w';go_simp;with_reducible rfl
            rotate_left
            ·simp only [Act.put,List.setIfInBounds_toArray,List.set_cons_zero,List.set_cons_succ,i64_w,i32_w]
             rfl
            refine pure_ (i:=3) (N:=some 18) (v:=?_) (a':=?_) q4_ rfl rfl (any_of HT_.out (by kernel_rfl)) (fun _ _ _ h => h) (Or.inl ⟨by rfl,?_⟩) ?_ ?_
            rotate_left
            ·intro w';go_simp;with_reducible rfl
            rotate_left
            ·simp only [Act.put,List.setIfInBounds_toArray,List.set_cons_zero,List.set_cons_succ,i64_w,i32_w]
             rfl
            refine pure_ (i:=4) (N:=some 19) (v:=?_) (a':=?_) q5_ rfl rfl (any_of HT_.out (by kernel_rfl)) (fun _ _ _ h => h) (Or.inl ⟨by rfl,?_⟩) ?_ ?_
            rotate_left
            ·intro w';go_simp;with_reducible rfl
            rotate_left
            ·simp only [Act.put,List.setIfInBounds_toArray,List.set_cons_zero,List.set_cons_succ,i64_w,i32_w]
             rfl
            refine pure_ (i:=5) (N:=some 20) (v:=?_) (a':=?_) q6_ rfl rfl (any_of HT_.out (by kernel_rfl)) (fun _ _ _ h => h) (Or.inl ⟨by rfl,?_⟩) ?_ ?_
            rotate_left
            ·intro w';go_simp;with_reducible rfl
            rotate_left
            ·simp only [Act.put,List.setIfInBounds_toArray,List.set_cons_zero,List.set_cons_succ,i64_w,i32_w]
             rfl
            refine pure_ (i:=6) (N:=some 21) (v:=?_) (a':=?_) q7_ rfl rfl (any_of HT_.out (by kernel_rfl)) (fun _ _ _ h => h) (Or.inl ⟨by rfl,?_⟩) ?_ ?_
            rotate_left
            ·intro w';go_simp;with_reducible rfl
            rotate_left
            ·simp only [Act.put,List.setIfInBounds_toArray,List.set_cons_zero,List.set_cons_succ,i64_w,i32_w]
             rfl
            refine pure_ (i:=7) (N:=some 22) (v:=?_) (a':=?_) q8_ rfl rfl (any_of HT_.out (by kernel_rfl)) (fun _ _ _ h => h) (Or.inl ⟨by rfl,?_⟩) ?_ ?_
            rotate_left
            ·intro w';go_simp;with_reducible rfl
            rotate_left
            ·simp only [Act.put,List.setIfInBounds_toArray,List.set_cons_zero,List.set_cons_succ,i64_w,i32_w]
             rfl
            refine pure_ (i:=9) (N:=some 24) (v:=?_) (a':=?_) q9_ rfl rfl (any_of HT_.out (by kernel_rfl)) (fun _ _ _ h => h) (Or.inl ⟨by rfl,?_⟩) ?_ ?_
            rotate_left
            ·intro w';go_simp;with_reducible rfl
            rotate_left
            ·simp only [Act.put,List.setIfInBounds_toArray,List.set_cons_zero,List.set_cons_succ,i64_w,i32_w]
             rfl
            refine take_ (i:=8) (N:=some 23) (v:=?_) (a':=?_) q10_ rfl rfl (take_ofW HT_.out HW_.out (by kernel_rfl)) (fun _ _ _ h => h) (Or.inl ⟨by rfl,?_⟩) hHeld ?_ ?_
            rotate_left
            ·rintro w' ⟨s0,s1,s2,s3,s4,s5,s6,s7,s8,s9,s10,s11,s12,s13⟩
             go_simp;with_reducible rfl
            rotate_left
            ·simp only [Act.put,List.setIfInBounds_toArray,List.set_cons_zero,List.set_cons_succ,i64_w,i32_w]
             rfl
            refine take_ (i:=10) (N:=some 25) (v:=?_) (a':=?_) q11_ rfl rfl (take_ofW HT_.out HW_.out (by kernel_rfl)) (fun _ _ _ h => h) (Or.inl ⟨by rfl,?_⟩) hHeld ?_ ?_
            rotate_left
            ·rintro w' ⟨s0,s1,s2,s3,s4,s5,s6,s7,s8,s9,s10,s11,s12,s13⟩
             go_simp;with_reducible rfl
            rotate_left
            ·simp only [Act.put,List.setIfInBounds_toArray,List.set_cons_zero,List.set_cons_succ,i64_w,i32_w]
             rfl
            refine pure_ (i:=11) (N:=some 26) (v:=?_) (a':=?_) q12_ rfl rfl (any_of HT_.out (by kernel_rfl)) (fun _ _ _ h => h) (Or.inl ⟨by rfl,?_⟩) ?_ ?_
            rotate_left
            ·intro w';go_simp;with_reducible rfl
            rotate_left
            ·simp only [Act.put,List.setIfInBounds_toArray,List.set_cons_zero,List.set_cons_succ,i64_w,i32_w]
             rfl
            refine pure_ (i:=12) (N:=some 27) (v:=?_) (a':=?_) q13_ rfl rfl (any_of HT_.out (by kernel_rfl)) (fun _ _ _ h => h) (Or.inl ⟨by rfl,?_⟩) ?_ ?_
            rotate_left
            ·intro w';go_simp;with_reducible rfl
            rotate_left
            ·simp only [Act.put,List.setIfInBounds_toArray,List.set_cons_zero,List.set_cons_succ,i64_w,i32_w]
             rfl
            refine pure_ (i:=13) (N:=some 28) (v:=?_) (a':=?_) q14_ rfl rfl (any_of HT_.out (by kernel_rfl)) (fun _ _ _ h => h) (Or.inl ⟨by rfl,?_⟩) ?_ ?_
            rotate_left
            ·intro w';go_simp;with_reducible rfl
            rotate_left
            ·simp only [Act.put,List.setIfInBounds_toArray,List.set_cons_zero,List.set_cons_succ,i64_w,i32_w]
             rfl
            refine pure_ (i:=14) (N:=some 29) (v:=?_) (a':=?_) q15_ rfl rfl (any_of HT_.out (by kernel_rfl)) (fun _ _ _ h => h) (Or.inl ⟨by rfl,?_⟩) ?_ ?_
            rotate_left
            ·intro w';go_simp;with_reducible rfl
            rotate_left
            ·simp only [Act.put,List.setIfInBounds_toArray,List.set_cons_zero,List.set_cons_succ,i64_w,i32_w]
             rfl
            refine take_ (i:=15) (N:=some 30) (v:=?_) (a':=?_) q16_ rfl rfl (take_ofW HT_.out HW_.out (by kernel_rfl)) (fun _ _ _ h => h) (Or.inl ⟨by rfl,?_⟩) hHeld ?_ ?_
            rotate_left
            ·rintro w' ⟨s0,s1,s2,s3,s4,s5,s6,s7,s8,s9,s10,s11,s12,s13⟩
             go_simp;with_reducible rfl
            rotate_left
            ·simp only [Act.put,List.setIfInBounds_toArray,List.set_cons_zero,List.set_cons_succ,i64_w,i32_w]
             rfl
            refine one_ (i:=16) (N:=some 31) q17_ rfl rfl (one_of HT_.out (by kernel_rfl)) (by decide) (fun K hK => ?_)
            refine goes_ Try.func71 (by kernel_rfl) rfl #[.agg #[.int .i64 ((rd_T94 l0 x10_1).f1.f0),.slice A220_2 ((rd_T94 l0 x10_1).f1.f1).length c220_2,.int .i64 ((rd_T94 l0 x10_1).f1.f2.f0),.int .i64 ((rd_T94 l0 x10_1).f1.f2.f1),.int .i64 ((rd_T94 l0 x10_1).f1.f2.f2)]] (by rfl) rfl rfl (by (try simp only [List.map_toArray,List.map_cons,List.map_nil]);first|done|rfl|(simp only [List.length_drop,List.length_take];rfl)) ?_
            with_reducible refine (impl_IsResource.calls k1 ((rd_T94 l0 x10_1).f1.f0) _ _ ((rd_T94 l0 x10_1).f1.f1) ((rd_T94 l0 x10_1).f1.f2.f0) ((rd_T94 l0 x10_1).f1.f2.f1) ((rd_T94 l0 x10_1).f1.f2.f2) false _ ?side1 ?side2 A15.out).mono ?_
            (case side1 => repeat (first|exact (Kd.C_below HR220_2.out HB.out)|(with_reducible refine Kd.C_alloc ?_ _)|(with_reducible refine Kd.C_drewN ?_ _)|(with_reducible refine Kd.C_drew ?_)))
            (case side2 => exact HC220_2.out)
            rintro e w43 ⟨rfl,hb⟩
            refine ⟨_,rfl,?_⟩
            have n0_:=Aside0.mk (blk_below (g:=gb221) (o:=.cells #[.int .i64 ((rd_T94 l0 x10_1).f0),.int .i64 ((rd_T94 l0 x10_1).f1.f0),.slice A220_2 ((rd_T94 l0 x10_1).f1.f1).length c220_2,.int .i64 ((rd_T94 l0 x10_1).f1.f2.f0),.int .i64 ((rd_T94 l0 x10_1).f1.f2.f1),.int .i64 ((rd_T94 l0 x10_1).f1.f2.f2),.int .i64 ((rd_T94 l0 x10_1).f2)] 94 (0,0)) (by (with_reducible repeat (first|refine blk_drewN ?_ _|refine blk_drew ?_|refine blk_alloc ?_ _));exact BK221.out) hb)
            have n1_:=Aside0.mk (below_step (by repeat (first|(with_reducible first|exact HB.out|apply below_alloc|apply pw_below_drewN|apply below_drew1|refine below_set ?_ GE221.out)|exact HB.out)) hb)
            clear BK221;clear HB;have BK221:=n0_;have HB:=n1_;clear n0_ n1_;(try clear hb);refine hK.out _ _ ⟨(blk_cell BK221.out 0).trans rfl,(blk_cell BK221.out 1).trans rfl,(blk_cell BK221.out 2).trans rfl,(blk_cell BK221.out 3).trans rfl,(blk_cell BK221.out 4).trans rfl,(blk_cell BK221.out 5).trans rfl,(blk_cell BK221.out 6).trans rfl,((HB.out.cell (World.block_lt_of_cell? w _ hw222_0)).trans hw222_0),((HB.out.cell (World.block_lt_of_cell? w _ hw222_1)).trans hw222_1),((HB.out.cell (World.block_lt_of_cell? w _ hw222_2)).trans hw222_2),((HB.out.cell (World.block_lt_of_cell? w _ hw222_3)).trans hw222_3),((HB.out.cell (World.block_lt_of_cell? w _ hw222_4)).trans hw222_4),((HB.out.cell (World.block_lt_of_cell? w _ hw222_5)).trans hw222_5),((HB.out.cell (World.block_lt_of_cell? w _ hw222_6)).trans hw222_6)⟩ (fun hHeld => ?_)
            clear hK K;refine norm_ (a':=?_) ?_ ?_
            rotate_left
            ·show Act.put _ (some 31) _ = _
             simp only [Act.put,List.setIfInBounds_toArray,List.set_cons_zero,List.set_cons_succ,i64_w,i32_w]
             rfl
            refine pure_ (i:=17) (N:=some 32) (v:=?_) (a':=?_) q18_ rfl rfl (any_of HT_.out (by kernel_rfl)) (fun _ _ _ h => h) (Or.inl ⟨by rfl,?_⟩) ?_ ?_
            rotate_left
            ·intro w';go_simp;with_reducible rfl
            rotate_left
            ·simp only [Act.put,List.setIfInBounds_toArray,List.set_cons_zero,List.set_cons_succ,i64_w,i32_w]
             rfl
            refine pure_ (i:=18) (N:=some 33) (v:=?_) (a':=?_) q19_ rfl rfl (any_of HT_.out (by kernel_rfl)) (fun _ _ _ h => h) (Or.inl ⟨by rfl,?_⟩) ?_ ?_
            rotate_left
            ·intro w';go_simp;with_reducible rfl
            rotate_left
            ·simp only [Act.put,List.setIfInBounds_toArray,List.set_cons_zero,List.set_cons_succ,i64_w,i32_w]
             rfl
            refine pure_ (i:=19) (N:=some 34) (v:=?_) (a':=?_) q20_ rfl rfl (any_of HT_.out (by kernel_rfl)) (fun _ _ _ h => h) (Or.inl ⟨by rfl,?_⟩) ?_ ?_
            rotate_left
            ·intro w';go_simp;with_reducible rfl
            rotate_left
            ·simp only [Act.put,List.setIfInBounds_toArray,List.set_cons_zero,List.set_cons_succ,i64_w,i32_w]
             rfl
            refine pure_ (i:=20) (N:=some 35) (v:=undef) (a':=?_) q21_ rfl rfl (any_of HT_.out (by kernel_rfl)) (fun _ _ _ h => h) (Or.inr ⟨by rfl,rfl⟩) ?_ ?_
            rotate_left
            ·simp only [Act.put,List.setIfInBounds_toArray,List.set_cons_zero,List.set_cons_succ,i64_w,i32_w]
             rfl
            refine pure_ (i:=21) (N:=some 36) (v:=undef) (a':=?_) q22_ rfl rfl (any_of HT_.out (by kernel_rfl)) (fun _ _ _ h => h) (Or.inr ⟨by rfl,rfl⟩) ?_ ?_
            rotate_left
            ·simp only [Act.put,List.setIfInBounds_toArray,List.set_cons_zero,List.set_cons_succ,i64_w,i32_w]
             rfl
            refine pure_ (i:=22) (N:=some 37) (v:=undef) (a':=?_) q23_ rfl rfl (any_of HT_.out (by kernel_rfl)) (fun _ _ _ h => h) (Or.inr ⟨by rfl,rfl⟩) ?_ ?_
            rotate_left
            ·simp only [Act.put,List.setIfInBounds_toArray,List.set_cons_zero,List.set_cons_succ,i64_w,i32_w]
             rfl
            refine pure_ (i:=23) (N:=some 38) (v:=undef) (a':=?_) q24_ rfl rfl (any_of HT_.out (by kernel_rfl)) (fun _ _ _ h => h) (Or.inr ⟨by rfl,rfl⟩) ?_ ?_
            rotate_left
            ·simp only [Act.put,List.setIfInBounds_toArray,List.set_cons_zero,List.set_cons_succ,i64_w,i32_w]
             rfl
            refine pure_ (i:=24) (N:=some 39) (v:=undef) (a':=?_) q25_ rfl rfl (any_of HT_.out (by kernel_rfl)) (fun _ _ _ h => h) (Or.inr ⟨by rfl,rfl⟩) ?_ ?_
            rotate_left
            ·simp only [Act.put,List.setIfInBounds_toArray,List.set_cons_zero,List.set_cons_succ,i64_w,i32_w]
             rfl
            refine pure_ (i:=25) (N:=some 40) (v:=undef) (a':=?_) q26_ rfl rfl (any_of HT_.out (by kernel_rfl)) (fun _ _ _ h => h) (Or.inr ⟨by rfl,rfl⟩) ?_ ?_
            rotate_left
            ·simp only [Act.put,List.setIfInBounds_toArray,List.set_cons_zero,List.set_cons_succ,i64_w,i32_w]
             rfl
            refine pure_ (i:=26) (N:=some 41) (v:=?_) (a':=?_) q27_ rfl rfl (any_of HT_.out (by kernel_rfl)) (fun _ _ _ h => h) (Or.inl ⟨by rfl,?_⟩) ?_ ?_
            rotate_left
            ·intro w';go_simp;with_reducible rfl
            rotate_left
            ·simp only [Act.put,List.setIfInBounds_toArray,List.set_cons_zero,List.set_cons_succ,i64_w,i32_w]
             rfl
            refine pure_ (i:=27) (N:=some 42) (v:=?_) (a':=?_) q28_ rfl rfl (any_of HT_.out (by kernel_rfl)) (fun _ _ _ h => h) (Or.inl ⟨by rfl,?_⟩) ?_ ?_
            rotate_left
            ·intro w';go_simp;with_reducible rfl
            rotate_left
            ·simp only [Act.put,List.setIfInBounds_toArray,List.set_cons_zero,List.set_cons_succ,i64_w,i32_w]
             rfl
            refine pure_ (i:=28) (N:=some 43) (v:=undef) (a':=?_) q29_ rfl rfl (any_of HT_.out (by kernel_rfl)) (fun _ _ _ h => h) (Or.inr ⟨by rfl,rfl⟩) ?_ ?_
            rotate_left
            ·simp only [Act.put,List.setIfInBounds_toArray,List.set_cons_zero,List.set_cons_succ,i64_w,i32_w]
             rfl
            refine pure_ (i:=29) (N:=some 44) (v:=undef) (a':=?_) q30_ rfl rfl (any_of HT_.out (by kernel_rfl)) (fun _ _ _ h => h) (Or.inr ⟨by rfl,rfl⟩) ?_ ?_
            rotate_left
            ·simp only [Act.put,List.setIfInBounds_toArray,List.set_cons_zero,List.set_cons_succ,i64_w,i32_w]
             rfl
            refine pure_ (i:=30) (N:=some 45) (v:=undef) (a':=?_) q31_ rfl rfl (any_of HT_.out (by kernel_rfl)) (fun _ _ _ h => h) (Or.inr ⟨by rfl,rfl⟩) ?_ ?_
            rotate_left
            ·simp only [Act.put,List.setIfInBounds_toArray,List.set_cons_zero,List.set_cons_succ,i64_w,i32_w]
             rfl
            refine pure_ (i:=31) (N:=some 46) (v:=undef) (a':=?_) q32_ rfl rfl (any_of HT_.out (by kernel_rfl)) (fun _ _ _ h => h) (Or.inr ⟨by rfl,rfl⟩) ?_ ?_
            rotate_left
            ·simp only [Act.put,List.setIfInBounds_toArray,List.set_cons_zero,List.set_cons_succ,i64_w,i32_w]
             rfl
            refine pure_ (i:=32) (N:=some 47) (v:=?_) (a':=?_) q33_ rfl rfl (any_of HT_.out (by kernel_rfl)) (fun _ _ _ h => h) (Or.inl ⟨by rfl,?_⟩) ?_ ?_
            rotate_left
            ·intro w';go_simp;with_reducible rfl
            rotate_left
            ·simp only [Act.put,List.setIfInBounds_toArray,List.set_cons_zero,List.set_cons_succ,i64_w,i32_w]
             rfl
            refine done_ (done_of HT_.out (by kernel_rfl)) ?_
            try go_wp2
            go_ret
            exact ⟨by first|rfl|(simp [errW_none,errW_some] <;> rfl)|(simp only [← hji7];first|rfl|(simp [errW_none,errW_some] <;> rfl))|(simp [*,errW_none,errW_some] <;> rfl),by repeat (first|(with_reducible first|exact HB.out|apply below_alloc|apply pw_below_drewN|apply below_drew1|refine below_set ?_ GE221.out)|exact HB.out)⟩
         ·rw [if_neg c9] at H
          exact absurd H (by simp)
        ·rw [if_neg c8] at H
         exact absurd H (by simp)
       ·rw [if_neg c6] at H
        have c6b0 : decide (0 < x10_1) = false:=decide_eq_false c6
        clear c6;replace H:=Option.bind_eq_some_iff.mp H
        obtain ⟨t226,A440,H⟩:=H;replace H : (if t226 = true then ((impl_DigestOf.f k1 ((rd_T94 l0 x10_1).f1.f0) ((rd_T94 l0 x10_1).f1.f1) ((rd_T94 l0 x10_1).f1.f2.f0) ((rd_T94 l0 x10_1).f1.f2.f1) ((rd_T94 l0 x10_1).f1.f2.f2)).bind fun t227 => (if t227 = ((rd_T94 l0 x10_1).f0) then ((impl_InRange.f ((rd_T94 l0 x10_1).f2) 1 1000).bind fun t228 => (if t228 = true then (impl_IsStore.l0 k1 l0 l0 (l0.length : Int) (wrap64 (x10_1 + 1))) else (some false))) else (some false))) else (some false)) = some r:=H
        have A44:=Aside0.mk A440;clear A440;by_cases c45 : t226 = true
        ·subst c45
         have H1 : ((impl_DigestOf.f k1 ((rd_T94 l0 x10_1).f1.f0) ((rd_T94 l0 x10_1).f1.f1) ((rd_T94 l0 x10_1).f1.f2.f0) ((rd_T94 l0 x10_1).f1.f2.f1) ((rd_T94 l0 x10_1).f1.f2.f2)).bind fun t227 => (if t227 = ((rd_T94 l0 x10_1).f0) then ((impl_InRange.f ((rd_T94 l0 x10_1).f2) 1 1000).bind fun t228 => (if t228 = true then (impl_IsStore.l0 k1 l0 l0 (l0.length : Int) (wrap64 (x10_1 + 1))) else (some false))) else (some false))) = some r:=by rw [if_pos rfl] at H;exact H
         clear H;have H:=H1;clear H1;replace H:=Option.bind_eq_some_iff.mp H
         obtain ⟨t227,A460,H⟩:=H;replace H : (if t227 = ((rd_T94 l0 x10_1).f0) then ((impl_InRange.f ((rd_T94 l0 x10_1).f2) 1 1000).bind fun t228 => (if t228 = true then (impl_IsStore.l0 k1 l0 l0 (l0.length : Int) (wrap64 (x10_1 + 1))) else (some false))) else (some false)) = some r:=H
         have A46:=Aside0.mk A460;clear A460;by_cases c47 : t227 = ((rd_T94 l0 x10_1).f0)
         ·rw [if_pos c47] at H
          have c47b0 : (t227 == ((rd_T94 l0 x10_1).f0)) = true:=beq_iff_eq.mpr c47
          have c47b1 : (t227 != ((rd_T94 l0 x10_1).f0)) = false:=bne_eq_false_iff_eq.mpr c47
          clear c47;replace H:=Option.bind_eq_some_iff.mp H
          obtain ⟨t228,A480,H⟩:=H;replace H : (if t228 = true then (impl_IsStore.l0 k1 l0 l0 (l0.length : Int) (wrap64 (x10_1 + 1))) else (some false)) = some r:=H
          have A48:=Aside0.mk A480;clear A480;by_cases c49 : t228 = true
          ·subst c49
           have H1 : (impl_IsStore.l0 k1 l0 l0 (l0.length : Int) (wrap64 (x10_1 + 1))) = some r:=by rw [if_pos rfl] at H;exact H
           clear H;have H:=H1;clear H1;have H':=Aside0.mk H;clear H;have p220 : 0 ≤ (x10_1 : Int):=of_decide_eq_true (by first|(with_reducible assumption)|assumption)
           have q220 : x10_1 < (l0.length : Int):=of_decide_eq_true (by first|(with_reducible assumption)|assumption)
           obtain ⟨ad220,A220_2,c220_2,e220,hx220_0,hx220_1,hx220_2,hx220_3,hx220_4,hx220_5,hx220_6,hl220_2,hi220_2⟩:=at_T94 HR0.out x10_1 p220 q220
           cases e220
           replace hx220_0:=(HB.out.cell (World.block_lt_of_cell? w _ hx220_0)).trans hx220_0
           replace hx220_1:=(HB.out.cell (World.block_lt_of_cell? w _ hx220_1)).trans hx220_1
           replace hx220_2:=(HB.out.cell (World.block_lt_of_cell? w _ hx220_2)).trans hx220_2
           replace hx220_3:=(HB.out.cell (World.block_lt_of_cell? w _ hx220_3)).trans hx220_3
           replace hx220_4:=(HB.out.cell (World.block_lt_of_cell? w _ hx220_4)).trans hx220_4
           replace hx220_5:=(HB.out.cell (World.block_lt_of_cell? w _ hx220_5)).trans hx220_5
           replace hx220_6:=(HB.out.cell (World.block_lt_of_cell? w _ hx220_6)).trans hx220_6
           have HR220_2:=Aside0.mk hi220_2;have HC220_2:=Aside0.mk hl220_2;clear hi220_2 hl220_2;replace p220:=eq_true p220
           replace q220:=eq_true q220
           try go_wp2_with (first|((with_reducible refine gate_dst (N:=4) rfl ?_);refine box_event ?hg (N:=4) ?hd (cs:=#[.int .i64 0,.int .i64 0,.slice none 0 0,.int .i64 0,.int .i64 0,.int .i64 0,.int .i64 0]) (t:=94) ?hr ?_;(case hd => rfl);(case hg => rfl);(case hr => first|(go_simp;done)|(go_simp;rfl));intro gb221 hg w50 hbox hb;have n0_:=Aside0.mk (below_step (by repeat (first|(with_reducible first|exact HB.out|apply below_alloc|apply pw_below_drewN|apply below_drew1)|exact HB.out)) hb);have n1_:=Aside0.mk (hbox);have n2_:=Aside0.mk ((by rw [hg];exact (below_size (by repeat (first|(with_reducible first|exact HB.out|apply below_alloc|apply pw_below_drewN|apply below_drew1)|exact HB.out))) : w.heap.size ≤ gb221));have n3_:=Aside0.mk ((by rw [hg];exact (below_size (by repeat (first|(with_reducible first|exact HB.out|apply below_alloc|apply pw_below_drewN|apply below_drew1)|exact HB.out))) : w.heap.size ≤ gb221));clear HB;have HB:=n0_;have BK221:=n1_;have GW221:=n2_;have GE221:=n3_;clear n0_ n1_ n2_ n3_;clear hb hbox hg;have hcz51_0 : w50.cell? ⟨gb221,0,none⟩ = some (.int .i64 0):=(blk_cell BK221.out 0).trans rfl;have hcz51_1 : w50.cell? ⟨gb221,1,none⟩ = some (.int .i64 0):=(blk_cell BK221.out 1).trans rfl;have hcz51_2 : w50.cell? ⟨gb221,2,none⟩ = some (.slice none 0 0):=(blk_cell BK221.out 2).trans rfl;have hcz51_3 : w50.cell? ⟨gb221,3,none⟩ = some (.int .i64 0):=(blk_cell BK221.out 3).trans rfl;have hcz51_4 : w50.cell? ⟨gb221,4,none⟩ = some (.int .i64 0):=(blk_cell BK221.out 4).trans rfl;have hcz51_5 : w50.cell? ⟨gb221,5,none⟩ = some (.int .i64 0):=(blk_cell BK221.out 5).trans rfl;have hcz51_6 : w50.cell? ⟨gb221,6,none⟩ = some (.int .i64 0):=(blk_cell BK221.out 6).trans rfl;have hfz51_0:=blk_frozen BK221.out 0;have hfz51_1:=blk_frozen BK221.out 1;have hfz51_2:=blk_frozen BK221.out 2;have hfz51_3:=blk_frozen BK221.out 3;have hfz51_4:=blk_frozen BK221.out 4;have hfz51_5:=blk_frozen BK221.out 5;have hfz51_6:=blk_frozen BK221.out 6))
           have n0_ : Aside0 ((((((((w50.setCell ⟨gb221,0,none⟩ (.int .i64 ((rd_T94 l0 x10_1).f0))).setCell ⟨gb221,1,none⟩ (.int .i64 ((rd_T94 l0 x10_1).f1.f0))).setCell ⟨gb221,2,none⟩ (.slice A220_2 ((rd_T94 l0 x10_1).f1.f1).length c220_2)).setCell ⟨gb221,3,none⟩ (.int .i64 ((rd_T94 l0 x10_1).f1.f2.f0))).setCell ⟨gb221,4,none⟩ (.int .i64 ((rd_T94 l0 x10_1).f1.f2.f1))).setCell ⟨gb221,5,none⟩ (.int .i64 ((rd_T94 l0 x10_1).f1.f2.f2))).setCell ⟨gb221,6,none⟩ (.int .i64 ((rd_T94 l0 x10_1).f2))).heap[gb221]? = some (.cells #[.int .i64 ((rd_T94 l0 x10_1).f0),.int .i64 ((rd_T94 l0 x10_1).f1.f0),.slice A220_2 ((rd_T94 l0 x10_1).f1.f1).length c220_2,.int .i64 ((rd_T94 l0 x10_1).f1.f2.f0),.int .i64 ((rd_T94 l0 x10_1).f1.f2.f1),.int .i64 ((rd_T94 l0 x10_1).f1.f2.f2),.int .i64 ((rd_T94 l0 x10_1).f2)] 94 (0,0))):=⟨by (with_reducible repeat (first|refine blk_drewN ?_ _|refine blk_drew ?_|refine blk_alloc ?_ _));refine blk_put (cs:=#[.int .i64 ((rd_T94 l0 x10_1).f0),.int .i64 ((rd_T94 l0 x10_1).f1.f0),.slice A220_2 ((rd_T94 l0 x10_1).f1.f1).length c220_2,.int .i64 ((rd_T94 l0 x10_1).f1.f2.f0),.int .i64 ((rd_T94 l0 x10_1).f1.f2.f1),.int .i64 ((rd_T94 l0 x10_1).f1.f2.f2),.int .i64 0]) ?_ 6 _ rfl;(with_reducible repeat (first|refine blk_drewN ?_ _|refine blk_drew ?_|refine blk_alloc ?_ _));refine blk_put (cs:=#[.int .i64 ((rd_T94 l0 x10_1).f0),.int .i64 ((rd_T94 l0 x10_1).f1.f0),.slice A220_2 ((rd_T94 l0 x10_1).f1.f1).length c220_2,.int .i64 ((rd_T94 l0 x10_1).f1.f2.f0),.int .i64 ((rd_T94 l0 x10_1).f1.f2.f1),.int .i64 0,.int .i64 0]) ?_ 5 _ rfl;(with_reducible repeat (first|refine blk_drewN ?_ _|refine blk_drew ?_|refine blk_alloc ?_ _));refine blk_put (cs:=#[.int .i64 ((rd_T94 l0 x10_1).f0),.int .i64 ((rd_T94 l0 x10_1).f1.f0),.slice A220_2 ((rd_T94 l0 x10_1).f1.f1).length c220_2,.int .i64 ((rd_T94 l0 x10_1).f1.f2.f0),.int .i64 0,.int .i64 0,.int .i64 0]) ?_ 4 _ rfl;(with_reducible repeat (first|refine blk_drewN ?_ _|refine blk_drew ?_|refine blk_alloc ?_ _));refine blk_put (cs:=#[.int .i64 ((rd_T94 l0 x10_1).f0),.int .i64 ((rd_T94 l0 x10_1).f1.f0),.slice A220_2 ((rd_T94 l0 x10_1).f1.f1).length c220_2,.int .i64 0,.int .i64 0,.int .i64 0,.int .i64 0]) ?_ 3 _ rfl;(with_reducible repeat (first|refine blk_drewN ?_ _|refine blk_drew ?_|refine blk_alloc ?_ _));refine blk_put (cs:=#[.int .i64 ((rd_T94 l0 x10_1).f0),.int .i64 ((rd_T94 l0 x10_1).f1.f0),.slice none 0 0,.int .i64 0,.int .i64 0,.int .i64 0,.int .i64 0]) ?_ 2 _ rfl;(with_reducible repeat (first|refine blk_drewN ?_ _|refine blk_drew ?_|refine blk_alloc ?_ _));refine blk_put (cs:=#[.int .i64 ((rd_T94 l0 x10_1).f0),.int .i64 0,.slice none 0 0,.int .i64 0,.int .i64 0,.int .i64 0,.int .i64 0]) ?_ 1 _ rfl;(with_reducible repeat (first|refine blk_drewN ?_ _|refine blk_drew ?_|refine blk_alloc ?_ _));refine blk_put (cs:=#[.int .i64 0,.int .i64 0,.slice none 0 0,.int .i64 0,.int .i64 0,.int .i64 0,.int .i64 0]) ?_ 0 _ rfl;(with_reducible repeat (first|refine blk_drewN ?_ _|refine blk_drew ?_|refine blk_alloc ?_ _));exact BK221.out⟩
           have n1_ : Aside0 (Below w.heap.size w (((((((w50.setCell ⟨gb221,0,none⟩ (.int .i64 ((rd_T94 l0 x10_1).f0))).setCell ⟨gb221,1,none⟩ (.int .i64 ((rd_T94 l0 x10_1).f1.f0))).setCell ⟨gb221,2,none⟩ (.slice A220_2 ((rd_T94 l0 x10_1).f1.f1).length c220_2)).setCell ⟨gb221,3,none⟩ (.int .i64 ((rd_T94 l0 x10_1).f1.f2.f0))).setCell ⟨gb221,4,none⟩ (.int .i64 ((rd_T94 l0 x10_1).f1.f2.f1))).setCell ⟨gb221,5,none⟩ (.int .i64 ((rd_T94 l0 x10_1).f1.f2.f2))).setCell ⟨gb221,6,none⟩ (.int .i64 ((rd_T94 l0 x10_1).f2)))):=⟨by repeat (first|(with_reducible first|exact HB.out|apply below_alloc|apply pw_below_drewN|apply below_drew1|refine below_set ?_ GE221.out)|exact HB.out)⟩
           (try clear BK221);(try clear HB);generalize (((((((w50.setCell ⟨gb221,0,none⟩ (.int .i64 ((rd_T94 l0 x10_1).f0))).setCell ⟨gb221,1,none⟩ (.int .i64 ((rd_T94 l0 x10_1).f1.f0))).setCell ⟨gb221,2,none⟩ (.slice A220_2 ((rd_T94 l0 x10_1).f1.f1).length c220_2)).setCell ⟨gb221,3,none⟩ (.int .i64 ((rd_T94 l0 x10_1).f1.f2.f0))).setCell ⟨gb221,4,none⟩ (.int .i64 ((rd_T94 l0 x10_1).f1.f2.f1))).setCell ⟨gb221,5,none⟩ (.int .i64 ((rd_T94 l0 x10_1).f1.f2.f2))).setCell ⟨gb221,6,none⟩ (.int .i64 ((rd_T94 l0 x10_1).f2))) = w52 at n0_ n1_ ⊢
           have BK221:=n0_;have HB:=n1_;clear n0_ n1_;have n0_:=Aside0.mk (blk_drew BK221.out)
           have n1_:=Aside0.mk (below_drew1 HB.out)
           clear BK221;clear HB;have BK221:=n0_;have HB:=n1_;clear n0_ n1_;refine start_ (n:=33) (S:=fun w' => w'.cell? ⟨gb221,0,none⟩ = some (.int .i64 ((rd_T94 l0 x10_1).f0)) ∧ w'.cell? ⟨gb221,1,none⟩ = some (.int .i64 ((rd_T94 l0 x10_1).f1.f0)) ∧ w'.cell? ⟨gb221,2,none⟩ = some (.slice A220_2 ((rd_T94 l0 x10_1).f1.f1).length c220_2) ∧ w'.cell? ⟨gb221,3,none⟩ = some (.int .i64 ((rd_T94 l0 x10_1).f1.f2.f0)) ∧ w'.cell? ⟨gb221,4,none⟩ = some (.int .i64 ((rd_T94 l0 x10_1).f1.f2.f1)) ∧ w'.cell? ⟨gb221,5,none⟩ = some (.int .i64 ((rd_T94 l0 x10_1).f1.f2.f2)) ∧ w'.cell? ⟨gb221,6,none⟩ = some (.int .i64 ((rd_T94 l0 x10_1).f2))) (ds:=[]) q0_ (by kernel_rfl) rfl rfl ⟨(blk_cell BK221.out 0).trans rfl,(blk_cell BK221.out 1).trans rfl,(blk_cell BK221.out 2).trans rfl,(blk_cell BK221.out 3).trans rfl,(blk_cell BK221.out 4).trans rfl,(blk_cell BK221.out 5).trans rfl,(blk_cell BK221.out 6).trans rfl⟩ (fun hHeld => ?_);refine with_tabW impl_IsStore.tab6 impl_IsStore.bits6 (fun HT_ HW_ => ?_)
           generalize w52.drew = w53 at BK221 HB hHeld ⊢
           refine pure_ (i:=0) (N:=some 15) (v:=?_) (a':=?_) q1_ rfl rfl (any_of HT_.out (by kernel_rfl)) (fun _ _ _ h => h) (Or.inl ⟨by rfl,?_⟩) ?_ ?_
           rotate_left
           ·intro w';go_simp;with_reducible rfl
           rotate_left
           ·simp only [Act.put,List.setIfInBounds_toArray,List.set_cons_zero,List.set_cons_succ,i64_w,i32_w]
            rfl
           refine pure_ (i:=1) (N:=some 16) (v:=?_) (a':=?_) q2_ rfl rfl (any_of HT_.out (by kernel_rfl)) (fun _ _ _ h => h) (Or.inl ⟨by rfl,?_⟩) ?_ ?_
           rotate_left
           ·intro w';go_simp;with_reducible rfl
           rotate_left
           ·simp only [Act.put,List.setIfInBounds_toArray,List.set_cons_zero,List.set_cons_succ,i64_w,i32_w]
            rfl
           refine pure_ (i:=2) (N:=some 17) (v:=?_) (a':=?_) q3_ rfl rfl (any_of HT_.out (by kernel_rfl)) (fun _ _ _ h => h) (Or.inl ⟨by rfl,?_⟩) ?_ ?_
           rotate_left
           ·intro w';go_simp;with_reducible rfl
           rotate_left
           ·simp only [Act.put,List.setIfInBounds_toArray,List.set_cons_zero,List.set_cons_succ,i64_w,i32_w]
            rfl
           refine pure_ (i:=3) (N:=some 18) (v:=undef) (a':=?_) q4_ rfl rfl (any_of HT_.out (by kernel_rfl)) (fun _ _ _ h => h) (Or.inr ⟨by rfl,rfl⟩) ?_ ?_
           rotate_left
           ·simp only [Act.put,List.setIfInBounds_toArray,List.set_cons_zero,List.set_cons_succ,i64_w,i32_w]
            rfl
           refine pure_ (i:=4) (N:=some 19) (v:=undef) (a':=?_) q5_ rfl rfl (any_of HT_.out (by kernel_rfl)) (fun _ _ _ h => h) (Or.inr ⟨by rfl,rfl⟩) ?_ ?_
           rotate_left
           ·simp only [Act.put,List.setIfInBounds_toArray,List.set_cons_zero,List.set_cons_succ,i64_w,i32_w]
            rfl
           refine pure_ (i:=5) (N:=some 20) (v:=undef) (a':=?_) q6_ rfl rfl (any_of HT_.out (by kernel_rfl)) (fun _ _ _ h => h) (Or.inr ⟨by rfl,rfl⟩) ?_ ?_
           rotate_left
           ·simp only [Act.put,List.setIfInBounds_toArray,List.set_cons_zero,List.set_cons_succ,i64_w,i32_w]
            rfl
           refine pure_ (i:=6) (N:=some 21) (v:=undef) (a':=?_) q7_ rfl rfl (any_of HT_.out (by kernel_rfl)) (fun _ _ _ h => h) (Or.inr ⟨by rfl,rfl⟩) ?_ ?_
           rotate_left
           ·simp only [Act.put,List.setIfInBounds_toArray,List.set_cons_zero,List.set_cons_succ,i64_w,i32_w]
            rfl
           refine pure_ (i:=7) (N:=some 22) (v:=undef) (a':=?_) q8_ rfl rfl (any_of HT_.out (by kernel_rfl)) (fun _ _ _ h => h) (Or.inr ⟨by rfl,rfl⟩) ?_ ?_
           rotate_left
           ·simp only [Act.put,List.setIfInBounds_toArray,List.set_cons_zero,List.set_cons_succ,i64_w,i32_w]
            rfl
           refine pure_ (i:=8) (N:=some 23) (v:=undef) (a':=?_) q37_ rfl rfl (any_of HT_.out (by kernel_rfl)) (fun _ _ _ h => h) (Or.inr ⟨by rfl,rfl⟩) ?_ ?_
           rotate_left
           ·simp only [Act.put,List.setIfInBounds_toArray,List.set_cons_zero,List.set_cons_succ,i64_w,i32_w]
            rfl
           refine pure_ (i:=9) (N:=some 24) (v:=undef) (a':=?_) q10_ rfl rfl (any_of HT_.out (by kernel_rfl)) (fun _ _ _ h => h) (Or.inr ⟨by rfl,rfl⟩) ?_ ?_
           rotate_left
           ·simp only [Act.put,List.setIfInBounds_toArray,List.set_cons_zero,List.set_cons_succ,i64_w,i32_w]
            rfl
           refine pure_ (i:=10) (N:=some 25) (v:=undef) (a':=?_) q11_ rfl rfl (any_of HT_.out (by kernel_rfl)) (fun _ _ _ h => h) (Or.inr ⟨by rfl,rfl⟩) ?_ ?_
           rotate_left
           ·simp only [Act.put,List.setIfInBounds_toArray,List.set_cons_zero,List.set_cons_succ,i64_w,i32_w]
            rfl
           refine pure_ (i:=11) (N:=some 26) (v:=undef) (a':=?_) q12_ rfl rfl (any_of HT_.out (by kernel_rfl)) (fun _ _ _ h => h) (Or.inr ⟨by rfl,rfl⟩) ?_ ?_
           rotate_left
           ·simp only [Act.put,List.setIfInBounds_toArray,List.set_cons_zero,List.set_cons_succ,i64_w,i32_w]
            rfl
           refine pure_ (i:=12) (N:=some 27) (v:=?_) (a':=?_) q13_ rfl rfl (any_of HT_.out (by kernel_rfl)) (fun _ _ _ h => h) (Or.inl ⟨by rfl,?_⟩) ?_ ?_
           rotate_left
           ·intro w';go_simp;with_reducible rfl
           rotate_left
           ·simp only [Act.put,List.setIfInBounds_toArray,List.set_cons_zero,List.set_cons_succ,i64_w,i32_w]
            rfl
           refine pure_ (i:=13) (N:=some 28) (v:=?_) (a':=?_) q14_ rfl rfl (any_of HT_.out (by kernel_rfl)) (fun _ _ _ h => h) (Or.inl ⟨by rfl,?_⟩) ?_ ?_
           rotate_left
           ·intro w';go_simp;with_reducible rfl
           rotate_left
           ·simp only [Act.put,List.setIfInBounds_toArray,List.set_cons_zero,List.set_cons_succ,i64_w,i32_w]
            rfl
           refine pure_ (i:=14) (N:=some 29) (v:=?_) (a':=?_) q15_ rfl rfl (any_of HT_.out (by kernel_rfl)) (fun _ _ _ h => h) (Or.inl ⟨by rfl,?_⟩) ?_ ?_
           rotate_left
           ·intro w';go_simp;with_reducible rfl
           rotate_left
           ·simp only [Act.put,List.setIfInBounds_toArray,List.set_cons_zero,List.set_cons_succ,i64_w,i32_w]
            rfl
           refine take_ (i:=15) (N:=some 30) (v:=?_) (a':=?_) q16_ rfl rfl (take_ofW HT_.out HW_.out (by kernel_rfl)) (fun _ _ _ h => h) (Or.inl ⟨by rfl,?_⟩) hHeld ?_ ?_
           rotate_left
           ·rintro w' ⟨s0,s1,s2,s3,s4,s5,s6⟩
            go_simp;with_reducible rfl
           rotate_left
           ·simp only [Act.put,List.setIfInBounds_toArray,List.set_cons_zero,List.set_cons_succ,i64_w,i32_w]
            rfl
           refine one_ (i:=16) (N:=some 31) q17_ rfl rfl (one_of HT_.out (by kernel_rfl)) (by decide) (fun K hK => ?_)
           refine goes_ Try.func71 (by kernel_rfl) rfl #[.agg #[.int .i64 ((rd_T94 l0 x10_1).f1.f0),.slice A220_2 ((rd_T94 l0 x10_1).f1.f1).length c220_2,.int .i64 ((rd_T94 l0 x10_1).f1.f2.f0),.int .i64 ((rd_T94 l0 x10_1).f1.f2.f1),.int .i64 ((rd_T94 l0 x10_1).f1.f2.f2)]] (by rfl) rfl rfl (by (try simp only [List.map_toArray,List.map_cons,List.map_nil]);first|done|rfl|(simp only [List.length_drop,List.length_take];rfl)) ?_
           with_reducible refine (impl_IsResource.calls k1 ((rd_T94 l0 x10_1).f1.f0) _ _ ((rd_T94 l0 x10_1).f1.f1) ((rd_T94 l0 x10_1).f1.f2.f0) ((rd_T94 l0 x10_1).f1.f2.f1) ((rd_T94 l0 x10_1).f1.f2.f2) true _ ?side1 ?side2 A44.out).mono ?_
           (case side1 => repeat (first|exact (Kd.C_below HR220_2.out HB.out)|(with_reducible refine Kd.C_alloc ?_ _)|(with_reducible refine Kd.C_drewN ?_ _)|(with_reducible refine Kd.C_drew ?_)))
           (case side2 => exact HC220_2.out)
           rintro e w54 ⟨rfl,hb⟩
           refine ⟨_,rfl,?_⟩
           have n0_:=Aside0.mk (blk_below (g:=gb221) (o:=.cells #[.int .i64 ((rd_T94 l0 x10_1).f0),.int .i64 ((rd_T94 l0 x10_1).f1.f0),.slice A220_2 ((rd_T94 l0 x10_1).f1.f1).length c220_2,.int .i64 ((rd_T94 l0 x10_1).f1.f2.f0),.int .i64 ((rd_T94 l0 x10_1).f1.f2.f1),.int .i64 ((rd_T94 l0 x10_1).f1.f2.f2),.int .i64 ((rd_T94 l0 x10_1).f2)] 94 (0,0)) (by (with_reducible repeat (first|refine blk_drewN ?_ _|refine blk_drew ?_|refine blk_alloc ?_ _));exact BK221.out) hb)
           have n1_:=Aside0.mk (below_step (by repeat (first|(with_reducible first|exact HB.out|apply below_alloc|apply pw_below_drewN|apply below_drew1|refine below_set ?_ GE221.out)|exact HB.out)) hb)
           clear BK221;clear HB;have BK221:=n0_;have HB:=n1_;clear n0_ n1_;(try clear hb);refine hK.out _ _ ⟨(blk_cell BK221.out 0).trans rfl,(blk_cell BK221.out 1).trans rfl,(blk_cell BK221.out 2).trans rfl,(blk_cell BK221.out 3).trans rfl,(blk_cell BK221.out 4).trans rfl,(blk_cell BK221.out 5).trans rfl,(blk_cell BK221.out 6).trans rfl⟩ (fun hHeld => ?_)
           clear hK K;refine norm_ (a':=?_) ?_ ?_
           rotate_left
           ·show Act.put _ (some 31) _ = _
            simp only [Act.put,List.setIfInBounds_toArray,List.set_cons_zero,List.set_cons_succ,i64_w,i32_w]
            rfl
           refine pure_ (i:=17) (N:=some 32) (v:=?_) (a':=?_) q18_ rfl rfl (any_of HT_.out (by kernel_rfl)) (fun _ _ _ h => h) (Or.inl ⟨by rfl,?_⟩) ?_ ?_
           rotate_left
           ·intro w';go_simp;with_reducible rfl
           rotate_left
           ·simp only [Act.put,List.setIfInBounds_toArray,List.set_cons_zero,List.set_cons_succ,i64_w,i32_w]
            rfl
           refine pure_ (i:=18) (N:=some 33) (v:=?_) (a':=?_) q19_ rfl rfl (any_of HT_.out (by kernel_rfl)) (fun _ _ _ h => h) (Or.inl ⟨by rfl,?_⟩) ?_ ?_
           rotate_left
           ·intro w';go_simp;with_reducible rfl
           rotate_left
           ·simp only [Act.put,List.setIfInBounds_toArray,List.set_cons_zero,List.set_cons_succ,i64_w,i32_w]
            rfl
           refine pure_ (i:=19) (N:=some 34) (v:=?_) (a':=?_) q20_ rfl rfl (any_of HT_.out (by kernel_rfl)) (fun _ _ _ h => h) (Or.inl ⟨by rfl,?_⟩) ?_ ?_
           rotate_left
           ·intro w';go_simp;with_reducible rfl
           rotate_left
           ·simp only [Act.put,List.setIfInBounds_toArray,List.set_cons_zero,List.set_cons_succ,i64_w,i32_w]
            rfl
           refine pure_ (i:=20) (N:=some 35) (v:=?_) (a':=?_) q21_ rfl rfl (any_of HT_.out (by kernel_rfl)) (fun _ _ _ h => h) (Or.inl ⟨by rfl,?_⟩) ?_ ?_
           rotate_left
           ·intro w';go_simp;with_reducible rfl
           rotate_left
           ·simp only [Act.put,List.setIfInBounds_toArray,List.set_cons_zero,List.set_cons_succ,i64_w,i32_w]
            rfl
           refine pure_ (i:=23) (N:=some 38) (v:=?_) (a':=?_) q34_ rfl rfl (any_of HT_.out (by kernel_rfl)) (fun _ _ _ h => h) (Or.inl ⟨by rfl,?_⟩) ?_ ?_
           rotate_left
           ·intro w';go_simp;with_reducible rfl
           rotate_left
           ·simp only [Act.put,List.setIfInBounds_toArray,List.set_cons_zero,List.set_cons_succ,i64_w,i32_w]
            rfl
           refine take_ (i:=21) (N:=some 36) (v:=?_) (a':=?_) q35_ rfl rfl (take_ofW HT_.out HW_.out (by kernel_rfl)) (fun _ _ _ h => h) (Or.inl ⟨by rfl,?_⟩) hHeld ?_ ?_
           rotate_left
           ·rintro w' ⟨s0,s1,s2,s3,s4,s5,s6⟩
            go_simp;with_reducible rfl
           rotate_left
           ·simp only [Act.put,List.setIfInBounds_toArray,List.set_cons_zero,List.set_cons_succ,i64_w,i32_w]
            rfl
           refine take_ (i:=24) (N:=some 39) (v:=?_) (a':=?_) q36_ rfl rfl (take_ofW HT_.out HW_.out (by kernel_rfl)) (fun _ _ _ h => h) (Or.inl ⟨by rfl,?_⟩) hHeld ?_ ?_
           rotate_left
           ·rintro w' ⟨s0,s1,s2,s3,s4,s5,s6⟩
            go_simp;with_reducible rfl
           rotate_left
           ·simp only [Act.put,List.setIfInBounds_toArray,List.set_cons_zero,List.set_cons_succ,i64_w,i32_w]
            rfl
           refine one_ (i:=22) (N:=some 37) q25_ rfl rfl (one_of HT_.out (by kernel_rfl)) (by decide) (fun K hK => ?_)
           refine goes_ Try.func72 (by kernel_rfl) rfl #[.agg #[.int .i64 ((rd_T94 l0 x10_1).f1.f0),.slice A220_2 ((rd_T94 l0 x10_1).f1.f1).length c220_2,.int .i64 ((rd_T94 l0 x10_1).f1.f2.f0),.int .i64 ((rd_T94 l0 x10_1).f1.f2.f1),.int .i64 ((rd_T94 l0 x10_1).f1.f2.f2)]] (by rfl) rfl rfl (by (try simp only [List.map_toArray,List.map_cons,List.map_nil]);first|done|rfl|(simp only [List.length_drop,List.length_take];rfl)) ?_
           with_reducible refine (impl_DigestOf.calls k1 ((rd_T94 l0 x10_1).f1.f0) _ _ ((rd_T94 l0 x10_1).f1.f1) ((rd_T94 l0 x10_1).f1.f2.f0) ((rd_T94 l0 x10_1).f1.f2.f1) ((rd_T94 l0 x10_1).f1.f2.f2) t227 _ ?side1 ?side2 A46.out).mono ?_
           (case side1 => repeat (first|exact (Kd.C_below HR220_2.out HB.out)|(with_reducible refine Kd.C_alloc ?_ _)|(with_reducible refine Kd.C_drewN ?_ _)|(with_reducible refine Kd.C_drew ?_)))
           (case side2 => exact HC220_2.out)
           rintro e w55 ⟨rfl,hb⟩
           refine ⟨_,rfl,?_⟩
           have n0_:=Aside0.mk (blk_below (g:=gb221) (o:=.cells #[.int .i64 ((rd_T94 l0 x10_1).f0),.int .i64 ((rd_T94 l0 x10_1).f1.f0),.slice A220_2 ((rd_T94 l0 x10_1).f1.f1).length c220_2,.int .i64 ((rd_T94 l0 x10_1).f1.f2.f0),.int .i64 ((rd_T94 l0 x10_1).f1.f2.f1),.int .i64 ((rd_T94 l0 x10_1).f1.f2.f2),.int .i64 ((rd_T94 l0 x10_1).f2)] 94 (0,0)) (by (with_reducible repeat (first|refine blk_drewN ?_ _|refine blk_drew ?_|refine blk_alloc ?_ _));exact BK221.out) hb)
           have n1_:=Aside0.mk (below_step (by repeat (first|(with_reducible first|exact HB.out|apply below_alloc|apply pw_below_drewN|apply below_drew1|refine below_set ?_ GE221.out)|exact HB.out)) hb)
           clear BK221;clear HB;have BK221:=n0_;have HB:=n1_;clear n0_ n1_;(try clear hb);refine hK.out _ _ ⟨(blk_cell BK221.out 0).trans rfl,(blk_cell BK221.out 1).trans rfl,(blk_cell BK221.out 2).trans rfl,(blk_cell BK221.out 3).trans rfl,(blk_cell BK221.out 4).trans rfl,(blk_cell BK221.out 5).trans rfl,(blk_cell BK221.out 6).trans rfl⟩ (fun hHeld => ?_)
           clear hK K;refine norm_ (a':=?_) ?_ ?_
           rotate_left
           ·show Act.put _ (some 37) _ = _
            simp only [Act.put,List.setIfInBounds_toArray,List.set_cons_zero,List.set_cons_succ,i64_w,i32_w]
            rfl
           refine pure_ (i:=25) (N:=some 40) (v:=?_) (a':=?_) q26_ rfl rfl (any_of HT_.out (by kernel_rfl)) (fun _ _ _ h => h) (Or.inl ⟨by rfl,?_⟩) ?_ ?_
           rotate_left
           ·intro w';go_simp;with_reducible rfl
           rotate_left
           ·simp only [Act.put,List.setIfInBounds_toArray,List.set_cons_zero,List.set_cons_succ,i64_w,i32_w]
            rfl
           refine pure_ (i:=26) (N:=some 41) (v:=?_) (a':=?_) q27_ rfl rfl (any_of HT_.out (by kernel_rfl)) (fun _ _ _ h => h) (Or.inl ⟨by rfl,?_⟩) ?_ ?_
           rotate_left
           ·intro w';go_simp;with_reducible rfl
           rotate_left
           ·simp only [Act.put,List.setIfInBounds_toArray,List.set_cons_zero,List.set_cons_succ,i64_w,i32_w]
            rfl
           refine pure_ (i:=27) (N:=some 42) (v:=?_) (a':=?_) q28_ rfl rfl (any_of HT_.out (by kernel_rfl)) (fun _ _ _ h => h) (Or.inl ⟨by rfl,?_⟩) ?_ ?_
           rotate_left
           ·intro w';go_simp;with_reducible rfl
           rotate_left
           ·simp only [Act.put,List.setIfInBounds_toArray,List.set_cons_zero,List.set_cons_succ,i64_w,i32_w]
            rfl
           refine pure_ (i:=28) (N:=some 43) (v:=?_) (a':=?_) q29_ rfl rfl (any_of HT_.out (by kernel_rfl)) (fun _ _ _ h => h) (Or.inl ⟨by rfl,?_⟩) ?_ ?_
           rotate_left
           ·intro w';go_simp;with_reducible rfl
           rotate_left
           ·simp only [Act.put,List.setIfInBounds_toArray,List.set_cons_zero,List.set_cons_succ,i64_w,i32_w]
            rfl
           refine take_ (i:=29) (N:=some 44) (v:=?_) (a':=?_) q30_ rfl rfl (take_ofW HT_.out HW_.out (by kernel_rfl)) (fun _ _ _ h => h) (Or.inl ⟨by rfl,?_⟩) hHeld ?_ ?_
           rotate_left
           ·rintro w' ⟨s0,s1,s2,s3,s4,s5,s6⟩
            go_simp;with_reducible rfl
           rotate_left
           ·simp only [Act.put,List.setIfInBounds_toArray,List.set_cons_zero,List.set_cons_succ,i64_w,i32_w]
            rfl
           refine one_ (i:=30) (N:=some 45) q31_ rfl rfl (one_of HT_.out (by kernel_rfl)) (by decide) (fun K hK => ?_)
           refine goes_ Try.func62 (by kernel_rfl) rfl #[.int .i64 ((rd_T94 l0 x10_1).f2),.int .i64 1,.int .i64 1000] (by rfl) rfl rfl (by (try simp only [List.map_toArray,List.map_cons,List.map_nil]);first|done|rfl|(simp only [List.length_drop,List.length_take];rfl)) ?_
           with_reducible refine (impl_InRange.calls ((rd_T94 l0 x10_1).f2) 1 1000 true _ A48.out).mono ?_
           rintro e w' ⟨rfl,⟨nd,rfl⟩⟩
           refine ⟨_,rfl,?_⟩
           refine hK.out _ _ ⟨(blk_cell BK221.out 0).trans rfl,(blk_cell BK221.out 1).trans rfl,(blk_cell BK221.out 2).trans rfl,(blk_cell BK221.out 3).trans rfl,(blk_cell BK221.out 4).trans rfl,(blk_cell BK221.out 5).trans rfl,(blk_cell BK221.out 6).trans rfl⟩ (fun hHeld => ?_)
           clear hK K;refine norm_ (a':=?_) ?_ ?_
           rotate_left
           ·show Act.put _ (some 45) _ = _
            simp only [Act.put,List.setIfInBounds_toArray,List.set_cons_zero,List.set_cons_succ,i64_w,i32_w]
            rfl
           refine pure_ (i:=31) (N:=some 46) (v:=?_) (a':=?_) q32_ rfl rfl (any_of HT_.out (by kernel_rfl)) (fun _ _ _ h => h) (Or.inl ⟨by rfl,?_⟩) ?_ ?_
           rotate_left
           ·intro w';go_simp;with_reducible rfl
           rotate_left
           ·simp only [Act.put,List.setIfInBounds_toArray,List.set_cons_zero,List.set_cons_succ,i64_w,i32_w]
            rfl
           refine pure_ (i:=32) (N:=some 47) (v:=?_) (a':=?_) q33_ rfl rfl (any_of HT_.out (by kernel_rfl)) (fun _ _ _ h => h) (Or.inl ⟨by rfl,?_⟩) ?_ ?_
           rotate_left
           ·intro w';go_simp;with_reducible rfl
           rotate_left
           ·simp only [Act.put,List.setIfInBounds_toArray,List.set_cons_zero,List.set_cons_succ,i64_w,i32_w]
            rfl
           refine done_ (done_of HT_.out (by kernel_rfl)) ?_
           try go_wp2
           go_roundg k1
           case measure => have:=HK1.out;omega
           case rel => exact ⟨(wrap64 (x10_1 + 1)),(by first|rfl|(simp;done)|(simp [*];done)),H',⟨by have:=HK1.out;omega⟩,⟨by repeat (first|(with_reducible first|exact HB.out|apply below_alloc|apply pw_below_drewN|apply below_drew1|refine below_set ?_ GE221.out)|exact HB.out)⟩⟩
          ·replace c49:=Bool.eq_false_iff.mpr c49
           subst c49
           have H1 : (some false) = some r:=by rw [if_neg (show ¬ (false = true) by decide)] at H;exact H
           clear H;have H:=H1;clear H1;obtain rfl:=Option.some.inj H
           have p220 : 0 ≤ (x10_1 : Int):=of_decide_eq_true (by first|(with_reducible assumption)|assumption)
           have q220 : x10_1 < (l0.length : Int):=of_decide_eq_true (by first|(with_reducible assumption)|assumption)
           obtain ⟨ad220,A220_2,c220_2,e220,hx220_0,hx220_1,hx220_2,hx220_3,hx220_4,hx220_5,hx220_6,hl220_2,hi220_2⟩:=at_T94 HR0.out x10_1 p220 q220
           cases e220
           replace hx220_0:=(HB.out.cell (World.block_lt_of_cell? w _ hx220_0)).trans hx220_0
           replace hx220_1:=(HB.out.cell (World.block_lt_of_cell? w _ hx220_1)).trans hx220_1
           replace hx220_2:=(HB.out.cell (World.block_lt_of_cell? w _ hx220_2)).trans hx220_2
           replace hx220_3:=(HB.out.cell (World.block_lt_of_cell? w _ hx220_3)).trans hx220_3
           replace hx220_4:=(HB.out.cell (World.block_lt_of_cell? w _ hx220_4)).trans hx220_4
           replace hx220_5:=(HB.out.cell (World.block_lt_of_cell? w _ hx220_5)).trans hx220_5
           replace hx220_6:=(HB.out.cell (World.block_lt_of_cell? w _ hx220_6)).trans hx220_6
           have HR220_2:=Aside0.mk hi220_2;have HC220_2:=Aside0.mk hl220_2;clear hi220_2 hl220_2;replace p220:=eq_true p220
           replace q220:=eq_true q220
           try go_wp2_with (first|((with_reducible refine gate_dst (N:=4) rfl ?_);refine box_event ?hg (N:=4) ?hd (cs:=#[.int .i64 0,.int .i64 0,.slice none 0 0,.int .i64 0,.int .i64 0,.int .i64 0,.int .i64 0]) (t:=94) ?hr ?_;(case hd => rfl);(case hg => rfl);(case hr => first|(go_simp;done)|(go_simp;rfl));intro gb221 hg w56 hbox hb;have n0_:=Aside0.mk (below_step (by repeat (first|(with_reducible first|exact HB.out|apply below_alloc|apply pw_below_drewN|apply below_drew1)|exact HB.out)) hb);have n1_:=Aside0.mk (hbox);have n2_:=Aside0.mk ((by rw [hg];exact (below_size (by repeat (first|(with_reducible first|exact HB.out|apply below_alloc|apply pw_below_drewN|apply below_drew1)|exact HB.out))) : w.heap.size ≤ gb221));have n3_:=Aside0.mk ((by rw [hg];exact (below_size (by repeat (first|(with_reducible first|exact HB.out|apply below_alloc|apply pw_below_drewN|apply below_drew1)|exact HB.out))) : w.heap.size ≤ gb221));clear HB;have HB:=n0_;have BK221:=n1_;have GW221:=n2_;have GE221:=n3_;clear n0_ n1_ n2_ n3_;clear hb hbox hg;have hcz57_0 : w56.cell? ⟨gb221,0,none⟩ = some (.int .i64 0):=(blk_cell BK221.out 0).trans rfl;have hcz57_1 : w56.cell? ⟨gb221,1,none⟩ = some (.int .i64 0):=(blk_cell BK221.out 1).trans rfl;have hcz57_2 : w56.cell? ⟨gb221,2,none⟩ = some (.slice none 0 0):=(blk_cell BK221.out 2).trans rfl;have hcz57_3 : w56.cell? ⟨gb221,3,none⟩ = some (.int .i64 0):=(blk_cell BK221.out 3).trans rfl;have hcz57_4 : w56.cell? ⟨gb221,4,none⟩ = some (.int .i64 0):=(blk_cell BK221.out 4).trans rfl;have hcz57_5 : w56.cell? ⟨gb221,5,none⟩ = some (.int .i64 0):=(blk_cell BK221.out 5).trans rfl;have hcz57_6 : w56.cell? ⟨gb221,6,none⟩ = some (.int .i64 0):=(blk_cell BK221.out 6).trans rfl;have hfz57_0:=blk_frozen BK221.out 0;have hfz57_1:=blk_frozen BK221.out 1;have hfz57_2:=blk_frozen BK221.out 2;have hfz57_3:=blk_frozen BK221.out 3;have hfz57_4:=blk_frozen BK221.out 4;have hfz57_5:=blk_frozen BK221.out 5;have hfz57_6:=blk_frozen BK221.out 6))
           have n0_ : Aside0 ((((((((w56.setCell ⟨gb221,0,none⟩ (.int .i64 ((rd_T94 l0 x10_1).f0))).setCell ⟨gb221,1,none⟩ (.int .i64 ((rd_T94 l0 x10_1).f1.f0))).setCell ⟨gb221,2,none⟩ (.slice A220_2 ((rd_T94 l0 x10_1).f1.f1).length c220_2)).setCell ⟨gb221,3,none⟩ (.int .i64 ((rd_T94 l0 x10_1).f1.f2.f0))).setCell ⟨gb221,4,none⟩ (.int .i64 ((rd_T94 l0 x10_1).f1.f2.f1))).setCell ⟨gb221,5,none⟩ (.int .i64 ((rd_T94 l0 x10_1).f1.f2.f2))).setCell ⟨gb221,6,none⟩ (.int .i64 ((rd_T94 l0 x10_1).f2))).heap[gb221]? = some (.cells #[.int .i64 ((rd_T94 l0 x10_1).f0),.int .i64 ((rd_T94 l0 x10_1).f1.f0),.slice A220_2 ((rd_T94 l0 x10_1).f1.f1).length c220_2,.int .i64 ((rd_T94 l0 x10_1).f1.f2.f0),.int .i64 ((rd_T94 l0 x10_1).f1.f2.f1),.int .i64 ((rd_T94 l0 x10_1).f1.f2.f2),.int .i64 ((rd_T94 l0 x10_1).f2)] 94 (0,0))):=⟨by (with_reducible repeat (first|refine blk_drewN ?_ _|refine blk_drew ?_|refine blk_alloc ?_ _));refine blk_put (cs:=#[.int .i64 ((rd_T94 l0 x10_1).f0),.int .i64 ((rd_T94 l0 x10_1).f1.f0),.slice A220_2 ((rd_T94 l0 x10_1).f1.f1).length c220_2,.int .i64 ((rd_T94 l0 x10_1).f1.f2.f0),.int .i64 ((rd_T94 l0 x10_1).f1.f2.f1),.int .i64 ((rd_T94 l0 x10_1).f1.f2.f2),.int .i64 0]) ?_ 6 _ rfl;(with_reducible repeat (first|refine blk_drewN ?_ _|refine blk_drew ?_|refine blk_alloc ?_ _));refine blk_put (cs:=#[.int .i64 ((rd_T94 l0 x10_1).f0),.int .i64 ((rd_T94 l0 x10_1).f1.f0),.slice A220_2 ((rd_T94 l0 x10_1).f1.f1).length c220_2,.int .i64 ((rd_T94 l0 x10_1).f1.f2.f0),.int .i64 ((rd_T94 l0 x10_1).f1.f2.f1),.int .i64 0,.int .i64 0]) ?_ 5 _ rfl;(with_reducible repeat (first|refine blk_drewN ?_ _|refine blk_drew ?_|refine blk_alloc ?_ _));refine blk_put (cs:=#[.int .i64 ((rd_T94 l0 x10_1).f0),.int .i64 ((rd_T94 l0 x10_1).f1.f0),.slice A220_2 ((rd_T94 l0 x10_1).f1.f1).length c220_2,.int .i64 ((rd_T94 l0 x10_1).f1.f2.f0),.int .i64 0,.int .i64 0,.int .i64 0]) ?_ 4 _ rfl;(with_reducible repeat (first|refine blk_drewN ?_ _|refine blk_drew ?_|refine blk_alloc ?_ _));refine blk_put (cs:=#[.int .i64 ((rd_T94 l0 x10_1).f0),.int .i64 ((rd_T94 l0 x10_1).f1.f0),.slice A220_2 ((rd_T94 l0 x10_1).f1.f1).length c220_2,.int .i64 0,.int .i64 0,.int .i64 0,.int .i64 0]) ?_ 3 _ rfl;(with_reducible repeat (first|refine blk_drewN ?_ _|refine blk_drew ?_|refine blk_alloc ?_ _));refine blk_put (cs:=#[.int .i64 ((rd_T94 l0 x10_1).f0),.int .i64 ((rd_T94 l0 x10_1).f1.f0),.slice none 0 0,.int .i64 0,.int .i64 0,.int .i64 0,.int .i64 0]) ?_ 2 _ rfl;(with_reducible repeat (first|refine blk_drewN ?_ _|refine blk_drew ?_|refine blk_alloc ?_ _));refine blk_put (cs:=#[.int .i64 ((rd_T94 l0 x10_1).f0),.int .i64 0,.slice none 0 0,.int .i64 0,.int .i64 0,.int .i64 0,.int .i64 0]) ?_ 1 _ rfl;(with_reducible repeat (first|refine blk_drewN ?_ _|refine blk_drew ?_|refine blk_alloc ?_ _));refine blk_put (cs:=#[.int .i64 0,.int .i64 0,.slice none 0 0,.int .i64 0,.int .i64 0,.int .i64 0,.int .i64 0]) ?_ 0 _ rfl;(with_reducible repeat (first|refine blk_drewN ?_ _|refine blk_drew ?_|refine blk_alloc ?_ _));exact BK221.out⟩
           have n1_ : Aside0 (Below w.heap.size w (((((((w56.setCell ⟨gb221,0,none⟩ (.int .i64 ((rd_T94 l0 x10_1).f0))).setCell ⟨gb221,1,none⟩ (.int .i64 ((rd_T94 l0 x10_1).f1.f0))).setCell ⟨gb221,2,none⟩ (.slice A220_2 ((rd_T94 l0 x10_1).f1.f1).length c220_2)).setCell ⟨gb221,3,none⟩ (.int .i64 ((rd_T94 l0 x10_1).f1.f2.f0))).setCell ⟨gb221,4,none⟩ (.int .i64 ((rd_T94 l0 x10_1).f1.f2.f1))).setCell ⟨gb221,5,none⟩ (.int .i64 ((rd_T94 l0 x10_1).f1.f2.f2))).setCell ⟨gb221,6,none⟩ (.int .i64 ((rd_T94 l0 x10_1).f2)))):=⟨by repeat (first|(with_reducible first|exact HB.out|apply below_alloc|apply pw_below_drewN|apply below_drew1|refine below_set ?_ GE221.out)|exact HB.out)⟩
           (try clear BK221);(try clear HB);generalize (((((((w56.setCell ⟨gb221,0,none⟩ (.int .i64 ((rd_T94 l0 x10_1).f0))).setCell ⟨gb221,1,none⟩ (.int .i64 ((rd_T94 l0 x10_1).f1.f0))).setCell ⟨gb221,2,none⟩ (.slice A220_2 ((rd_T94 l0 x10_1).f1.f1).length c220_2)).setCell ⟨gb221,3,none⟩ (.int .i64 ((rd_T94 l0 x10_1).f1.f2.f0))).setCell ⟨gb221,4,none⟩ (.int .i64 ((rd_T94 l0 x10_1).f1.f2.f1))).setCell ⟨gb221,5,none⟩ (.int .i64 ((rd_T94 l0 x10_1).f1.f2.f2))).setCell ⟨gb221,6,none⟩ (.int .i64 ((rd_T94 l0 x10_1).f2))) = w58 at n0_ n1_ ⊢
           have BK221:=n0_;have HB:=n1_;clear n0_ n1_;have n0_:=Aside0.mk (blk_drew BK221.out)
           have n1_:=Aside0.mk (below_drew1 HB.out)
           clear BK221;clear HB;have BK221:=n0_;have HB:=n1_;clear n0_ n1_;refine start_ (n:=33) (S:=fun w' => w'.cell? ⟨gb221,0,none⟩ = some (.int .i64 ((rd_T94 l0 x10_1).f0)) ∧ w'.cell? ⟨gb221,1,none⟩ = some (.int .i64 ((rd_T94 l0 x10_1).f1.f0)) ∧ w'.cell? ⟨gb221,2,none⟩ = some (.slice A220_2 ((rd_T94 l0 x10_1).f1.f1).length c220_2) ∧ w'.cell? ⟨gb221,3,none⟩ = some (.int .i64 ((rd_T94 l0 x10_1).f1.f2.f0)) ∧ w'.cell? ⟨gb221,4,none⟩ = some (.int .i64 ((rd_T94 l0 x10_1).f1.f2.f1)) ∧ w'.cell? ⟨gb221,5,none⟩ = some (.int .i64 ((rd_T94 l0 x10_1).f1.f2.f2)) ∧ w'.cell? ⟨gb221,6,none⟩ = some (.int .i64 ((rd_T94 l0 x10_1).f2))) (ds:=[]) q0_ (by kernel_rfl) rfl rfl ⟨(blk_cell BK221.out 0).trans rfl,(blk_cell BK221.out 1).trans rfl,(blk_cell BK221.out 2).trans rfl,(blk_cell BK221.out 3).trans rfl,(blk_cell BK221.out 4).trans rfl,(blk_cell BK221.out 5).trans rfl,(blk_cell BK221.out 6).trans rfl⟩ (fun hHeld => ?_);refine with_tabW impl_IsStore.tab6 impl_IsStore.bits6 (fun HT_ HW_ => ?_)
           generalize w58.drew = w59 at BK221 HB hHeld ⊢
           refine pure_ (i:=0) (N:=some 15) (v:=?_) (a':=?_) q1_ rfl rfl (any_of HT_.out (by kernel_rfl)) (fun _ _ _ h => h) (Or.inl ⟨by rfl,?_⟩) ?_ ?_
           rotate_left
           ·intro w';go_simp;with_reducible rfl
           rotate_left
           ·simp only [Act.put,List.setIfInBounds_toArray,List.set_cons_zero,List.set_cons_succ,i64_w,i32_w]
            rfl
           refine pure_ (i:=1) (N:=some 16) (v:=?_) (a':=?_) q2_ rfl rfl (any_of HT_.out (by kernel_rfl)) (fun _ _ _ h => h) (Or.inl ⟨by rfl,?_⟩) ?_ ?_
           rotate_left
           ·intro w';go_simp;with_reducible rfl
           rotate_left
           ·simp only [Act.put,List.setIfInBounds_toArray,List.set_cons_zero,List.set_cons_succ,i64_w,i32_w]
            rfl
           refine pure_ (i:=2) (N:=some 17) (v:=?_) (a':=?_) q3_ rfl rfl (any_of HT_.out (by kernel_rfl)) (fun _ _ _ h => h) (Or.inl ⟨by rfl,?_⟩) ?_ ?_
           rotate_left
           ·intro w';go_simp;with_reducible rfl
           rotate_left
           ·simp only [Act.put,List.setIfInBounds_toArray,List.set_cons_zero,List.set_cons_succ,i64_w,i32_w]
            rfl
           refine pure_ (i:=3) (N:=some 18) (v:=undef) (a':=?_) q4_ rfl rfl (any_of HT_.out (by kernel_rfl)) (fun _ _ _ h => h) (Or.inr ⟨by rfl,rfl⟩) ?_ ?_
           rotate_left
           ·simp only [Act.put,List.setIfInBounds_toArray,List.set_cons_zero,List.set_cons_succ,i64_w,i32_w]
            rfl
           refine pure_ (i:=4) (N:=some 19) (v:=undef) (a':=?_) q5_ rfl rfl (any_of HT_.out (by kernel_rfl)) (fun _ _ _ h => h) (Or.inr ⟨by rfl,rfl⟩) ?_ ?_
           rotate_left
           ·simp only [Act.put,List.setIfInBounds_toArray,List.set_cons_zero,List.set_cons_succ,i64_w,i32_w]
            rfl
           refine pure_ (i:=5) (N:=some 20) (v:=undef) (a':=?_) q6_ rfl rfl (any_of HT_.out (by kernel_rfl)) (fun _ _ _ h => h) (Or.inr ⟨by rfl,rfl⟩) ?_ ?_
           rotate_left
           ·simp only [Act.put,List.setIfInBounds_toArray,List.set_cons_zero,List.set_cons_succ,i64_w,i32_w]
            rfl
           refine pure_ (i:=6) (N:=some 21) (v:=undef) (a':=?_) q7_ rfl rfl (any_of HT_.out (by kernel_rfl)) (fun _ _ _ h => h) (Or.inr ⟨by rfl,rfl⟩) ?_ ?_
           rotate_left
           ·simp only [Act.put,List.setIfInBounds_toArray,List.set_cons_zero,List.set_cons_succ,i64_w,i32_w]
            rfl
           refine pure_ (i:=7) (N:=some 22) (v:=undef) (a':=?_) q8_ rfl rfl (any_of HT_.out (by kernel_rfl)) (fun _ _ _ h => h) (Or.inr ⟨by rfl,rfl⟩) ?_ ?_
           rotate_left
           ·simp only [Act.put,List.setIfInBounds_toArray,List.set_cons_zero,List.set_cons_succ,i64_w,i32_w]
            rfl
           refine pure_ (i:=8) (N:=some 23) (v:=undef) (a':=?_) q37_ rfl rfl (any_of HT_.out (by kernel_rfl)) (fun _ _ _ h => h) (Or.inr ⟨by rfl,rfl⟩) ?_ ?_
           rotate_left
           ·simp only [Act.put,List.setIfInBounds_toArray,List.set_cons_zero,List.set_cons_succ,i64_w,i32_w]
            rfl
           refine pure_ (i:=9) (N:=some 24) (v:=undef) (a':=?_) q10_ rfl rfl (any_of HT_.out (by kernel_rfl)) (fun _ _ _ h => h) (Or.inr ⟨by rfl,rfl⟩) ?_ ?_
           rotate_left
           ·simp only [Act.put,List.setIfInBounds_toArray,List.set_cons_zero,List.set_cons_succ,i64_w,i32_w]
            rfl
           refine pure_ (i:=10) (N:=some 25) (v:=undef) (a':=?_) q11_ rfl rfl (any_of HT_.out (by kernel_rfl)) (fun _ _ _ h => h) (Or.inr ⟨by rfl,rfl⟩) ?_ ?_
           rotate_left
           ·simp only [Act.put,List.setIfInBounds_toArray,List.set_cons_zero,List.set_cons_succ,i64_w,i32_w]
            rfl
           refine pure_ (i:=11) (N:=some 26) (v:=undef) (a':=?_) q12_ rfl rfl (any_of HT_.out (by kernel_rfl)) (fun _ _ _ h => h) (Or.inr ⟨by rfl,rfl⟩) ?_ ?_
           rotate_left
           ·simp only [Act.put,List.setIfInBounds_toArray,List.set_cons_zero,List.set_cons_succ,i64_w,i32_w]
            rfl
           refine pure_ (i:=12) (N:=some 27) (v:=?_) (a':=?_) q13_ rfl rfl (any_of HT_.out (by kernel_rfl)) (fun _ _ _ h => h) (Or.inl ⟨by rfl,?_⟩) ?_ ?_
           rotate_left
           ·intro w';go_simp;with_reducible rfl
           rotate_left
           ·simp only [Act.put,List.setIfInBounds_toArray,List.set_cons_zero,List.set_cons_succ,i64_w,i32_w]
            rfl
           refine pure_ (i:=13) (N:=some 28) (v:=?_) (a':=?_) q14_ rfl rfl (any_of HT_.out (by kernel_rfl)) (fun _ _ _ h => h) (Or.inl ⟨by rfl,?_⟩) ?_ ?_
           rotate_left
           ·intro w';go_simp;with_reducible rfl
           rotate_left
           ·simp only [Act.put,List.setIfInBounds_toArray,List.set_cons_zero,List.set_cons_succ,i64_w,i32_w]
            rfl
           refine pure_ (i:=14) (N:=some 29) (v:=?_) (a':=?_) q15_ rfl rfl (any_of HT_.out (by kernel_rfl)) (fun _ _ _ h => h) (Or.inl ⟨by rfl,?_⟩) ?_ ?_
           rotate_left
           ·intro w';go_simp;with_reducible rfl
           rotate_left
           ·simp only [Act.put,List.setIfInBounds_toArray,List.set_cons_zero,List.set_cons_succ,i64_w,i32_w]
            rfl
           refine take_ (i:=15) (N:=some 30) (v:=?_) (a':=?_) q16_ rfl rfl (take_ofW HT_.out HW_.out (by kernel_rfl)) (fun _ _ _ h => h) (Or.inl ⟨by rfl,?_⟩) hHeld ?_ ?_
           rotate_left
           ·rintro w' ⟨s0,s1,s2,s3,s4,s5,s6⟩
            go_simp;with_reducible rfl
           rotate_left
           ·simp only [Act.put,List.setIfInBounds_toArray,List.set_cons_zero,List.set_cons_succ,i64_w,i32_w]
            rfl
           refine one_ (i:=16) (N:=some 31) q17_ rfl rfl (one_of HT_.out (by kernel_rfl)) (by decide) (fun K hK => ?_)
           refine goes_ Try.func71 (by kernel_rfl) rfl #[.agg #[.int .i64 ((rd_T94 l0 x10_1).f1.f0),.slice A220_2 ((rd_T94 l0 x10_1).f1.f1).length c220_2,.int .i64 ((rd_T94 l0 x10_1).f1.f2.f0),.int .i64 ((rd_T94 l0 x10_1).f1.f2.f1),.int .i64 ((rd_T94 l0 x10_1).f1.f2.f2)]] (by rfl) rfl rfl (by (try simp only [List.map_toArray,List.map_cons,List.map_nil]);first|done|rfl|(simp only [List.length_drop,List.length_take];rfl)) ?_
           with_reducible refine (impl_IsResource.calls k1 ((rd_T94 l0 x10_1).f1.f0) _ _ ((rd_T94 l0 x10_1).f1.f1) ((rd_T94 l0 x10_1).f1.f2.f0) ((rd_T94 l0 x10_1).f1.f2.f1) ((rd_T94 l0 x10_1).f1.f2.f2) true _ ?side1 ?side2 A44.out).mono ?_
           (case side1 => repeat (first|exact (Kd.C_below HR220_2.out HB.out)|(with_reducible refine Kd.C_alloc ?_ _)|(with_reducible refine Kd.C_drewN ?_ _)|(with_reducible refine Kd.C_drew ?_)))
           (case side2 => exact HC220_2.out)
           rintro e w60 ⟨rfl,hb⟩
           refine ⟨_,rfl,?_⟩
           have n0_:=Aside0.mk (blk_below (g:=gb221) (o:=.cells #[.int .i64 ((rd_T94 l0 x10_1).f0),.int .i64 ((rd_T94 l0 x10_1).f1.f0),.slice A220_2 ((rd_T94 l0 x10_1).f1.f1).length c220_2,.int .i64 ((rd_T94 l0 x10_1).f1.f2.f0),.int .i64 ((rd_T94 l0 x10_1).f1.f2.f1),.int .i64 ((rd_T94 l0 x10_1).f1.f2.f2),.int .i64 ((rd_T94 l0 x10_1).f2)] 94 (0,0)) (by (with_reducible repeat (first|refine blk_drewN ?_ _|refine blk_drew ?_|refine blk_alloc ?_ _));exact BK221.out) hb)
           have n1_:=Aside0.mk (below_step (by repeat (first|(with_reducible first|exact HB.out|apply below_alloc|apply pw_below_drewN|apply below_drew1|refine below_set ?_ GE221.out)|exact HB.out)) hb)
           clear BK221;clear HB;have BK221:=n0_;have HB:=n1_;clear n0_ n1_;(try clear hb);refine hK.out _ _ ⟨(blk_cell BK221.out 0).trans rfl,(blk_cell BK221.out 1).trans rfl,(blk_cell BK221.out 2).trans rfl,(blk_cell BK221.out 3).trans rfl,(blk_cell BK221.out 4).trans rfl,(blk_cell BK221.out 5).trans rfl,(blk_cell BK221.out 6).trans rfl⟩ (fun hHeld => ?_)
           clear hK K;refine norm_ (a':=?_) ?_ ?_
           rotate_left
           ·show Act.put _ (some 31) _ = _
            simp only [Act.put,List.setIfInBounds_toArray,List.set_cons_zero,List.set_cons_succ,i64_w,i32_w]
            rfl
           refine pure_ (i:=17) (N:=some 32) (v:=?_) (a':=?_) q18_ rfl rfl (any_of HT_.out (by kernel_rfl)) (fun _ _ _ h => h) (Or.inl ⟨by rfl,?_⟩) ?_ ?_
           rotate_left
           ·intro w';go_simp;with_reducible rfl
           rotate_left
           ·simp only [Act.put,List.setIfInBounds_toArray,List.set_cons_zero,List.set_cons_succ,i64_w,i32_w]
            rfl
           refine pure_ (i:=18) (N:=some 33) (v:=?_) (a':=?_) q19_ rfl rfl (any_of HT_.out (by kernel_rfl)) (fun _ _ _ h => h) (Or.inl ⟨by rfl,?_⟩) ?_ ?_
           rotate_left
           ·intro w';go_simp;with_reducible rfl
           rotate_left
           ·simp only [Act.put,List.setIfInBounds_toArray,List.set_cons_zero,List.set_cons_succ,i64_w,i32_w]
            rfl
           refine pure_ (i:=19) (N:=some 34) (v:=?_) (a':=?_) q20_ rfl rfl (any_of HT_.out (by kernel_rfl)) (fun _ _ _ h => h) (Or.inl ⟨by rfl,?_⟩) ?_ ?_
           rotate_left
           ·intro w';go_simp;with_reducible rfl
           rotate_left
           ·simp only [Act.put,List.setIfInBounds_toArray,List.set_cons_zero,List.set_cons_succ,i64_w,i32_w]
            rfl
           refine pure_ (i:=20) (N:=some 35) (v:=?_) (a':=?_) q21_ rfl rfl (any_of HT_.out (by kernel_rfl)) (fun _ _ _ h => h) (Or.inl ⟨by rfl,?_⟩) ?_ ?_
           rotate_left
           ·intro w';go_simp;with_reducible rfl
           rotate_left
           ·simp only [Act.put,List.setIfInBounds_toArray,List.set_cons_zero,List.set_cons_succ,i64_w,i32_w]
            rfl
           refine pure_ (i:=23) (N:=some 38) (v:=?_) (a':=?_) q34_ rfl rfl (any_of HT_.out (by kernel_rfl)) (fun _ _ _ h => h) (Or.inl ⟨by rfl,?_⟩) ?_ ?_
           rotate_left
           ·intro w';go_simp;with_reducible rfl
           rotate_left
           ·simp only [Act.put,List.setIfInBounds_toArray,List.set_cons_zero,List.set_cons_succ,i64_w,i32_w]
            rfl
           refine take_ (i:=21) (N:=some 36) (v:=?_) (a':=?_) q35_ rfl rfl (take_ofW HT_.out HW_.out (by kernel_rfl)) (fun _ _ _ h => h) (Or.inl ⟨by rfl,?_⟩) hHeld ?_ ?_
           rotate_left
           ·rintro w' ⟨s0,s1,s2,s3,s4,s5,s6⟩
            go_simp;with_reducible rfl
           rotate_left
           ·simp only [Act.put,List.setIfInBounds_toArray,List.set_cons_zero,List.set_cons_succ,i64_w,i32_w]
            rfl
           refine take_ (i:=24) (N:=some 39) (v:=?_) (a':=?_) q36_ rfl rfl (take_ofW HT_.out HW_.out (by kernel_rfl)) (fun _ _ _ h => h) (Or.inl ⟨by rfl,?_⟩) hHeld ?_ ?_
           rotate_left
           ·rintro w' ⟨s0,s1,s2,s3,s4,s5,s6⟩
            go_simp;with_reducible rfl
           rotate_left
           ·simp only [Act.put,List.setIfInBounds_toArray,List.set_cons_zero,List.set_cons_succ,i64_w,i32_w]
            rfl
           refine one_ (i:=22) (N:=some 37) q25_ rfl rfl (one_of HT_.out (by kernel_rfl)) (by decide) (fun K hK => ?_)
           refine goes_ Try.func72 (by kernel_rfl) rfl #[.agg #[.int .i64 ((rd_T94 l0 x10_1).f1.f0),.slice A220_2 ((rd_T94 l0 x10_1).f1.f1).length c220_2,.int .i64 ((rd_T94 l0 x10_1).f1.f2.f0),.int .i64 ((rd_T94 l0 x10_1).f1.f2.f1),.int .i64 ((rd_T94 l0 x10_1).f1.f2.f2)]] (by rfl) rfl rfl (by (try simp only [List.map_toArray,List.map_cons,List.map_nil]);first|done|rfl|(simp only [List.length_drop,List.length_take];rfl)) ?_
           with_reducible refine (impl_DigestOf.calls k1 ((rd_T94 l0 x10_1).f1.f0) _ _ ((rd_T94 l0 x10_1).f1.f1) ((rd_T94 l0 x10_1).f1.f2.f0) ((rd_T94 l0 x10_1).f1.f2.f1) ((rd_T94 l0 x10_1).f1.f2.f2) t227 _ ?side1 ?side2 A46.out).mono ?_
           (case side1 => repeat (first|exact (Kd.C_below HR220_2.out HB.out)|(with_reducible refine Kd.C_alloc ?_ _)|(with_reducible refine Kd.C_drewN ?_ _)|(with_reducible refine Kd.C_drew ?_)))
           (case side2 => exact HC220_2.out)
           rintro e w61 ⟨rfl,hb⟩
           refine ⟨_,rfl,?_⟩
           have n0_:=Aside0.mk (blk_below (g:=gb221) (o:=.cells #[.int .i64 ((rd_T94 l0 x10_1).f0),.int .i64 ((rd_T94 l0 x10_1).f1.f0),.slice A220_2 ((rd_T94 l0 x10_1).f1.f1).length c220_2,.int .i64 ((rd_T94 l0 x10_1).f1.f2.f0),.int .i64 ((rd_T94 l0 x10_1).f1.f2.f1),.int .i64 ((rd_T94 l0 x10_1).f1.f2.f2),.int .i64 ((rd_T94 l0 x10_1).f2)] 94 (0,0)) (by (with_reducible repeat (first|refine blk_drewN ?_ _|refine blk_drew ?_|refine blk_alloc ?_ _));exact BK221.out) hb)
           have n1_:=Aside0.mk (below_step (by repeat (first|(with_reducible first|exact HB.out|apply below_alloc|apply pw_below_drewN|apply below_drew1|refine below_set ?_ GE221.out)|exact HB.out)) hb)
           clear BK221;clear HB;have BK221:=n0_;have HB:=n1_;clear n0_ n1_;(try clear hb);refine hK.out _ _ ⟨(blk_cell BK221.out 0).trans rfl,(blk_cell BK221.out 1).trans rfl,(blk_cell BK221.out 2).trans rfl,(blk_cell BK221.out 3).trans rfl,(blk_cell BK221.out 4).trans rfl,(blk_cell BK221.out 5).trans rfl,(blk_cell BK221.out 6).trans rfl⟩ (fun hHeld => ?_)
           clear hK K;refine norm_ (a':=?_) ?_ ?_
           rotate_left
           ·show Act.put _ (some 37) _ = _
            simp only [Act.put,List.setIfInBounds_toArray,List.set_cons_zero,List.set_cons_succ,i64_w,i32_w]
            rfl
           refine pure_ (i:=25) (N:=some 40) (v:=?_) (a':=?_) q26_ rfl rfl (any_of HT_.out (by kernel_rfl)) (fun _ _ _ h => h) (Or.inl ⟨by rfl,?_⟩) ?_ ?_
           rotate_left
           ·intro w';go_simp;with_reducible rfl
           rotate_left
           ·simp only [Act.put,List.setIfInBounds_toArray,List.set_cons_zero,List.set_cons_succ,i64_w,i32_w]
            rfl
           refine pure_ (i:=26) (N:=some 41) (v:=?_) (a':=?_) q27_ rfl rfl (any_of HT_.out (by kernel_rfl)) (fun _ _ _ h => h) (Or.inl ⟨by rfl,?_⟩) ?_ ?_
           rotate_left
           ·intro w';go_simp;with_reducible rfl
           rotate_left
           ·simp only [Act.put,List.setIfInBounds_toArray,List.set_cons_zero,List.set_cons_succ,i64_w,i32_w]
            rfl
           refine pure_ (i:=27) (N:=some 42) (v:=?_) (a':=?_) q28_ rfl rfl (any_of HT_.out (by kernel_rfl)) (fun _ _ _ h => h) (Or.inl ⟨by rfl,?_⟩) ?_ ?_
           rotate_left
           ·intro w';go_simp;with_reducible rfl
           rotate_left
           ·simp only [Act.put,List.setIfInBounds_toArray,List.set_cons_zero,List.set_cons_succ,i64_w,i32_w]
            rfl
           refine pure_ (i:=28) (N:=some 43) (v:=?_) (a':=?_) q29_ rfl rfl (any_of HT_.out (by kernel_rfl)) (fun _ _ _ h => h) (Or.inl ⟨by rfl,?_⟩) ?_ ?_
           rotate_left
           ·intro w';go_simp;with_reducible rfl
           rotate_left
           ·simp only [Act.put,List.setIfInBounds_toArray,List.set_cons_zero,List.set_cons_succ,i64_w,i32_w]
            rfl
           refine take_ (i:=29) (N:=some 44) (v:=?_) (a':=?_) q30_ rfl rfl (take_ofW HT_.out HW_.out (by kernel_rfl)) (fun _ _ _ h => h) (Or.inl ⟨by rfl,?_⟩) hHeld ?_ ?_
           rotate_left
           ·rintro w' ⟨s0,s1,s2,s3,s4,s5,s6⟩
            go_simp;with_reducible rfl
           rotate_left
           ·simp only [Act.put,List.setIfInBounds_toArray,List.set_cons_zero,List.set_cons_succ,i64_w,i32_w]
            rfl
           refine one_ (i:=30) (N:=some 45) q31_ rfl rfl (one_of HT_.out (by kernel_rfl)) (by decide) (fun K hK => ?_)
           refine goes_ Try.func62 (by kernel_rfl) rfl #[.int .i64 ((rd_T94 l0 x10_1).f2),.int .i64 1,.int .i64 1000] (by rfl) rfl rfl (by (try simp only [List.map_toArray,List.map_cons,List.map_nil]);first|done|rfl|(simp only [List.length_drop,List.length_take];rfl)) ?_
           with_reducible refine (impl_InRange.calls ((rd_T94 l0 x10_1).f2) 1 1000 false _ A48.out).mono ?_
           rintro e w' ⟨rfl,⟨nd,rfl⟩⟩
           refine ⟨_,rfl,?_⟩
           refine hK.out _ _ ⟨(blk_cell BK221.out 0).trans rfl,(blk_cell BK221.out 1).trans rfl,(blk_cell BK221.out 2).trans rfl,(blk_cell BK221.out 3).trans rfl,(blk_cell BK221.out 4).trans rfl,(blk_cell BK221.out 5).trans rfl,(blk_cell BK221.out 6).trans rfl⟩ (fun hHeld => ?_)
           clear hK K;refine norm_ (a':=?_) ?_ ?_
           rotate_left
           ·show Act.put _ (some 45) _ = _
            simp only [Act.put,List.setIfInBounds_toArray,List.set_cons_zero,List.set_cons_succ,i64_w,i32_w]
            rfl
           refine pure_ (i:=31) (N:=some 46) (v:=?_) (a':=?_) q32_ rfl rfl (any_of HT_.out (by kernel_rfl)) (fun _ _ _ h => h) (Or.inl ⟨by rfl,?_⟩) ?_ ?_
           rotate_left
           ·intro w';go_simp;with_reducible rfl
           rotate_left
           ·simp only [Act.put,List.setIfInBounds_toArray,List.set_cons_zero,List.set_cons_succ,i64_w,i32_w]
            rfl
           refine pure_ (i:=32) (N:=some 47) (v:=?_) (a':=?_) q33_ rfl rfl (any_of HT_.out (by kernel_rfl)) (fun _ _ _ h => h) (Or.inl ⟨by rfl,?_⟩) ?_ ?_
           rotate_left
           ·intro w';go_simp;with_reducible rfl
           rotate_left
           ·simp only [Act.put,List.setIfInBounds_toArray,List.set_cons_zero,List.set_cons_succ,i64_w,i32_w]
            rfl
           refine done_ (done_of HT_.out (by kernel_rfl)) ?_
           try go_wp2
           go_ret
           exact ⟨by first|rfl|(simp [errW_none,errW_some] <;> rfl)|(simp [*,errW_none,errW_some] <;> rfl),by repeat (first|(with_reducible first|exact HB.out|apply below_alloc|apply pw_below_drewN|apply below_drew1|refine below_set ?_ GE221.out)|exact HB.out)⟩
         ·rw [if_neg c47] at H
          have c47b0 : (t227 == ((rd_T94 l0 x10_1).f0)) = false:=beq_eq_false_iff_ne.mpr c47
          have c47b1 : (t227 != ((rd_T94 l0 x10_1).f0)) = true:=bne_iff_ne.mpr c47
          obtain rfl:=Option.some.inj H
          have p220 : 0 ≤ (x10_1 : Int):=of_decide_eq_true (by first|(with_reducible assumption)|assumption)
          have q220 : x10_1 < (l0.length : Int):=of_decide_eq_true (by first|(with_reducible assumption)|assumption)
          obtain ⟨ad220,A220_2,c220_2,e220,hx220_0,hx220_1,hx220_2,hx220_3,hx220_4,hx220_5,hx220_6,hl220_2,hi220_2⟩:=at_T94 HR0.out x10_1 p220 q220
          cases e220
          replace hx220_0:=(HB.out.cell (World.block_lt_of_cell? w _ hx220_0)).trans hx220_0
          replace hx220_1:=(HB.out.cell (World.block_lt_of_cell? w _ hx220_1)).trans hx220_1
          replace hx220_2:=(HB.out.cell (World.block_lt_of_cell? w _ hx220_2)).trans hx220_2
          replace hx220_3:=(HB.out.cell (World.block_lt_of_cell? w _ hx220_3)).trans hx220_3
          replace hx220_4:=(HB.out.cell (World.block_lt_of_cell? w _ hx220_4)).trans hx220_4
          replace hx220_5:=(HB.out.cell (World.block_lt_of_cell? w _ hx220_5)).trans hx220_5
          replace hx220_6:=(HB.out.cell (World.block_lt_of_cell? w _ hx220_6)).trans hx220_6
          have HR220_2:=Aside0.mk hi220_2;have HC220_2:=Aside0.mk hl220_2;clear hi220_2 hl220_2;replace p220:=eq_true p220
          replace q220:=eq_true q220
          try go_wp2_with (first|((with_reducible refine gate_dst (N:=4) rfl ?_);refine box_event ?hg (N:=4) ?hd (cs:=#[.int .i64 0,.int .i64 0,.slice none 0 0,.int .i64 0,.int .i64 0,.int .i64 0,.int .i64 0]) (t:=94) ?hr ?_;(case hd => rfl);(case hg => rfl);(case hr => first|(go_simp;done)|(go_simp;rfl));intro gb221 hg w62 hbox hb;have n0_:=Aside0.mk (below_step (by repeat (first|(with_reducible first|exact HB.out|apply below_alloc|apply pw_below_drewN|apply below_drew1)|exact HB.out)) hb);have n1_:=Aside0.mk (hbox);have n2_:=Aside0.mk ((by rw [hg];exact (below_size (by repeat (first|(with_reducible first|exact HB.out|apply below_alloc|apply pw_below_drewN|apply below_drew1)|exact HB.out))) : w.heap.size ≤ gb221));have n3_:=Aside0.mk ((by rw [hg];exact (below_size (by repeat (first|(with_reducible first|exact HB.out|apply below_alloc|apply pw_below_drewN|apply below_drew1)|exact HB.out))) : w.heap.size ≤ gb221));clear HB;have HB:=n0_;have BK221:=n1_;have GW221:=n2_;have GE221:=n3_;clear n0_ n1_ n2_ n3_;clear hb hbox hg;have hcz63_0 : w62.cell? ⟨gb221,0,none⟩ = some (.int .i64 0):=(blk_cell BK221.out 0).trans rfl;have hcz63_1 : w62.cell? ⟨gb221,1,none⟩ = some (.int .i64 0):=(blk_cell BK221.out 1).trans rfl;have hcz63_2 : w62.cell? ⟨gb221,2,none⟩ = some (.slice none 0 0):=(blk_cell BK221.out 2).trans rfl;have hcz63_3 : w62.cell? ⟨gb221,3,none⟩ = some (.int .i64 0):=(blk_cell BK221.out 3).trans rfl;have hcz63_4 : w62.cell? ⟨gb221,4,none⟩ = some (.int .i64 0):=(blk_cell BK221.out 4).trans rfl;have hcz63_5 : w62.cell? ⟨gb221,5,none⟩ = some (.int .i64 0):=(blk_cell BK221.out 5).trans rfl;have hcz63_6 : w62.cell? ⟨gb221,6,none⟩ = some (.int .i64 0):=(blk_cell BK221.out 6).trans rfl;have hfz63_0:=blk_frozen BK221.out 0;have hfz63_1:=blk_frozen BK221.out 1;have hfz63_2:=blk_frozen BK221.out 2;have hfz63_3:=blk_frozen BK221.out 3;have hfz63_4:=blk_frozen BK221.out 4;have hfz63_5:=blk_frozen BK221.out 5;have hfz63_6:=blk_frozen BK221.out 6))
          have n0_ : Aside0 ((((((((w62.setCell ⟨gb221,0,none⟩ (.int .i64 ((rd_T94 l0 x10_1).f0))).setCell ⟨gb221,1,none⟩ (.int .i64 ((rd_T94 l0 x10_1).f1.f0))).setCell ⟨gb221,2,none⟩ (.slice A220_2 ((rd_T94 l0 x10_1).f1.f1).length c220_2)).setCell ⟨gb221,3,none⟩ (.int .i64 ((rd_T94 l0 x10_1).f1.f2.f0))).setCell ⟨gb221,4,none⟩ (.int .i64 ((rd_T94 l0 x10_1).f1.f2.f1))).setCell ⟨gb221,5,none⟩ (.int .i64 ((rd_T94 l0 x10_1).f1.f2.f2))).setCell ⟨gb221,6,none⟩ (.int .i64 ((rd_T94 l0 x10_1).f2))).heap[gb221]? = some (.cells #[.int .i64 ((rd_T94 l0 x10_1).f0),.int .i64 ((rd_T94 l0 x10_1).f1.f0),.slice A220_2 ((rd_T94 l0 x10_1).f1.f1).length c220_2,.int .i64 ((rd_T94 l0 x10_1).f1.f2.f0),.int .i64 ((rd_T94 l0 x10_1).f1.f2.f1),.int .i64 ((rd_T94 l0 x10_1).f1.f2.f2),.int .i64 ((rd_T94 l0 x10_1).f2)] 94 (0,0))):=⟨by (with_reducible repeat (first|refine blk_drewN ?_ _|refine blk_drew ?_|refine blk_alloc ?_ _));refine blk_put (cs:=#[.int .i64 ((rd_T94 l0 x10_1).f0),.int .i64 ((rd_T94 l0 x10_1).f1.f0),.slice A220_2 ((rd_T94 l0 x10_1).f1.f1).length c220_2,.int .i64 ((rd_T94 l0 x10_1).f1.f2.f0),.int .i64 ((rd_T94 l0 x10_1).f1.f2.f1),.int .i64 ((rd_T94 l0 x10_1).f1.f2.f2),.int .i64 0]) ?_ 6 _ rfl;(with_reducible repeat (first|refine blk_drewN ?_ _|refine blk_drew ?_|refine blk_alloc ?_ _));refine blk_put (cs:=#[.int .i64 ((rd_T94 l0 x10_1).f0),.int .i64 ((rd_T94 l0 x10_1).f1.f0),.slice A220_2 ((rd_T94 l0 x10_1).f1.f1).length c220_2,.int .i64 ((rd_T94 l0 x10_1).f1.f2.f0),.int .i64 ((rd_T94 l0 x10_1).f1.f2.f1),.int .i64 0,.int .i64 0]) ?_ 5 _ rfl;(with_reducible repeat (first|refine blk_drewN ?_ _|refine blk_drew ?_|refine blk_alloc ?_ _));refine blk_put (cs:=#[.int .i64 ((rd_T94 l0 x10_1).f0),.int .i64 ((rd_T94 l0 x10_1).f1.f0),.slice A220_2 ((rd_T94 l0 x10_1).f1.f1).length c220_2,.int .i64 ((rd_T94 l0 x10_1).f1.f2.f0),.int .i64 0,.int .i64 0,.int .i64 0]) ?_ 4 _ rfl;(with_reducible repeat (first|refine blk_drewN ?_ _|refine blk_drew ?_|refine blk_alloc ?_ _));refine blk_put (cs:=#[.int .i64 ((rd_T94 l0 x10_1).f0),.int .i64 ((rd_T94 l0 x10_1).f1.f0),.slice A220_2 ((rd_T94 l0 x10_1).f1.f1).length c220_2,.int .i64 0,.int .i64 0,.int .i64 0,.int .i64 0]) ?_ 3 _ rfl;(with_reducible repeat (first|refine blk_drewN ?_ _|refine blk_drew ?_|refine blk_alloc ?_ _));refine blk_put (cs:=#[.int .i64 ((rd_T94 l0 x10_1).f0),.int .i64 ((rd_T94 l0 x10_1).f1.f0),.slice none 0 0,.int .i64 0,.int .i64 0,.int .i64 0,.int .i64 0]) ?_ 2 _ rfl;(with_reducible repeat (first|refine blk_drewN ?_ _|refine blk_drew ?_|refine blk_alloc ?_ _));refine blk_put (cs:=#[.int .i64 ((rd_T94 l0 x10_1).f0),.int .i64 0,.slice none 0 0,.int .i64 0,.int .i64 0,.int .i64 0,.int .i64 0]) ?_ 1 _ rfl;(with_reducible repeat (first|refine blk_drewN ?_ _|refine blk_drew ?_|refine blk_alloc ?_ _));refine blk_put (cs:=#[.int .i64 0,.int .i64 0,.slice none 0 0,.int .i64 0,.int .i64 0,.int .i64 0,.int .i64 0]) ?_ 0 _ rfl;(with_reducible repeat (first|refine blk_drewN ?_ _|refine blk_drew ?_|refine blk_alloc ?_ _));exact BK221.out⟩
          have n1_ : Aside0 (Below w.heap.size w (((((((w62.setCell ⟨gb221,0,none⟩ (.int .i64 ((rd_T94 l0 x10_1).f0))).setCell ⟨gb221,1,none⟩ (.int .i64 ((rd_T94 l0 x10_1).f1.f0))).setCell ⟨gb221,2,none⟩ (.slice A220_2 ((rd_T94 l0 x10_1).f1.f1).length c220_2)).setCell ⟨gb221,3,none⟩ (.int .i64 ((rd_T94 l0 x10_1).f1.f2.f0))).setCell ⟨gb221,4,none⟩ (.int .i64 ((rd_T94 l0 x10_1).f1.f2.f1))).setCell ⟨gb221,5,none⟩ (.int .i64 ((rd_T94 l0 x10_1).f1.f2.f2))).setCell ⟨gb221,6,none⟩ (.int .i64 ((rd_T94 l0 x10_1).f2)))):=⟨by repeat (first|(with_reducible first|exact HB.out|apply below_alloc|apply pw_below_drewN|apply below_drew1|refine below_set ?_ GE221.out)|exact HB.out)⟩
          (try clear BK221);(try clear HB);generalize (((((((w62.setCell ⟨gb221,0,none⟩ (.int .i64 ((rd_T94 l0 x10_1).f0))).setCell ⟨gb221,1,none⟩ (.int .i64 ((rd_T94 l0 x10_1).f1.f0))).setCell ⟨gb221,2,none⟩ (.slice A220_2 ((rd_T94 l0 x10_1).f1.f1).length c220_2)).setCell ⟨gb221,3,none⟩ (.int .i64 ((rd_T94 l0 x10_1).f1.f2.f0))).setCell ⟨gb221,4,none⟩ (.int .i64 ((rd_T94 l0 x10_1).f1.f2.f1))).setCell ⟨gb221,5,none⟩ (.int .i64 ((rd_T94 l0 x10_1).f1.f2.f2))).setCell ⟨gb221,6,none⟩ (.int .i64 ((rd_T94 l0 x10_1).f2))) = w64 at n0_ n1_ ⊢
          have BK221:=n0_;have HB:=n1_;clear n0_ n1_;have n0_:=Aside0.mk (blk_drew BK221.out)
          have n1_:=Aside0.mk (below_drew1 HB.out)
          clear BK221;clear HB;have BK221:=n0_;have HB:=n1_;clear n0_ n1_;refine start_ (n:=33) (S:=fun w' => w'.cell? ⟨gb221,0,none⟩ = some (.int .i64 ((rd_T94 l0 x10_1).f0)) ∧ w'.cell? ⟨gb221,1,none⟩ = some (.int .i64 ((rd_T94 l0 x10_1).f1.f0)) ∧ w'.cell? ⟨gb221,2,none⟩ = some (.slice A220_2 ((rd_T94 l0 x10_1).f1.f1).length c220_2) ∧ w'.cell? ⟨gb221,3,none⟩ = some (.int .i64 ((rd_T94 l0 x10_1).f1.f2.f0)) ∧ w'.cell? ⟨gb221,4,none⟩ = some (.int .i64 ((rd_T94 l0 x10_1).f1.f2.f1)) ∧ w'.cell? ⟨gb221,5,none⟩ = some (.int .i64 ((rd_T94 l0 x10_1).f1.f2.f2)) ∧ w'.cell? ⟨gb221,6,none⟩ = some (.int .i64 ((rd_T94 l0 x10_1).f2))) (ds:=[]) q0_ (by kernel_rfl) rfl rfl ⟨(blk_cell BK221.out 0).trans rfl,(blk_cell BK221.out 1).trans rfl,(blk_cell BK221.out 2).trans rfl,(blk_cell BK221.out 3).trans rfl,(blk_cell BK221.out 4).trans rfl,(blk_cell BK221.out 5).trans rfl,(blk_cell BK221.out 6).trans rfl⟩ (fun hHeld => ?_);refine with_tabW impl_IsStore.tab6 impl_IsStore.bits6 (fun HT_ HW_ => ?_)
          generalize w64.drew = w65 at BK221 HB hHeld ⊢
          refine pure_ (i:=0) (N:=some 15) (v:=?_) (a':=?_) q1_ rfl rfl (any_of HT_.out (by kernel_rfl)) (fun _ _ _ h => h) (Or.inl ⟨by rfl,?_⟩) ?_ ?_
          rotate_left
          ·intro w';go_simp;with_reducible rfl
          rotate_left
          ·simp only [Act.put,List.setIfInBounds_toArray,List.set_cons_zero,List.set_cons_succ,i64_w,i32_w]
           rfl
          refine pure_ (i:=1) (N:=some 16) (v:=?_) (a':=?_) q2_ rfl rfl (any_of HT_.out (by kernel_rfl)) (fun _ _ _ h => h) (Or.inl ⟨by rfl,?_⟩) ?_ ?_
          rotate_left
          ·intro w';go_simp;with_reducible rfl
          rotate_left
          ·simp only [Act.put,List.setIfInBounds_toArray,List.set_cons_zero,List.set_cons_succ,i64_w,i32_w]
           rfl
          refine pure_ (i:=2) (N:=some 17) (v:=?_) (a':=?_) q3_ rfl rfl (any_of HT_.out (by kernel_rfl)) (fun _ _ _ h => h) (Or.inl ⟨by rfl,?_⟩) ?_ ?_
          rotate_left
          ·intro w';go_simp;with_reducible rfl
          rotate_left
          ·simp only [Act.put,List.setIfInBounds_toArray,List.set_cons_zero,List.set_cons_succ,i64_w,i32_w]
           rfl
          refine pure_ (i:=3) (N:=some 18) (v:=undef) (a':=?_) q4_ rfl rfl (any_of HT_.out (by kernel_rfl)) (fun _ _ _ h => h) (Or.inr ⟨by rfl,rfl⟩) ?_ ?_
          rotate_left
          ·simp only [Act.put,List.setIfInBounds_toArray,List.set_cons_zero,List.set_cons_succ,i64_w,i32_w]
           rfl
          refine pure_ (i:=4) (N:=some 19) (v:=undef) (a':=?_) q5_ rfl rfl (any_of HT_.out (by kernel_rfl)) (fun _ _ _ h => h) (Or.inr ⟨by rfl,rfl⟩) ?_ ?_
          rotate_left
          ·simp only [Act.put,List.setIfInBounds_toArray,List.set_cons_zero,List.set_cons_succ,i64_w,i32_w]
           rfl
          refine pure_ (i:=5) (N:=some 20) (v:=undef) (a':=?_) q6_ rfl rfl (any_of HT_.out (by kernel_rfl)) (fun _ _ _ h => h) (Or.inr ⟨by rfl,rfl⟩) ?_ ?_
          rotate_left
          ·simp only [Act.put,List.setIfInBounds_toArray,List.set_cons_zero,List.set_cons_succ,i64_w,i32_w]
           rfl
          refine pure_ (i:=6) (N:=some 21) (v:=undef) (a':=?_) q7_ rfl rfl (any_of HT_.out (by kernel_rfl)) (fun _ _ _ h => h) (Or.inr ⟨by rfl,rfl⟩) ?_ ?_
          rotate_left
          ·simp only [Act.put,List.setIfInBounds_toArray,List.set_cons_zero,List.set_cons_succ,i64_w,i32_w]
           rfl
          refine pure_ (i:=7) (N:=some 22) (v:=undef) (a':=?_) q8_ rfl rfl (any_of HT_.out (by kernel_rfl)) (fun _ _ _ h => h) (Or.inr ⟨by rfl,rfl⟩) ?_ ?_
          rotate_left
          ·simp only [Act.put,List.setIfInBounds_toArray,List.set_cons_zero,List.set_cons_succ,i64_w,i32_w]
           rfl
          refine pure_ (i:=8) (N:=some 23) (v:=undef) (a':=?_) q37_ rfl rfl (any_of HT_.out (by kernel_rfl)) (fun _ _ _ h => h) (Or.inr ⟨by rfl,rfl⟩) ?_ ?_
          rotate_left
          ·simp only [Act.put,List.setIfInBounds_toArray,List.set_cons_zero,List.set_cons_succ,i64_w,i32_w]
           rfl
          refine pure_ (i:=9) (N:=some 24) (v:=undef) (a':=?_) q10_ rfl rfl (any_of HT_.out (by kernel_rfl)) (fun _ _ _ h => h) (Or.inr ⟨by rfl,rfl⟩) ?_ ?_
          rotate_left
          ·simp only [Act.put,List.setIfInBounds_toArray,List.set_cons_zero,List.set_cons_succ,i64_w,i32_w]
           rfl
          refine pure_ (i:=10) (N:=some 25) (v:=undef) (a':=?_) q11_ rfl rfl (any_of HT_.out (by kernel_rfl)) (fun _ _ _ h => h) (Or.inr ⟨by rfl,rfl⟩) ?_ ?_
          rotate_left
          ·simp only [Act.put,List.setIfInBounds_toArray,List.set_cons_zero,List.set_cons_succ,i64_w,i32_w]
           rfl
          refine pure_ (i:=11) (N:=some 26) (v:=undef) (a':=?_) q12_ rfl rfl (any_of HT_.out (by kernel_rfl)) (fun _ _ _ h => h) (Or.inr ⟨by rfl,rfl⟩) ?_ ?_
          rotate_left
          ·simp only [Act.put,List.setIfInBounds_toArray,List.set_cons_zero,List.set_cons_succ,i64_w,i32_w]
           rfl
          refine pure_ (i:=12) (N:=some 27) (v:=?_) (a':=?_) q13_ rfl rfl (any_of HT_.out (by kernel_rfl)) (fun _ _ _ h => h) (Or.inl ⟨by rfl,?_⟩) ?_ ?_
          rotate_left
          ·intro w';go_simp;with_reducible rfl
          rotate_left
          ·simp only [Act.put,List.setIfInBounds_toArray,List.set_cons_zero,List.set_cons_succ,i64_w,i32_w]
           rfl
          refine pure_ (i:=13) (N:=some 28) (v:=?_) (a':=?_) q14_ rfl rfl (any_of HT_.out (by kernel_rfl)) (fun _ _ _ h => h) (Or.inl ⟨by rfl,?_⟩) ?_ ?_
          rotate_left
          ·intro w';go_simp;with_reducible rfl
          rotate_left
          ·simp only [Act.put,List.setIfInBounds_toArray,List.set_cons_zero,List.set_cons_succ,i64_w,i32_w]
           rfl
          refine pure_ (i:=14) (N:=some 29) (v:=?_) (a':=?_) q15_ rfl rfl (any_of HT_.out (by kernel_rfl)) (fun _ _ _ h => h) (Or.inl ⟨by rfl,?_⟩) ?_ ?_
          rotate_left
          ·intro w';go_simp;with_reducible rfl
          rotate_left
          ·simp only [Act.put,List.setIfInBounds_toArray,List.set_cons_zero,List.set_cons_succ,i64_w,i32_w]
           rfl
          refine take_ (i:=15) (N:=some 30) (v:=?_) (a':=?_) q16_ rfl rfl (take_ofW HT_.out HW_.out (by kernel_rfl)) (fun _ _ _ h => h) (Or.inl ⟨by rfl,?_⟩) hHeld ?_ ?_
          rotate_left
          ·rintro w' ⟨s0,s1,s2,s3,s4,s5,s6⟩
           go_simp;with_reducible rfl
          rotate_left
          ·simp only [Act.put,List.setIfInBounds_toArray,List.set_cons_zero,List.set_cons_succ,i64_w,i32_w]
           rfl
          refine one_ (i:=16) (N:=some 31) q17_ rfl rfl (one_of HT_.out (by kernel_rfl)) (by decide) (fun K hK => ?_)
          refine goes_ Try.func71 (by kernel_rfl) rfl #[.agg #[.int .i64 ((rd_T94 l0 x10_1).f1.f0),.slice A220_2 ((rd_T94 l0 x10_1).f1.f1).length c220_2,.int .i64 ((rd_T94 l0 x10_1).f1.f2.f0),.int .i64 ((rd_T94 l0 x10_1).f1.f2.f1),.int .i64 ((rd_T94 l0 x10_1).f1.f2.f2)]] (by rfl) rfl rfl (by (try simp only [List.map_toArray,List.map_cons,List.map_nil]);first|done|rfl|(simp only [List.length_drop,List.length_take];rfl)) ?_
          with_reducible refine (impl_IsResource.calls k1 ((rd_T94 l0 x10_1).f1.f0) _ _ ((rd_T94 l0 x10_1).f1.f1) ((rd_T94 l0 x10_1).f1.f2.f0) ((rd_T94 l0 x10_1).f1.f2.f1) ((rd_T94 l0 x10_1).f1.f2.f2) true _ ?side1 ?side2 A44.out).mono ?_
          (case side1 => repeat (first|exact (Kd.C_below HR220_2.out HB.out)|(with_reducible refine Kd.C_alloc ?_ _)|(with_reducible refine Kd.C_drewN ?_ _)|(with_reducible refine Kd.C_drew ?_)))
          (case side2 => exact HC220_2.out)
          rintro e w66 ⟨rfl,hb⟩
          refine ⟨_,rfl,?_⟩
          have n0_:=Aside0.mk (blk_below (g:=gb221) (o:=.cells #[.int .i64 ((rd_T94 l0 x10_1).f0),.int .i64 ((rd_T94 l0 x10_1).f1.f0),.slice A220_2 ((rd_T94 l0 x10_1).f1.f1).length c220_2,.int .i64 ((rd_T94 l0 x10_1).f1.f2.f0),.int .i64 ((rd_T94 l0 x10_1).f1.f2.f1),.int .i64 ((rd_T94 l0 x10_1).f1.f2.f2),.int .i64 ((rd_T94 l0 x10_1).f2)] 94 (0,0)) (by (with_reducible repeat (first|refine blk_drewN ?_ _|refine blk_drew ?_|refine blk_alloc ?_ _));exact BK221.out) hb)
          have n1_:=Aside0.mk (below_step (by repeat (first|(with_reducible first|exact HB.out|apply below_alloc|apply pw_below_drewN|apply below_drew1|refine below_set ?_ GE221.out)|exact HB.out)) hb)
          clear BK221;clear HB;have BK221:=n0_;have HB:=n1_;clear n0_ n1_;(try clear hb);refine hK.out _ _ ⟨(blk_cell BK221.out 0).trans rfl,(blk_cell BK221.out 1).trans rfl,(blk_cell BK221.out 2).trans rfl,(blk_cell BK221.out 3).trans rfl,(blk_cell BK221.out 4).trans rfl,(blk_cell BK221.out 5).trans rfl,(blk_cell BK221.out 6).trans rfl⟩ (fun hHeld => ?_)
          clear hK K;refine norm_ (a':=?_) ?_ ?_
          rotate_left
          ·show Act.put _ (some 31) _ = _
           simp only [Act.put,List.setIfInBounds_toArray,List.set_cons_zero,List.set_cons_succ,i64_w,i32_w]
           rfl
          refine pure_ (i:=17) (N:=some 32) (v:=?_) (a':=?_) q18_ rfl rfl (any_of HT_.out (by kernel_rfl)) (fun _ _ _ h => h) (Or.inl ⟨by rfl,?_⟩) ?_ ?_
          rotate_left
          ·intro w';go_simp;with_reducible rfl
          rotate_left
          ·simp only [Act.put,List.setIfInBounds_toArray,List.set_cons_zero,List.set_cons_succ,i64_w,i32_w]
           rfl
          refine pure_ (i:=18) (N:=some 33) (v:=?_) (a':=?_) q19_ rfl rfl (any_of HT_.out (by kernel_rfl)) (fun _ _ _ h => h) (Or.inl ⟨by rfl,?_⟩) ?_ ?_
          rotate_left
          ·intro w';go_simp;with_reducible rfl
          rotate_left
          ·simp only [Act.put,List.setIfInBounds_toArray,List.set_cons_zero,List.set_cons_succ,i64_w,i32_w]
           rfl
          refine pure_ (i:=19) (N:=some 34) (v:=?_) (a':=?_) q20_ rfl rfl (any_of HT_.out (by kernel_rfl)) (fun _ _ _ h => h) (Or.inl ⟨by rfl,?_⟩) ?_ ?_
          rotate_left
          ·intro w';go_simp;with_reducible rfl
          rotate_left
          ·simp only [Act.put,List.setIfInBounds_toArray,List.set_cons_zero,List.set_cons_succ,i64_w,i32_w]
           rfl
          refine pure_ (i:=20) (N:=some 35) (v:=?_) (a':=?_) q21_ rfl rfl (any_of HT_.out (by kernel_rfl)) (fun _ _ _ h => h) (Or.inl ⟨by rfl,?_⟩) ?_ ?_
          rotate_left
          ·intro w';go_simp;with_reducible rfl
          rotate_left
          ·simp only [Act.put,List.setIfInBounds_toArray,List.set_cons_zero,List.set_cons_succ,i64_w,i32_w]
           rfl
          refine pure_ (i:=23) (N:=some 38) (v:=?_) (a':=?_) q34_ rfl rfl (any_of HT_.out (by kernel_rfl)) (fun _ _ _ h => h) (Or.inl ⟨by rfl,?_⟩) ?_ ?_
          rotate_left
          ·intro w';go_simp;with_reducible rfl
          rotate_left
          ·simp only [Act.put,List.setIfInBounds_toArray,List.set_cons_zero,List.set_cons_succ,i64_w,i32_w]
           rfl
          refine take_ (i:=21) (N:=some 36) (v:=?_) (a':=?_) q35_ rfl rfl (take_ofW HT_.out HW_.out (by kernel_rfl)) (fun _ _ _ h => h) (Or.inl ⟨by rfl,?_⟩) hHeld ?_ ?_
          rotate_left
          ·rintro w' ⟨s0,s1,s2,s3,s4,s5,s6⟩
           go_simp;with_reducible rfl
          rotate_left
          ·simp only [Act.put,List.setIfInBounds_toArray,List.set_cons_zero,List.set_cons_succ,i64_w,i32_w]
           rfl
          refine take_ (i:=24) (N:=some 39) (v:=?_) (a':=?_) q36_ rfl rfl (take_ofW HT_.out HW_.out (by kernel_rfl)) (fun _ _ _ h => h) (Or.inl ⟨by rfl,?_⟩) hHeld ?_ ?_
          rotate_left
          ·rintro w' ⟨s0,s1,s2,s3,s4,s5,s6⟩
           go_simp;with_reducible rfl
          rotate_left
          ·simp only [Act.put,List.setIfInBounds_toArray,List.set_cons_zero,List.set_cons_succ,i64_w,i32_w]
           rfl
          refine one_ (i:=22) (N:=some 37) q25_ rfl rfl (one_of HT_.out (by kernel_rfl)) (by decide) (fun K hK => ?_)
          refine goes_ Try.func72 (by kernel_rfl) rfl #[.agg #[.int .i64 ((rd_T94 l0 x10_1).f1.f0),.slice A220_2 ((rd_T94 l0 x10_1).f1.f1).length c220_2,.int .i64 ((rd_T94 l0 x10_1).f1.f2.f0),.int .i64 ((rd_T94 l0 x10_1).f1.f2.f1),.int .i64 ((rd_T94 l0 x10_1).f1.f2.f2)]] (by rfl) rfl rfl (by (try simp only [List.map_toArray,List.map_cons,List.map_nil]);first|done|rfl|(simp only [List.length_drop,List.length_take];rfl)) ?_
          with_reducible refine (impl_DigestOf.calls k1 ((rd_T94 l0 x10_1).f1.f0) _ _ ((rd_T94 l0 x10_1).f1.f1) ((rd_T94 l0 x10_1).f1.f2.f0) ((rd_T94 l0 x10_1).f1.f2.f1) ((rd_T94 l0 x10_1).f1.f2.f2) t227 _ ?side1 ?side2 A46.out).mono ?_
          (case side1 => repeat (first|exact (Kd.C_below HR220_2.out HB.out)|(with_reducible refine Kd.C_alloc ?_ _)|(with_reducible refine Kd.C_drewN ?_ _)|(with_reducible refine Kd.C_drew ?_)))
          (case side2 => exact HC220_2.out)
          rintro e w67 ⟨rfl,hb⟩
          refine ⟨_,rfl,?_⟩
          have n0_:=Aside0.mk (blk_below (g:=gb221) (o:=.cells #[.int .i64 ((rd_T94 l0 x10_1).f0),.int .i64 ((rd_T94 l0 x10_1).f1.f0),.slice A220_2 ((rd_T94 l0 x10_1).f1.f1).length c220_2,.int .i64 ((rd_T94 l0 x10_1).f1.f2.f0),.int .i64 ((rd_T94 l0 x10_1).f1.f2.f1),.int .i64 ((rd_T94 l0 x10_1).f1.f2.f2),.int .i64 ((rd_T94 l0 x10_1).f2)] 94 (0,0)) (by (with_reducible repeat (first|refine blk_drewN ?_ _|refine blk_drew ?_|refine blk_alloc ?_ _));exact BK221.out) hb)
          have n1_:=Aside0.mk (below_step (by repeat (first|(with_reducible first|exact HB.out|apply below_alloc|apply pw_below_drewN|apply below_drew1|refine below_set ?_ GE221.out)|exact HB.out)) hb)
          clear BK221;clear HB;have BK221:=n0_;have HB:=n1_;clear n0_ n1_;(try clear hb);refine hK.out _ _ ⟨(blk_cell BK221.out 0).trans rfl,(blk_cell BK221.out 1).trans rfl,(blk_cell BK221.out 2).trans rfl,(blk_cell BK221.out 3).trans rfl,(blk_cell BK221.out 4).trans rfl,(blk_cell BK221.out 5).trans rfl,(blk_cell BK221.out 6).trans rfl⟩ (fun hHeld => ?_)
          clear hK K;refine norm_ (a':=?_) ?_ ?_
          rotate_left
          ·show Act.put _ (some 37) _ = _
           simp only [Act.put,List.setIfInBounds_toArray,List.set_cons_zero,List.set_cons_succ,i64_w,i32_w]
           rfl
          refine pure_ (i:=25) (N:=some 40) (v:=?_) (a':=?_) q26_ rfl rfl (any_of HT_.out (by kernel_rfl)) (fun _ _ _ h => h) (Or.inl ⟨by rfl,?_⟩) ?_ ?_
          rotate_left
          ·intro w';go_simp;with_reducible rfl
          rotate_left
          ·simp only [Act.put,List.setIfInBounds_toArray,List.set_cons_zero,List.set_cons_succ,i64_w,i32_w]
           rfl
          refine pure_ (i:=26) (N:=some 41) (v:=?_) (a':=?_) q27_ rfl rfl (any_of HT_.out (by kernel_rfl)) (fun _ _ _ h => h) (Or.inl ⟨by rfl,?_⟩) ?_ ?_
          rotate_left
          ·intro w';go_simp;with_reducible rfl
          rotate_left
          ·simp only [Act.put,List.setIfInBounds_toArray,List.set_cons_zero,List.set_cons_succ,i64_w,i32_w]
           rfl
          refine pure_ (i:=27) (N:=some 42) (v:=?_) (a':=?_) q28_ rfl rfl (any_of HT_.out (by kernel_rfl)) (fun _ _ _ h => h) (Or.inl ⟨by rfl,?_⟩) ?_ ?_
          rotate_left
          ·intro w';go_simp;with_reducible rfl
          rotate_left
          ·simp only [Act.put,List.setIfInBounds_toArray,List.set_cons_zero,List.set_cons_succ,i64_w,i32_w]
           rfl
          refine pure_ (i:=28) (N:=some 43) (v:=undef) (a':=?_) q29_ rfl rfl (any_of HT_.out (by kernel_rfl)) (fun _ _ _ h => h) (Or.inr ⟨by rfl,rfl⟩) ?_ ?_
          rotate_left
          ·simp only [Act.put,List.setIfInBounds_toArray,List.set_cons_zero,List.set_cons_succ,i64_w,i32_w]
           rfl
          refine pure_ (i:=29) (N:=some 44) (v:=undef) (a':=?_) q30_ rfl rfl (any_of HT_.out (by kernel_rfl)) (fun _ _ _ h => h) (Or.inr ⟨by rfl,rfl⟩) ?_ ?_
          rotate_left
          ·simp only [Act.put,List.setIfInBounds_toArray,List.set_cons_zero,List.set_cons_succ,i64_w,i32_w]
           rfl
          refine pure_ (i:=30) (N:=some 45) (v:=undef) (a':=?_) q31_ rfl rfl (any_of HT_.out (by kernel_rfl)) (fun _ _ _ h => h) (Or.inr ⟨by rfl,rfl⟩) ?_ ?_
          rotate_left
          ·simp only [Act.put,List.setIfInBounds_toArray,List.set_cons_zero,List.set_cons_succ,i64_w,i32_w]
           rfl
          refine pure_ (i:=31) (N:=some 46) (v:=undef) (a':=?_) q32_ rfl rfl (any_of HT_.out (by kernel_rfl)) (fun _ _ _ h => h) (Or.inr ⟨by rfl,rfl⟩) ?_ ?_
          rotate_left
          ·simp only [Act.put,List.setIfInBounds_toArray,List.set_cons_zero,List.set_cons_succ,i64_w,i32_w]
           rfl
          refine pure_ (i:=32) (N:=some 47) (v:=?_) (a':=?_) q33_ rfl rfl (any_of HT_.out (by kernel_rfl)) (fun _ _ _ h => h) (Or.inl ⟨by rfl,?_⟩) ?_ ?_
          rotate_left
          ·intro w';go_simp;with_reducible rfl
          rotate_left
          ·simp only [Act.put,List.setIfInBounds_toArray,List.set_cons_zero,List.set_cons_succ,i64_w,i32_w]
           rfl
          refine done_ (done_of HT_.out (by kernel_rfl)) ?_
          try go_wp2
          go_ret
          exact ⟨by first|rfl|(simp [errW_none,errW_some] <;> rfl)|(simp [*,errW_none,errW_some] <;> rfl),by repeat (first|(with_reducible first|exact HB.out|apply below_alloc|apply pw_below_drewN|apply below_drew1|refine below_set ?_ GE221.out)|exact HB.out)⟩
        ·replace c45:=Bool.eq_false_iff.mpr c45
         subst c45
         have H1 : (some false) = some r:=by rw [if_neg (show ¬ (false = true) by decide)] at H;exact H
         clear H;have H:=H1;clear H1;obtain rfl:=Option.some.inj H
         have p220 : 0 ≤ (x10_1 : Int):=of_decide_eq_true (by first|(with_reducible assumption)|assumption)
         have q220 : x10_1 < (l0.length : Int):=of_decide_eq_true (by first|(with_reducible assumption)|assumption)
         obtain ⟨ad220,A220_2,c220_2,e220,hx220_0,hx220_1,hx220_2,hx220_3,hx220_4,hx220_5,hx220_6,hl220_2,hi220_2⟩:=at_T94 HR0.out x10_1 p220 q220
         cases e220
         replace hx220_0:=(HB.out.cell (World.block_lt_of_cell? w _ hx220_0)).trans hx220_0
         replace hx220_1:=(HB.out.cell (World.block_lt_of_cell? w _ hx220_1)).trans hx220_1
         replace hx220_2:=(HB.out.cell (World.block_lt_of_cell? w _ hx220_2)).trans hx220_2
         replace hx220_3:=(HB.out.cell (World.block_lt_of_cell? w _ hx220_3)).trans hx220_3
         replace hx220_4:=(HB.out.cell (World.block_lt_of_cell? w _ hx220_4)).trans hx220_4
         replace hx220_5:=(HB.out.cell (World.block_lt_of_cell? w _ hx220_5)).trans hx220_5
         replace hx220_6:=(HB.out.cell (World.block_lt_of_cell? w _ hx220_6)).trans hx220_6
         have HR220_2:=Aside0.mk hi220_2;have HC220_2:=Aside0.mk hl220_2;clear hi220_2 hl220_2;replace p220:=eq_true p220
         replace q220:=eq_true q220
         try go_wp2_with (first|((with_reducible refine gate_dst (N:=4) rfl ?_);refine box_event ?hg (N:=4) ?hd (cs:=#[.int .i64 0,.int .i64 0,.slice none 0 0,.int .i64 0,.int .i64 0,.int .i64 0,.int .i64 0]) (t:=94) ?hr ?_;(case hd => rfl);(case hg => rfl);(case hr => first|(go_simp;done)|(go_simp;rfl));intro gb221 hg w68 hbox hb;have n0_:=Aside0.mk (below_step (by repeat (first|(with_reducible first|exact HB.out|apply below_alloc|apply pw_below_drewN|apply below_drew1)|exact HB.out)) hb);have n1_:=Aside0.mk (hbox);have n2_:=Aside0.mk ((by rw [hg];exact (below_size (by repeat (first|(with_reducible first|exact HB.out|apply below_alloc|apply pw_below_drewN|apply below_drew1)|exact HB.out))) : w.heap.size ≤ gb221));have n3_:=Aside0.mk ((by rw [hg];exact (below_size (by repeat (first|(with_reducible first|exact HB.out|apply below_alloc|apply pw_below_drewN|apply below_drew1)|exact HB.out))) : w.heap.size ≤ gb221));clear HB;have HB:=n0_;have BK221:=n1_;have GW221:=n2_;have GE221:=n3_;clear n0_ n1_ n2_ n3_;clear hb hbox hg;have hcz69_0 : w68.cell? ⟨gb221,0,none⟩ = some (.int .i64 0):=(blk_cell BK221.out 0).trans rfl;have hcz69_1 : w68.cell? ⟨gb221,1,none⟩ = some (.int .i64 0):=(blk_cell BK221.out 1).trans rfl;have hcz69_2 : w68.cell? ⟨gb221,2,none⟩ = some (.slice none 0 0):=(blk_cell BK221.out 2).trans rfl;have hcz69_3 : w68.cell? ⟨gb221,3,none⟩ = some (.int .i64 0):=(blk_cell BK221.out 3).trans rfl;have hcz69_4 : w68.cell? ⟨gb221,4,none⟩ = some (.int .i64 0):=(blk_cell BK221.out 4).trans rfl;have hcz69_5 : w68.cell? ⟨gb221,5,none⟩ = some (.int .i64 0):=(blk_cell BK221.out 5).trans rfl;have hcz69_6 : w68.cell? ⟨gb221,6,none⟩ = some (.int .i64 0):=(blk_cell BK221.out 6).trans rfl;have hfz69_0:=blk_frozen BK221.out 0;have hfz69_1:=blk_frozen BK221.out 1;have hfz69_2:=blk_frozen BK221.out 2;have hfz69_3:=blk_frozen BK221.out 3;have hfz69_4:=blk_frozen BK221.out 4;have hfz69_5:=blk_frozen BK221.out 5;have hfz69_6:=blk_frozen BK221.out 6))
         have n0_ : Aside0 ((((((((w68.setCell ⟨gb221,0,none⟩ (.int .i64 ((rd_T94 l0 x10_1).f0))).setCell ⟨gb221,1,none⟩ (.int .i64 ((rd_T94 l0 x10_1).f1.f0))).setCell ⟨gb221,2,none⟩ (.slice A220_2 ((rd_T94 l0 x10_1).f1.f1).length c220_2)).setCell ⟨gb221,3,none⟩ (.int .i64 ((rd_T94 l0 x10_1).f1.f2.f0))).setCell ⟨gb221,4,none⟩ (.int .i64 ((rd_T94 l0 x10_1).f1.f2.f1))).setCell ⟨gb221,5,none⟩ (.int .i64 ((rd_T94 l0 x10_1).f1.f2.f2))).setCell ⟨gb221,6,none⟩ (.int .i64 ((rd_T94 l0 x10_1).f2))).heap[gb221]? = some (.cells #[.int .i64 ((rd_T94 l0 x10_1).f0),.int .i64 ((rd_T94 l0 x10_1).f1.f0),.slice A220_2 ((rd_T94 l0 x10_1).f1.f1).length c220_2,.int .i64 ((rd_T94 l0 x10_1).f1.f2.f0),.int .i64 ((rd_T94 l0 x10_1).f1.f2.f1),.int .i64 ((rd_T94 l0 x10_1).f1.f2.f2),.int .i64 ((rd_T94 l0 x10_1).f2)] 94 (0,0))):=⟨by (with_reducible repeat (first|refine blk_drewN ?_ _|refine blk_drew ?_|refine blk_alloc ?_ _));refine blk_put (cs:=#[.int .i64 ((rd_T94 l0 x10_1).f0),.int .i64 ((rd_T94 l0 x10_1).f1.f0),.slice A220_2 ((rd_T94 l0 x10_1).f1.f1).length c220_2,.int .i64 ((rd_T94 l0 x10_1).f1.f2.f0),.int .i64 ((rd_T94 l0 x10_1).f1.f2.f1),.int .i64 ((rd_T94 l0 x10_1).f1.f2.f2),.int .i64 0]) ?_ 6 _ rfl;(with_reducible repeat (first|refine blk_drewN ?_ _|refine blk_drew ?_|refine blk_alloc ?_ _));refine blk_put (cs:=#[.int .i64 ((rd_T94 l0 x10_1).f0),.int .i64 ((rd_T94 l0 x10_1).f1.f0),.slice A220_2 ((rd_T94 l0 x10_1).f1.f1).length c220_2,.int .i64 ((rd_T94 l0 x10_1).f1.f2.f0),.int .i64 ((rd_T94 l0 x10_1).f1.f2.f1),.int .i64 0,.int .i64 0]) ?_ 5 _ rfl;(with_reducible repeat (first|refine blk_drewN ?_ _|refine blk_drew ?_|refine blk_alloc ?_ _));refine blk_put (cs:=#[.int .i64 ((rd_T94 l0 x10_1).f0),.int .i64 ((rd_T94 l0 x10_1).f1.f0),.slice A220_2 ((rd_T94 l0 x10_1).f1.f1).length c220_2,.int .i64 ((rd_T94 l0 x10_1).f1.f2.f0),.int .i64 0,.int .i64 0,.int .i64 0]) ?_ 4 _ rfl;(with_reducible repeat (first|refine blk_drewN ?_ _|refine blk_drew ?_|refine blk_alloc ?_ _));refine blk_put (cs:=#[.int .i64 ((rd_T94 l0 x10_1).f0),.int .i64 ((rd_T94 l0 x10_1).f1.f0),.slice A220_2 ((rd_T94 l0 x10_1).f1.f1).length c220_2,.int .i64 0,.int .i64 0,.int .i64 0,.int .i64 0]) ?_ 3 _ rfl;(with_reducible repeat (first|refine blk_drewN ?_ _|refine blk_drew ?_|refine blk_alloc ?_ _));refine blk_put (cs:=#[.int .i64 ((rd_T94 l0 x10_1).f0),.int .i64 ((rd_T94 l0 x10_1).f1.f0),.slice none 0 0,.int .i64 0,.int .i64 0,.int .i64 0,.int .i64 0]) ?_ 2 _ rfl;(with_reducible repeat (first|refine blk_drewN ?_ _|refine blk_drew ?_|refine blk_alloc ?_ _));refine blk_put (cs:=#[.int .i64 ((rd_T94 l0 x10_1).f0),.int .i64 0,.slice none 0 0,.int .i64 0,.int .i64 0,.int .i64 0,.int .i64 0]) ?_ 1 _ rfl;(with_reducible repeat (first|refine blk_drewN ?_ _|refine blk_drew ?_|refine blk_alloc ?_ _));refine blk_put (cs:=#[.int .i64 0,.int .i64 0,.slice none 0 0,.int .i64 0,.int .i64 0,.int .i64 0,.int .i64 0]) ?_ 0 _ rfl;(with_reducible repeat (first|refine blk_drewN ?_ _|refine blk_drew ?_|refine blk_alloc ?_ _));exact BK221.out⟩
         have n1_ : Aside0 (Below w.heap.size w (((((((w68.setCell ⟨gb221,0,none⟩ (.int .i64 ((rd_T94 l0 x10_1).f0))).setCell ⟨gb221,1,none⟩ (.int .i64 ((rd_T94 l0 x10_1).f1.f0))).setCell ⟨gb221,2,none⟩ (.slice A220_2 ((rd_T94 l0 x10_1).f1.f1).length c220_2)).setCell ⟨gb221,3,none⟩ (.int .i64 ((rd_T94 l0 x10_1).f1.f2.f0))).setCell ⟨gb221,4,none⟩ (.int .i64 ((rd_T94 l0 x10_1).f1.f2.f1))).setCell ⟨gb221,5,none⟩ (.int .i64 ((rd_T94 l0 x10_1).f1.f2.f2))).setCell ⟨gb221,6,none⟩ (.int .i64 ((rd_T94 l0 x10_1).f2)))):=⟨by repeat (first|(with_reducible first|exact HB.out|apply below_alloc|apply pw_below_drewN|apply below_drew1|refine below_set ?_ GE221.out)|exact HB.out)⟩
         (try clear BK221);(try clear HB);generalize (((((((w68.setCell ⟨gb221,0,none⟩ (.int .i64 ((rd_T94 l0 x10_1).f0))).setCell ⟨gb221,1,none⟩ (.int .i64 ((rd_T94 l0 x10_1).f1.f0))).setCell ⟨gb221,2,none⟩ (.slice A220_2 ((rd_T94 l0 x10_1).f1.f1).length c220_2)).setCell ⟨gb221,3,none⟩ (.int .i64 ((rd_T94 l0 x10_1).f1.f2.f0))).setCell ⟨gb221,4,none⟩ (.int .i64 ((rd_T94 l0 x10_1).f1.f2.f1))).setCell ⟨gb221,5,none⟩ (.int .i64 ((rd_T94 l0 x10_1).f1.f2.f2))).setCell ⟨gb221,6,none⟩ (.int .i64 ((rd_T94 l0 x10_1).f2))) = w70 at n0_ n1_ ⊢
         have BK221:=n0_;have HB:=n1_;clear n0_ n1_;have n0_:=Aside0.mk (blk_drew BK221.out)
         have n1_:=Aside0.mk (below_drew1 HB.out)
         clear BK221;clear HB;have BK221:=n0_;have HB:=n1_;clear n0_ n1_;refine start_ (n:=33) (S:=fun w' => w'.cell? ⟨gb221,0,none⟩ = some (.int .i64 ((rd_T94 l0 x10_1).f0)) ∧ w'.cell? ⟨gb221,1,none⟩ = some (.int .i64 ((rd_T94 l0 x10_1).f1.f0)) ∧ w'.cell? ⟨gb221,2,none⟩ = some (.slice A220_2 ((rd_T94 l0 x10_1).f1.f1).length c220_2) ∧ w'.cell? ⟨gb221,3,none⟩ = some (.int .i64 ((rd_T94 l0 x10_1).f1.f2.f0)) ∧ w'.cell? ⟨gb221,4,none⟩ = some (.int .i64 ((rd_T94 l0 x10_1).f1.f2.f1)) ∧ w'.cell? ⟨gb221,5,none⟩ = some (.int .i64 ((rd_T94 l0 x10_1).f1.f2.f2)) ∧ w'.cell? ⟨gb221,6,none⟩ = some (.int .i64 ((rd_T94 l0 x10_1).f2))) (ds:=[]) q0_ (by kernel_rfl) rfl rfl ⟨(blk_cell BK221.out 0).trans rfl,(blk_cell BK221.out 1).trans rfl,(blk_cell BK221.out 2).trans rfl,(blk_cell BK221.out 3).trans rfl,(blk_cell BK221.out 4).trans rfl,(blk_cell BK221.out 5).trans rfl,(blk_cell BK221.out 6).trans rfl⟩ (fun hHeld => ?_);refine with_tabW impl_IsStore.tab6 impl_IsStore.bits6 (fun HT_ HW_ => ?_)
         generalize w70.drew = w71 at BK221 HB hHeld ⊢
         refine pure_ (i:=0) (N:=some 15) (v:=?_) (a':=?_) q1_ rfl rfl (any_of HT_.out (by kernel_rfl)) (fun _ _ _ h => h) (Or.inl ⟨by rfl,?_⟩) ?_ ?_
         rotate_left
         ·intro w';go_simp;with_reducible rfl
         rotate_left
         ·simp only [Act.put,List.setIfInBounds_toArray,List.set_cons_zero,List.set_cons_succ,i64_w,i32_w]
          rfl
         refine pure_ (i:=1) (N:=some 16) (v:=?_) (a':=?_) q2_ rfl rfl (any_of HT_.out (by kernel_rfl)) (fun _ _ _ h => h) (Or.inl ⟨by rfl,?_⟩) ?_ ?_
         rotate_left
         ·intro w';go_simp;with_reducible rfl
         rotate_left
         ·simp only [Act.put,List.setIfInBounds_toArray,List.set_cons_zero,List.set_cons_succ,i64_w,i32_w]
          rfl
         refine pure_ (i:=2) (N:=some 17) (v:=?_) (a':=?_) q3_ rfl rfl (any_of HT_.out (by kernel_rfl)) (fun _ _ _ h => h) (Or.inl ⟨by rfl,?_⟩) ?_ ?_
         rotate_left
         ·intro w';go_simp;with_reducible rfl
         rotate_left
         ·simp only [Act.put,List.setIfInBounds_toArray,List.set_cons_zero,List.set_cons_succ,i64_w,i32_w]
          rfl
         refine pure_ (i:=3) (N:=some 18) (v:=undef) (a':=?_) q4_ rfl rfl (any_of HT_.out (by kernel_rfl)) (fun _ _ _ h => h) (Or.inr ⟨by rfl,rfl⟩) ?_ ?_
         rotate_left
         ·simp only [Act.put,List.setIfInBounds_toArray,List.set_cons_zero,List.set_cons_succ,i64_w,i32_w]
          rfl
         refine pure_ (i:=4) (N:=some 19) (v:=undef) (a':=?_) q5_ rfl rfl (any_of HT_.out (by kernel_rfl)) (fun _ _ _ h => h) (Or.inr ⟨by rfl,rfl⟩) ?_ ?_
         rotate_left
         ·simp only [Act.put,List.setIfInBounds_toArray,List.set_cons_zero,List.set_cons_succ,i64_w,i32_w]
          rfl
         refine pure_ (i:=5) (N:=some 20) (v:=undef) (a':=?_) q6_ rfl rfl (any_of HT_.out (by kernel_rfl)) (fun _ _ _ h => h) (Or.inr ⟨by rfl,rfl⟩) ?_ ?_
         rotate_left
         ·simp only [Act.put,List.setIfInBounds_toArray,List.set_cons_zero,List.set_cons_succ,i64_w,i32_w]
          rfl
         refine pure_ (i:=6) (N:=some 21) (v:=undef) (a':=?_) q7_ rfl rfl (any_of HT_.out (by kernel_rfl)) (fun _ _ _ h => h) (Or.inr ⟨by rfl,rfl⟩) ?_ ?_
         rotate_left
         ·simp only [Act.put,List.setIfInBounds_toArray,List.set_cons_zero,List.set_cons_succ,i64_w,i32_w]
          rfl
         refine pure_ (i:=7) (N:=some 22) (v:=undef) (a':=?_) q8_ rfl rfl (any_of HT_.out (by kernel_rfl)) (fun _ _ _ h => h) (Or.inr ⟨by rfl,rfl⟩) ?_ ?_
         rotate_left
         ·simp only [Act.put,List.setIfInBounds_toArray,List.set_cons_zero,List.set_cons_succ,i64_w,i32_w]
          rfl
         refine pure_ (i:=8) (N:=some 23) (v:=undef) (a':=?_) q37_ rfl rfl (any_of HT_.out (by kernel_rfl)) (fun _ _ _ h => h) (Or.inr ⟨by rfl,rfl⟩) ?_ ?_
         rotate_left
         ·simp only [Act.put,List.setIfInBounds_toArray,List.set_cons_zero,List.set_cons_succ,i64_w,i32_w]
          rfl
         refine pure_ (i:=9) (N:=some 24) (v:=undef) (a':=?_) q10_ rfl rfl (any_of HT_.out (by kernel_rfl)) (fun _ _ _ h => h) (Or.inr ⟨by rfl,rfl⟩) ?_ ?_
         rotate_left
         ·simp only [Act.put,List.setIfInBounds_toArray,List.set_cons_zero,List.set_cons_succ,i64_w,i32_w]
          rfl
         refine pure_ (i:=10) (N:=some 25) (v:=undef) (a':=?_) q11_ rfl rfl (any_of HT_.out (by kernel_rfl)) (fun _ _ _ h => h) (Or.inr ⟨by rfl,rfl⟩) ?_ ?_
         rotate_left
         ·simp only [Act.put,List.setIfInBounds_toArray,List.set_cons_zero,List.set_cons_succ,i64_w,i32_w]
          rfl
         refine pure_ (i:=11) (N:=some 26) (v:=undef) (a':=?_) q12_ rfl rfl (any_of HT_.out (by kernel_rfl)) (fun _ _ _ h => h) (Or.inr ⟨by rfl,rfl⟩) ?_ ?_
         rotate_left
         ·simp only [Act.put,List.setIfInBounds_toArray,List.set_cons_zero,List.set_cons_succ,i64_w,i32_w]
          rfl
         refine pure_ (i:=12) (N:=some 27) (v:=?_) (a':=?_) q13_ rfl rfl (any_of HT_.out (by kernel_rfl)) (fun _ _ _ h => h) (Or.inl ⟨by rfl,?_⟩) ?_ ?_
         rotate_left
         ·intro w';go_simp;with_reducible rfl
         rotate_left
         ·simp only [Act.put,List.setIfInBounds_toArray,List.set_cons_zero,List.set_cons_succ,i64_w,i32_w]
          rfl
         refine pure_ (i:=13) (N:=some 28) (v:=?_) (a':=?_) q14_ rfl rfl (any_of HT_.out (by kernel_rfl)) (fun _ _ _ h => h) (Or.inl ⟨by rfl,?_⟩) ?_ ?_
         rotate_left
         ·intro w';go_simp;with_reducible rfl
         rotate_left
         ·simp only [Act.put,List.setIfInBounds_toArray,List.set_cons_zero,List.set_cons_succ,i64_w,i32_w]
          rfl
         refine pure_ (i:=14) (N:=some 29) (v:=?_) (a':=?_) q15_ rfl rfl (any_of HT_.out (by kernel_rfl)) (fun _ _ _ h => h) (Or.inl ⟨by rfl,?_⟩) ?_ ?_
         rotate_left
         ·intro w';go_simp;with_reducible rfl
         rotate_left
         ·simp only [Act.put,List.setIfInBounds_toArray,List.set_cons_zero,List.set_cons_succ,i64_w,i32_w]
          rfl
         refine take_ (i:=15) (N:=some 30) (v:=?_) (a':=?_) q16_ rfl rfl (take_ofW HT_.out HW_.out (by kernel_rfl)) (fun _ _ _ h => h) (Or.inl ⟨by rfl,?_⟩) hHeld ?_ ?_
         rotate_left
         ·rintro w' ⟨s0,s1,s2,s3,s4,s5,s6⟩
          go_simp;with_reducible rfl
         rotate_left
         ·simp only [Act.put,List.setIfInBounds_toArray,List.set_cons_zero,List.set_cons_succ,i64_w,i32_w]
          rfl
         refine one_ (i:=16) (N:=some 31) q17_ rfl rfl (one_of HT_.out (by kernel_rfl)) (by decide) (fun K hK => ?_)
         refine goes_ Try.func71 (by kernel_rfl) rfl #[.agg #[.int .i64 ((rd_T94 l0 x10_1).f1.f0),.slice A220_2 ((rd_T94 l0 x10_1).f1.f1).length c220_2,.int .i64 ((rd_T94 l0 x10_1).f1.f2.f0),.int .i64 ((rd_T94 l0 x10_1).f1.f2.f1),.int .i64 ((rd_T94 l0 x10_1).f1.f2.f2)]] (by rfl) rfl rfl (by (try simp only [List.map_toArray,List.map_cons,List.map_nil]);first|done|rfl|(simp only [List.length_drop,List.length_take];rfl)) ?_
         with_reducible refine (impl_IsResource.calls k1 ((rd_T94 l0 x10_1).f1.f0) _ _ ((rd_T94 l0 x10_1).f1.f1) ((rd_T94 l0 x10_1).f1.f2.f0) ((rd_T94 l0 x10_1).f1.f2.f1) ((rd_T94 l0 x10_1).f1.f2.f2) false _ ?side1 ?side2 A44.out).mono ?_
         (case side1 => repeat (first|exact (Kd.C_below HR220_2.out HB.out)|(with_reducible refine Kd.C_alloc ?_ _)|(with_reducible refine Kd.C_drewN ?_ _)|(with_reducible refine Kd.C_drew ?_)))
         (case side2 => exact HC220_2.out)
         rintro e w72 ⟨rfl,hb⟩
         refine ⟨_,rfl,?_⟩
         have n0_:=Aside0.mk (blk_below (g:=gb221) (o:=.cells #[.int .i64 ((rd_T94 l0 x10_1).f0),.int .i64 ((rd_T94 l0 x10_1).f1.f0),.slice A220_2 ((rd_T94 l0 x10_1).f1.f1).length c220_2,.int .i64 ((rd_T94 l0 x10_1).f1.f2.f0),.int .i64 ((rd_T94 l0 x10_1).f1.f2.f1),.int .i64 ((rd_T94 l0 x10_1).f1.f2.f2),.int .i64 ((rd_T94 l0 x10_1).f2)] 94 (0,0)) (by (with_reducible repeat (first|refine blk_drewN ?_ _|refine blk_drew ?_|refine blk_alloc ?_ _));exact BK221.out) hb)
         have n1_:=Aside0.mk (below_step (by repeat (first|(with_reducible first|exact HB.out|apply below_alloc|apply pw_below_drewN|apply below_drew1|refine below_set ?_ GE221.out)|exact HB.out)) hb)
         clear BK221;clear HB;have BK221:=n0_;have HB:=n1_;clear n0_ n1_;(try clear hb);refine hK.out _ _ ⟨(blk_cell BK221.out 0).trans rfl,(blk_cell BK221.out 1).trans rfl,(blk_cell BK221.out 2).trans rfl,(blk_cell BK221.out 3).trans rfl,(blk_cell BK221.out 4).trans rfl,(blk_cell BK221.out 5).trans rfl,(blk_cell BK221.out 6).trans rfl⟩ (fun hHeld => ?_)
         clear hK K;refine norm_ (a':=?_) ?_ ?_
         rotate_left
         ·show Act.put _ (some 31) _ = _
          simp only [Act.put,List.setIfInBounds_toArray,List.set_cons_zero,List.set_cons_succ,i64_w,i32_w]
          rfl
         refine pure_ (i:=17) (N:=some 32) (v:=?_) (a':=?_) q18_ rfl rfl (any_of HT_.out (by kernel_rfl)) (fun _ _ _ h => h) (Or.inl ⟨by rfl,?_⟩) ?_ ?_
         rotate_left
         ·intro w';go_simp;with_reducible rfl
         rotate_left
         ·simp only [Act.put,List.setIfInBounds_toArray,List.set_cons_zero,List.set_cons_succ,i64_w,i32_w]
          rfl
         refine pure_ (i:=18) (N:=some 33) (v:=?_) (a':=?_) q19_ rfl rfl (any_of HT_.out (by kernel_rfl)) (fun _ _ _ h => h) (Or.inl ⟨by rfl,?_⟩) ?_ ?_
         rotate_left
         ·intro w';go_simp;with_reducible rfl
         rotate_left
         ·simp only [Act.put,List.setIfInBounds_toArray,List.set_cons_zero,List.set_cons_succ,i64_w,i32_w]
          rfl
         refine pure_ (i:=19) (N:=some 34) (v:=?_) (a':=?_) q20_ rfl rfl (any_of HT_.out (by kernel_rfl)) (fun _ _ _ h => h) (Or.inl ⟨by rfl,?_⟩) ?_ ?_
         rotate_left
         ·intro w';go_simp;with_reducible rfl
         rotate_left
         ·simp only [Act.put,List.setIfInBounds_toArray,List.set_cons_zero,List.set_cons_succ,i64_w,i32_w]
          rfl
         refine pure_ (i:=20) (N:=some 35) (v:=undef) (a':=?_) q21_ rfl rfl (any_of HT_.out (by kernel_rfl)) (fun _ _ _ h => h) (Or.inr ⟨by rfl,rfl⟩) ?_ ?_
         rotate_left
         ·simp only [Act.put,List.setIfInBounds_toArray,List.set_cons_zero,List.set_cons_succ,i64_w,i32_w]
          rfl
         refine pure_ (i:=21) (N:=some 36) (v:=undef) (a':=?_) q22_ rfl rfl (any_of HT_.out (by kernel_rfl)) (fun _ _ _ h => h) (Or.inr ⟨by rfl,rfl⟩) ?_ ?_
         rotate_left
         ·simp only [Act.put,List.setIfInBounds_toArray,List.set_cons_zero,List.set_cons_succ,i64_w,i32_w]
          rfl
         refine pure_ (i:=22) (N:=some 37) (v:=undef) (a':=?_) q23_ rfl rfl (any_of HT_.out (by kernel_rfl)) (fun _ _ _ h => h) (Or.inr ⟨by rfl,rfl⟩) ?_ ?_
         rotate_left
         ·simp only [Act.put,List.setIfInBounds_toArray,List.set_cons_zero,List.set_cons_succ,i64_w,i32_w]
          rfl
         refine pure_ (i:=23) (N:=some 38) (v:=undef) (a':=?_) q24_ rfl rfl (any_of HT_.out (by kernel_rfl)) (fun _ _ _ h => h) (Or.inr ⟨by rfl,rfl⟩) ?_ ?_
         rotate_left
         ·simp only [Act.put,List.setIfInBounds_toArray,List.set_cons_zero,List.set_cons_succ,i64_w,i32_w]
          rfl
         refine pure_ (i:=24) (N:=some 39) (v:=undef) (a':=?_) q25_ rfl rfl (any_of HT_.out (by kernel_rfl)) (fun _ _ _ h => h) (Or.inr ⟨by rfl,rfl⟩) ?_ ?_
         rotate_left
         ·simp only [Act.put,List.setIfInBounds_toArray,List.set_cons_zero,List.set_cons_succ,i64_w,i32_w]
          rfl
         refine pure_ (i:=25) (N:=some 40) (v:=undef) (a':=?_) q26_ rfl rfl (any_of HT_.out (by kernel_rfl)) (fun _ _ _ h => h) (Or.inr ⟨by rfl,rfl⟩) ?_ ?_
         rotate_left
         ·simp only [Act.put,List.setIfInBounds_toArray,List.set_cons_zero,List.set_cons_succ,i64_w,i32_w]
          rfl
         refine pure_ (i:=26) (N:=some 41) (v:=?_) (a':=?_) q27_ rfl rfl (any_of HT_.out (by kernel_rfl)) (fun _ _ _ h => h) (Or.inl ⟨by rfl,?_⟩) ?_ ?_
         rotate_left
         ·intro w';go_simp;with_reducible rfl
         rotate_left
         ·simp only [Act.put,List.setIfInBounds_toArray,List.set_cons_zero,List.set_cons_succ,i64_w,i32_w]
          rfl
         refine pure_ (i:=27) (N:=some 42) (v:=?_) (a':=?_) q28_ rfl rfl (any_of HT_.out (by kernel_rfl)) (fun _ _ _ h => h) (Or.inl ⟨by rfl,?_⟩) ?_ ?_
         rotate_left
         ·intro w';go_simp;with_reducible rfl
         rotate_left
         ·simp only [Act.put,List.setIfInBounds_toArray,List.set_cons_zero,List.set_cons_succ,i64_w,i32_w]
          rfl
         refine pure_ (i:=28) (N:=some 43) (v:=undef) (a':=?_) q29_ rfl rfl (any_of HT_.out (by kernel_rfl)) (fun _ _ _ h => h) (Or.inr ⟨by rfl,rfl⟩) ?_ ?_
         rotate_left
         ·simp only [Act.put,List.setIfInBounds_toArray,List.set_cons_zero,List.set_cons_succ,i64_w,i32_w]
          rfl
         refine pure_ (i:=29) (N:=some 44) (v:=undef) (a':=?_) q30_ rfl rfl (any_of HT_.out (by kernel_rfl)) (fun _ _ _ h => h) (Or.inr ⟨by rfl,rfl⟩) ?_ ?_
         rotate_left
         ·simp only [Act.put,List.setIfInBounds_toArray,List.set_cons_zero,List.set_cons_succ,i64_w,i32_w]
          rfl
         refine pure_ (i:=30) (N:=some 45) (v:=undef) (a':=?_) q31_ rfl rfl (any_of HT_.out (by kernel_rfl)) (fun _ _ _ h => h) (Or.inr ⟨by rfl,rfl⟩) ?_ ?_
         rotate_left
         ·simp only [Act.put,List.setIfInBounds_toArray,List.set_cons_zero,List.set_cons_succ,i64_w,i32_w]
          rfl
         refine pure_ (i:=31) (N:=some 46) (v:=undef) (a':=?_) q32_ rfl rfl (any_of HT_.out (by kernel_rfl)) (fun _ _ _ h => h) (Or.inr ⟨by rfl,rfl⟩) ?_ ?_
         rotate_left
         ·simp only [Act.put,List.setIfInBounds_toArray,List.set_cons_zero,List.set_cons_succ,i64_w,i32_w]
          rfl
         refine pure_ (i:=32) (N:=some 47) (v:=?_) (a':=?_) q33_ rfl rfl (any_of HT_.out (by kernel_rfl)) (fun _ _ _ h => h) (Or.inl ⟨by rfl,?_⟩) ?_ ?_
         rotate_left
         ·intro w';go_simp;with_reducible rfl
         rotate_left
         ·simp only [Act.put,List.setIfInBounds_toArray,List.set_cons_zero,List.set_cons_succ,i64_w,i32_w]
          rfl
         refine done_ (done_of HT_.out (by kernel_rfl)) ?_
         try go_wp2
         go_ret
         exact ⟨by first|rfl|(simp [errW_none,errW_some] <;> rfl)|(simp [*,errW_none,errW_some] <;> rfl),by repeat (first|(with_reducible first|exact HB.out|apply below_alloc|apply pw_below_drewN|apply below_drew1|refine below_set ?_ GE221.out)|exact HB.out)⟩
      ·rw [if_neg c5] at H
       exact absurd H (by simp)
     ·rw [if_neg c4] at H
      exact absurd H (by simp)
    ·rw [if_neg c3] at H
     have c3b0 : decide (x10_1 < (l0.length : Int)) = false:=decide_eq_false c3
     clear c3;obtain rfl:=Option.some.inj H
     go_wp2
     go_ret
     exact ⟨by first|rfl|(simp [errW_none,errW_some] <;> rfl)|(simp [*,errW_none,errW_some] <;> rfl),by repeat (first|(with_reducible first|exact HB.out|apply below_alloc|apply pw_below_drewN|apply below_drew1)|exact HB.out)⟩
end Go.Proofs.Ytgcidlnhgpjdpad.QFnExactIsStore
