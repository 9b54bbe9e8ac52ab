/- The Go functions that the law FnExactIsStore comes to, each as a Lean function, with a proof that the call does what it says; written by a program of this session over the print of the kit. No conditions. -/
import Derived.Test.YtgcidlnhgpjdpadQFnExactIsStorex0
import Derived.Test.YtgcidlnhgpjdpadQFnExactIsStorex3
import Derived.Test.YtgcidlnhgpjdpadQFnExactIsStorex4
namespace Go.Proofs.Ytgcidlnhgpjdpad.QFnExactIsStore
open Go.RowKit Go.Proofs.YtgcidlnhgpjdpadW.PrintWords Go.Proofs.YtgcidlnhgpjdpadW.PrintLast Go.Proofs.YtgcidlnhgpjdpadW.PrintMore
attribute [local go_sem] max2_int min2_int max_two min_two max_three min_three max_four min_four   -- for this text's walks alone
set_option linter.unusedVariables false
set_option linter.unusedSimpArgs false
def spec_IsStore.l0 : Nat → List (S94) → Int → Option (Bool)
  | 0, _, _ => none
  | k + 1, x0, x3 => if x3 < (x0.length : Int) then (if 0 ≤ x3 then ((spec_IsResource.f k ((rd_T94 x0 x3).f1.f0) ((rd_T94 x0 x3).f1.f1) ((rd_T94 x0 x3).f1.f2.f0) ((rd_T94 x0 x3).f1.f2.f1) ((rd_T94 x0 x3).f1.f2.f2)).bind fun t188 => (if t188 = true then ((spec_DigestOf.f k ((rd_T94 x0 x3).f1.f0) ((rd_T94 x0 x3).f1.f1) ((rd_T94 x0 x3).f1.f2.f0) ((rd_T94 x0 x3).f1.f2.f1) ((rd_T94 x0 x3).f1.f2.f2)).bind fun t191 => (if ((rd_T94 x0 x3).f0) = t191 then ((spec_l1In.f ((rd_T94 x0 x3).f2) 1 1000).bind fun t193 => (if t193 = true then (if x3 > 0 then (if 0 ≤ (wrap64 (x3 - 1)) then (if (wrap64 (x3 - 1)) < (x0.length : Int) then (if ((rd_T94 x0 (wrap64 (x3 - 1))).f0) ≥ ((rd_T94 x0 x3).f0) then (some false) else (spec_IsStore.l0 k x0 (wrap64 (x3 + 1)))) else (none)) else (none)) else (spec_IsStore.l0 k x0 (wrap64 (x3 + 1)))) else (some false))) else (some false))) else (some false))) else (none)) else (some (decide ((x0.length : Int) ≤ 30)))
def spec_IsStore.f (k : Nat) (l0 : List (S94)) : Option (Bool) := spec_IsStore.l0 k l0 0
theorem spec_IsStore.mono_l : ∀ k, (∀ y0 y1, LeO (spec_IsStore.l0 k y0 y1) (spec_IsStore.l0 (k + 1) y0 y1))
  | 0 => fun _ _ r h => by simp [spec_IsStore.l0] at h
  | k + 1 => by
    have ih0 := spec_IsStore.mono_l k
    · intro y0 y1
      unfold spec_IsStore.l0
      repeat' first
      | (with_reducible exact ih0 _ _)
      | (with_reducible exact spec_DigestOf.mono _ _ _ _ _ _)
      | (with_reducible exact spec_IsResource.mono _ _ _ _ _ _)
      | (with_reducible exact LeO.refl _)
      | (with_reducible exact LeO.none _)
      | (with_reducible refine LeO.ite ?_ ?_)
      | (with_reducible refine LeO.bind ?_ (fun _ => ?_))
      | exact ih0 _ _
      | exact spec_DigestOf.mono _ _ _ _ _ _
      | exact spec_IsResource.mono _ _ _ _ _ _
      | exact LeO.none _
      | refine LeO.ite ?_ ?_
      | refine LeO.bind ?_ (fun _ => ?_)
theorem spec_IsStore.mono : ∀ a0 k, LeO (spec_IsStore.f k a0) (spec_IsStore.f (k + 1) a0) := by
  intro a0 k
  have ih0 := spec_IsStore.mono_l k
  unfold spec_IsStore.f
  repeat' first
      | (with_reducible exact ih0 _ _)
      | (with_reducible exact spec_DigestOf.mono _ _ _ _ _ _)
      | (with_reducible exact spec_IsResource.mono _ _ _ _ _ _)
      | (with_reducible exact LeO.refl _)
      | (with_reducible exact LeO.none _)
      | (with_reducible refine LeO.ite ?_ ?_)
      | (with_reducible refine LeO.bind ?_ (fun _ => ?_))
      | exact ih0 _ _
      | exact spec_DigestOf.mono _ _ _ _ _ _
      | exact spec_IsResource.mono _ _ _ _ _ _
      | exact LeO.none _
      | refine LeO.ite ?_ ?_
      | refine LeO.bind ?_ (fun _ => ?_)
def spec_IsStore.T4 : Bool × List (List Nat × List Nat) := (true, [([], []), ([], []), ([0, 1], [0, 1]), ([2], [2]), ([3], [3]), ([4], [4]), ([5], [5]), ([6, 5], [6]), ([7], [7]), ([7], [7]), ([8, 9, 7], [7, 8, 9]), ([10, 7], [7, 10]), ([11, 7], [7, 11]), ([7], [7]), ([7], [7]), ([13, 14, 7], [7, 13, 14]), ([15, 7], [7, 15]), ([16, 7], [7, 16]), ([17, 7, 7], [7, 17]), ([12, 18, 7], [7, 12, 18]), ([7, 19], [7, 19]), ([20, 18], [20]), ([21], [21]), ([21], [21]), ([22, 23, 21], [21, 22, 23]), ([24, 21], [21, 24]), ([25, 21], [21, 25]), ([26, 21, 21], [21, 26]), ([27, 21], [21, 27]), ([21, 28], [21, 28]), ([29, 27], [29]), ([30], [30]), ([31, 30], [30, 31]), ([32, 30, 30], [30, 32]), ([33], [33]), ([33], [33]), ([35, 33], [33, 35]), ([34, 36, 33], [33, 34, 36]), ([37, 33], [33, 37]), ([38, 33], [33, 38]), ([33], [33]), ([33], [33]), ([40, 41, 33], [33, 40, 41]), ([42, 33], [33, 42]), ([43, 33], [33, 43]), ([39, 44, 33], [33, 39, 44]), ([33, 45, 30], [30, 33, 45]), ([30, 46], [30, 46])])
def spec_IsStore.B4 : List Nat := [0, 0, 3, 7, 15, 31, 63, 127, 255, 255, 1023, 2047, 4095, 255, 255, 24831, 57599, 123135, 254207, 524287, 1048575, 2097151, 4194303, 4194303, 16777215, 33554431, 67108863, 134217727, 268435455, 536870911, 1073741823, 2147483647, 4294967295, 8589934591, 17179869183, 17179869183, 51539607551, 137438953471, 274877906943, 549755813887, 17179869183, 17179869183, 3315714752511, 7713761263615, 16509854285823, 35184372088831, 70368744177663, 140737488355327]
theorem spec_IsStore.tab4 : rtab .any (opsOf Try.f34 4) = spec_IsStore.T4 := by kernel_rfl
theorem spec_IsStore.bits4 : waitsOk spec_IsStore.T4.2 spec_IsStore.B4 = true := by kernel_rfl
def spec_IsStore.q0_ : Array Bool := #[false,false,false,false,false,false,false,false,false,false,false,false,false,false,false,false,false,false,false,false,false,false,false,false,false,false,false,false,false,false,false,false,false,false,false,false,false,false,false,false,false,false,false,false,false,false,false,false]
def spec_IsStore.q1_ : Array Bool := #[true,false,false,false,false,false,false,false,false,false,false,false,false,false,false,false,false,false,false,false,false,false,false,false,false,false,false,false,false,false,false,false,false,false,false,false,false,false,false,false,false,false,false,false,false,false,false,false]
def spec_IsStore.q2_ : Array Bool := #[true,true,false,false,false,false,false,false,false,false,false,false,false,false,false,false,false,false,false,false,false,false,false,false,false,false,false,false,false,false,false,false,false,false,false,false,false,false,false,false,false,false,false,false,false,false,false,false]
def spec_IsStore.q3_ : Array Bool := #[true,true,true,false,false,false,false,false,false,false,false,false,false,false,false,false,false,false,false,false,false,false,false,false,false,false,false,false,false,false,false,false,false,false,false,false,false,false,false,false,false,false,false,false,false,false,false,false]
def spec_IsStore.q4_ : Array Bool := #[true,true,true,true,false,false,false,false,false,false,false,false,false,false,false,false,false,false,false,false,false,false,false,false,false,false,false,false,false,false,false,false,false,false,false,false,false,false,false,false,false,false,false,false,false,false,false,false]
def spec_IsStore.q5_ : Array Bool := #[true,true,true,true,true,false,false,false,false,false,false,false,false,false,false,false,false,false,false,false,false,false,false,false,false,false,false,false,false,false,false,false,false,false,false,false,false,false,false,false,false,false,false,false,false,false,false,false]
def spec_IsStore.q6_ : Array Bool := #[true,true,true,true,true,true,false,false,false,false,false,false,false,false,false,false,false,false,false,false,false,false,false,false,false,false,false,false,false,false,false,false,false,false,false,false,false,false,false,false,false,false,false,false,false,false,false,false]
def spec_IsStore.q7_ : Array Bool := #[true,true,true,true,true,true,true,false,false,false,false,false,false,false,false,false,false,false,false,false,false,false,false,false,false,false,false,false,false,false,false,false,false,false,false,false,false,false,false,false,false,false,false,false,false,false,false,false]
def spec_IsStore.q8_ : Array Bool := #[true,true,true,true,true,true,true,true,false,false,false,false,false,false,false,false,false,false,false,false,false,false,false,false,false,false,false,false,false,false,false,false,false,false,false,false,false,false,false,false,false,false,false,false,false,false,false,false]
def spec_IsStore.q9_ : Array Bool := #[true,true,true,true,true,true,true,true,true,false,false,false,false,false,false,false,false,false,false,false,false,false,false,false,false,false,false,false,false,false,false,false,false,false,false,false,false,false,false,false,false,false,false,false,false,false,false,false]
def spec_IsStore.q10_ : Array Bool := #[true,true,true,true,true,true,true,true,true,true,false,false,false,false,false,false,false,false,false,false,false,false,false,false,false,false,false,false,false,false,false,false,false,false,false,false,false,false,false,false,false,false,false,false,false,false,false,false]
def spec_IsStore.q11_ : Array Bool := #[true,true,true,true,true,true,true,true,true,true,true,false,false,false,false,false,false,false,false,false,false,false,false,false,false,false,false,false,false,false,false,false,false,false,false,false,false,false,false,false,false,false,false,false,false,false,false,false]
def spec_IsStore.q12_ : Array Bool := #[true,true,true,true,true,true,true,true,true,true,true,true,false,false,false,false,false,false,false,false,false,false,false,false,false,false,false,false,false,false,false,false,false,false,false,false,false,false,false,false,false,false,false,false,false,false,false,false]
def spec_IsStore.q13_ : Array Bool := #[true,true,true,true,true,true,true,true,true,true,true,true,false,true,false,false,false,false,false,false,false,false,false,false,false,false,false,false,false,false,false,false,false,false,false,false,false,false,false,false,false,false,false,false,false,false,false,false]
def spec_IsStore.q14_ : Array Bool := #[true,true,true,true,true,true,true,true,true,true,true,true,false,true,true,false,false,false,false,false,false,false,false,false,false,false,false,false,false,false,false,false,false,false,false,false,false,false,false,false,false,false,false,false,false,false,false,false]
def spec_IsStore.q15_ : Array Bool := #[true,true,true,true,true,true,true,true,true,true,true,true,false,true,true,true,false,false,false,false,false,false,false,false,false,false,false,false,false,false,false,false,false,false,false,false,false,false,false,false,false,false,false,false,false,false,false,false]
def spec_IsStore.q16_ : Array Bool := #[true,true,true,true,true,true,true,true,true,true,true,true,false,true,true,true,true,false,false,false,false,false,false,false,false,false,false,false,false,false,false,false,false,false,false,false,false,false,false,false,false,false,false,false,false,false,false,false]
def spec_IsStore.q17_ : Array Bool := #[true,true,true,true,true,true,true,true,true,true,true,true,true,true,true,true,true,false,false,false,false,false,false,false,false,false,false,false,false,false,false,false,false,false,false,false,false,false,false,false,false,false,false,false,false,false,false,false]
def spec_IsStore.q18_ : Array Bool := #[true,true,true,true,true,true,true,true,true,true,true,true,true,true,true,true,true,true,false,false,false,false,false,false,false,false,false,false,false,false,false,false,false,false,false,false,false,false,false,false,false,false,false,false,false,false,false,false]
def spec_IsStore.q19_ : Array Bool := #[true,true,true,true,true,true,true,true,true,true,true,true,true,true,true,true,true,true,true,false,false,false,false,false,false,false,false,false,false,false,false,false,false,false,false,false,false,false,false,false,false,false,false,false,false,false,false,false]
def spec_IsStore.q20_ : Array Bool := #[true,true,true,true,true,true,true,true,true,true,true,true,true,true,true,true,true,true,true,true,false,false,false,false,false,false,false,false,false,false,false,false,false,false,false,false,false,false,false,false,false,false,false,false,false,false,false,false]
def spec_IsStore.q21_ : Array Bool := #[true,true,true,true,true,true,true,true,true,true,true,true,true,true,true,true,true,true,true,true,true,false,false,false,false,false,false,false,false,false,false,false,false,false,false,false,false,false,false,false,false,false,false,false,false,false,false,false]
def spec_IsStore.q22_ : Array Bool := #[true,true,true,true,true,true,true,true,true,true,true,true,true,true,true,true,true,true,true,true,true,true,false,false,false,false,false,false,false,false,false,false,false,false,false,false,false,false,false,false,false,false,false,false,false,false,false,false]
def spec_IsStore.q23_ : Array Bool := #[true,true,true,true,true,true,true,true,true,true,true,true,true,true,true,true,true,true,true,true,true,true,true,false,false,false,false,false,false,false,false,false,false,false,false,false,false,false,false,false,false,false,false,false,false,false,false,false]
def spec_IsStore.q24_ : Array Bool := #[true,true,true,true,true,true,true,true,true,true,true,true,true,true,true,true,true,true,true,true,true,true,true,true,false,false,false,false,false,false,false,false,false,false,false,false,false,false,false,false,false,false,false,false,false,false,false,false]
def spec_IsStore.q25_ : Array Bool := #[true,true,true,true,true,true,true,true,true,true,true,true,true,true,true,true,true,true,true,true,true,true,true,true,true,false,false,false,false,false,false,false,false,false,false,false,false,false,false,false,false,false,false,false,false,false,false,false]
def spec_IsStore.q26_ : Array Bool := #[true,true,true,true,true,true,true,true,true,true,true,true,true,true,true,true,true,true,true,true,true,true,true,true,true,true,false,false,false,false,false,false,false,false,false,false,false,false,false,false,false,false,false,false,false,false,false,false]
def spec_IsStore.q27_ : Array Bool := #[true,true,true,true,true,true,true,true,true,true,true,true,true,true,true,true,true,true,true,true,true,true,true,true,true,true,true,false,false,false,false,false,false,false,false,false,false,false,false,false,false,false,false,false,false,false,false,false]
def spec_IsStore.q28_ : Array Bool := #[true,true,true,true,true,true,true,true,true,true,true,true,true,true,true,true,true,true,true,true,true,true,true,true,true,true,true,true,false,false,false,false,false,false,false,false,false,false,false,false,false,false,false,false,false,false,false,false]
def spec_IsStore.q29_ : Array Bool := #[true,true,true,true,true,true,true,true,true,true,true,true,true,true,true,true,true,true,true,true,true,true,true,true,true,true,true,true,true,false,false,false,false,false,false,false,false,false,false,false,false,false,false,false,false,false,false,false]
def spec_IsStore.q30_ : Array Bool := #[true,true,true,true,true,true,true,true,true,true,true,true,true,true,true,true,true,true,true,true,true,true,true,true,true,true,true,true,true,true,false,false,false,false,false,false,false,false,false,false,false,false,false,false,false,false,false,false]
def spec_IsStore.q31_ : Array Bool := #[true,true,true,true,true,true,true,true,true,true,true,true,true,true,true,true,true,true,true,true,true,true,true,true,true,true,true,true,true,true,true,false,false,false,false,false,false,false,false,false,false,false,false,false,false,false,false,false]
def spec_IsStore.q32_ : Array Bool := #[true,true,true,true,true,true,true,true,true,true,true,true,true,true,true,true,true,true,true,true,true,true,true,true,true,true,true,true,true,true,true,true,false,false,false,false,false,false,false,false,false,false,false,false,false,false,false,false]
def spec_IsStore.q33_ : Array Bool := #[true,true,true,true,true,true,true,true,true,true,true,true,true,true,true,true,true,true,true,true,true,true,true,true,true,true,true,true,true,true,true,true,true,false,false,false,false,false,false,false,false,false,false,false,false,false,false,false]
def spec_IsStore.q34_ : Array Bool := #[true,true,true,true,true,true,true,true,true,true,true,true,true,true,true,true,true,true,true,true,true,true,true,true,true,true,true,true,true,true,true,true,true,true,false,false,false,false,false,false,false,false,false,false,false,false,false,false]
def spec_IsStore.q35_ : Array Bool := #[true,true,true,true,true,true,true,true,true,true,true,true,true,true,true,true,true,true,true,true,true,true,true,true,true,true,true,true,true,true,true,true,true,true,true,false,false,false,false,false,false,false,false,false,false,false,false,false]
def spec_IsStore.q36_ : Array Bool := #[true,true,true,true,true,true,true,true,true,true,true,true,true,true,true,true,true,true,true,true,true,true,true,true,true,true,true,true,true,true,true,true,true,true,true,true,false,false,false,false,false,false,false,false,false,false,false,false]
def spec_IsStore.q37_ : Array Bool := #[true,true,true,true,true,true,true,true,true,true,true,true,true,true,true,true,true,true,true,true,true,true,true,true,true,true,true,true,true,true,true,true,true,true,true,true,true,false,false,false,false,false,false,false,false,false,false,false]
def spec_IsStore.q38_ : Array Bool := #[true,true,true,true,true,true,true,true,true,true,true,true,true,true,true,true,true,true,true,true,true,true,true,true,true,true,true,true,true,true,true,true,true,true,true,true,true,true,false,false,false,false,false,false,false,false,false,false]
def spec_IsStore.q39_ : Array Bool := #[true,true,true,true,true,true,true,true,true,true,true,true,true,true,true,true,true,true,true,true,true,true,true,true,true,true,true,true,true,true,true,true,true,true,true,true,true,true,true,false,false,false,false,false,false,false,false,false]
def spec_IsStore.q40_ : Array Bool := #[true,true,true,true,true,true,true,true,true,true,true,true,true,true,true,true,true,true,true,true,true,true,true,true,true,true,true,true,true,true,true,true,true,true,true,true,true,true,true,false,true,false,false,false,false,false,false,false]
def spec_IsStore.q41_ : Array Bool := #[true,true,true,true,true,true,true,true,true,true,true,true,true,true,true,true,true,true,true,true,true,true,true,true,true,true,true,true,true,true,true,true,true,true,true,true,true,true,true,false,true,true,false,false,false,false,false,false]
def spec_IsStore.q42_ : Array Bool := #[true,true,true,true,true,true,true,true,true,true,true,true,true,true,true,true,true,true,true,true,true,true,true,true,true,true,true,true,true,true,true,true,true,true,true,true,true,true,true,false,true,true,true,false,false,false,false,false]
def spec_IsStore.q43_ : Array Bool := #[true,true,true,true,true,true,true,true,true,true,true,true,true,true,true,true,true,true,true,true,true,true,true,true,true,true,true,true,true,true,true,true,true,true,true,true,true,true,true,false,true,true,true,true,false,false,false,false]
def spec_IsStore.q44_ : Array Bool := #[true,true,true,true,true,true,true,true,true,true,true,true,true,true,true,true,true,true,true,true,true,true,true,true,true,true,true,true,true,true,true,true,true,true,true,true,true,true,true,true,true,true,true,true,false,false,false,false]
def spec_IsStore.q45_ : Array Bool := #[true,true,true,true,true,true,true,true,true,true,true,true,true,true,true,true,true,true,true,true,true,true,true,true,true,true,true,true,true,true,true,true,true,true,true,true,true,true,true,true,true,true,true,true,true,false,false,false]
def spec_IsStore.q46_ : Array Bool := #[true,true,true,true,true,true,true,true,true,true,true,true,true,true,true,true,true,true,true,true,true,true,true,true,true,true,true,true,true,true,true,true,true,true,true,true,true,true,true,true,true,true,true,true,true,true,false,false]
def spec_IsStore.q47_ : Array Bool := #[true,true,true,true,true,true,true,true,true,true,true,true,true,true,true,true,true,true,true,true,true,true,true,true,true,true,true,true,true,true,true,true,true,true,true,true,true,true,true,true,true,true,true,true,true,true,true,false]
def spec_IsStore.q48_ : Array Bool := #[true,true,true,true,true,true,true,true,true,true,true,true,true,true,true,true,true,true,true,true,true,true,true,true,true,true,true,true,true,true,true,true,true,true,true,true,true,true,true,true,true,true,true,true,true,true,true,true]
def spec_IsStore.q49_ : Array Bool := #[true,true,true,true,true,true,true,true,true,true,true,true,true,true,true,true,true,true,true,true,true,true,true,true,true,true,true,true,true,true,true,true,true,true,true,true,true,true,true,true,false,false,false,false,false,false,false,false]
def spec_IsStore.q50_ : Array Bool := #[true,true,true,true,true,true,true,true,true,true,true,true,true,true,true,true,true,true,true,true,true,true,true,true,true,true,true,true,true,true,true,true,true,true,true,true,true,true,true,true,true,false,false,false,false,false,false,false]
def spec_IsStore.q51_ : Array Bool := #[true,true,true,true,true,true,true,true,true,true,true,true,true,true,true,true,true,true,true,true,true,true,true,true,true,true,true,true,true,true,true,true,true,true,true,true,true,true,true,true,true,true,false,false,false,false,false,false]
def spec_IsStore.q52_ : Array Bool := #[true,true,true,true,true,true,true,true,true,true,true,true,true,true,true,true,true,true,true,true,true,true,true,true,true,true,true,true,true,true,true,true,true,true,true,true,true,true,true,true,true,true,true,false,false,false,false,false]
set_option maxHeartbeats 8000000 in
set_option maxRecDepth 100000 in
theorem spec_IsStore.calls (k : Nat) (A0 : Option Addr) (c0 : Nat) (l0 : List (S94)) (r : Bool) (w : World) (hr0 : Kd.C k94 w A0 l0.length l0) (hc0 : l0.length ≤ c0) (h : spec_IsStore.f k l0 = some r) :
  Calls Try.prog 34 #[.slice A0 l0.length c0] w fun e w' => e = .returned (.bool r) ∧ Below w.heap.size w w':=by
 have hu39:=Try.underlying39
 have HR0:=Aside0.mk hr0;have HC0:=Aside0.mk hc0;clear hr0 hc0;have HB:=Aside0.mk (Below.refl w.heap.size w)
 have H : (spec_IsStore.l0 k l0 0) = some r:=h
 clear h;have H':=Aside0.mk H;clear H;go_enter Try.func34,Try.ntmps34
 go_wp2
 go_loopg [3] k (fun kq v3 w' => ∃ (x3_1 : Int),v3 = .int .i64 x3_1 ∧ Aside0 (spec_IsStore.l0 kq l0 x3_1 = some r) ∧ Aside0 (kq ≤ k) ∧ Aside0 (Below w.heap.size w w'))
 case atStart => exact ⟨(0),(by first|rfl|(simp;done)|(simp [*];done)),H',⟨Nat.le_refl _⟩,⟨by repeat (first|(with_reducible first|exact HB.out|apply below_alloc|apply pw_below_drewN|apply below_drew1)|exact HB.out)⟩⟩
 case round =>
  clear H';obtain ⟨x3_1,rfl,HA,HK1,HB⟩:=hrel;cases gk with
 |zero => exact absurd HA.out (by simp [spec_IsStore.l0])
 |succ k1 =>
   have H:=HA.out;clear HA;simp only [spec_IsStore.l0] at H
   by_cases c2 : x3_1 < (l0.length : Int)
   ·rw [if_pos c2] at H
    have c2b0 : decide (x3_1 < (l0.length : Int)) = true:=decide_eq_true c2
    clear c2;by_cases c3 : 0 ≤ x3_1
    ·rw [if_pos c3] at H
     have c3b0 : decide (0 ≤ x3_1) = true:=decide_eq_true c3
     clear c3;replace H:=Option.bind_eq_some_iff.mp H
     obtain ⟨t188,A40,H⟩:=H;replace H : (if t188 = true then ((spec_DigestOf.f k1 ((rd_T94 l0 x3_1).f1.f0) ((rd_T94 l0 x3_1).f1.f1) ((rd_T94 l0 x3_1).f1.f2.f0) ((rd_T94 l0 x3_1).f1.f2.f1) ((rd_T94 l0 x3_1).f1.f2.f2)).bind fun t191 => (if ((rd_T94 l0 x3_1).f0) = t191 then ((spec_l1In.f ((rd_T94 l0 x3_1).f2) 1 1000).bind fun t193 => (if t193 = true then (if x3_1 > 0 then (if 0 ≤ (wrap64 (x3_1 - 1)) then (if (wrap64 (x3_1 - 1)) < (l0.length : Int) then (if ((rd_T94 l0 (wrap64 (x3_1 - 1))).f0) ≥ ((rd_T94 l0 x3_1).f0) then (some false) else (spec_IsStore.l0 k1 l0 (wrap64 (x3_1 + 1)))) else (none)) else (none)) else (spec_IsStore.l0 k1 l0 (wrap64 (x3_1 + 1)))) else (some false))) else (some false))) else (some false)) = some r:=H
     have A4:=Aside0.mk A40;clear A40;by_cases c5 : t188 = true
     ·subst c5
      have H1 : ((spec_DigestOf.f k1 ((rd_T94 l0 x3_1).f1.f0) ((rd_T94 l0 x3_1).f1.f1) ((rd_T94 l0 x3_1).f1.f2.f0) ((rd_T94 l0 x3_1).f1.f2.f1) ((rd_T94 l0 x3_1).f1.f2.f2)).bind fun t191 => (if ((rd_T94 l0 x3_1).f0) = t191 then ((spec_l1In.f ((rd_T94 l0 x3_1).f2) 1 1000).bind fun t193 => (if t193 = true then (if x3_1 > 0 then (if 0 ≤ (wrap64 (x3_1 - 1)) then (if (wrap64 (x3_1 - 1)) < (l0.length : Int) then (if ((rd_T94 l0 (wrap64 (x3_1 - 1))).f0) ≥ ((rd_T94 l0 x3_1).f0) then (some false) else (spec_IsStore.l0 k1 l0 (wrap64 (x3_1 + 1)))) else (none)) else (none)) else (spec_IsStore.l0 k1 l0 (wrap64 (x3_1 + 1)))) else (some false))) else (some false))) = some r:=by rw [if_pos rfl] at H;exact H
      clear H;have H:=H1;clear H1;replace H:=Option.bind_eq_some_iff.mp H
      obtain ⟨t191,A60,H⟩:=H;replace H : (if ((rd_T94 l0 x3_1).f0) = t191 then ((spec_l1In.f ((rd_T94 l0 x3_1).f2) 1 1000).bind fun t193 => (if t193 = true then (if x3_1 > 0 then (if 0 ≤ (wrap64 (x3_1 - 1)) then (if (wrap64 (x3_1 - 1)) < (l0.length : Int) then (if ((rd_T94 l0 (wrap64 (x3_1 - 1))).f0) ≥ ((rd_T94 l0 x3_1).f0) then (some false) else (spec_IsStore.l0 k1 l0 (wrap64 (x3_1 + 1)))) else (none)) else (none)) else (spec_IsStore.l0 k1 l0 (wrap64 (x3_1 + 1)))) else (some false))) else (some false)) = some r:=H
      have A6:=Aside0.mk A60;clear A60;by_cases c7 : ((rd_T94 l0 x3_1).f0) = t191
      ·rw [if_pos c7] at H
       have c7b0 : (((rd_T94 l0 x3_1).f0) == t191) = true:=beq_iff_eq.mpr c7
       have c7b1 : (((rd_T94 l0 x3_1).f0) != t191) = false:=bne_eq_false_iff_eq.mpr c7
       clear c7;replace H:=Option.bind_eq_some_iff.mp H
       obtain ⟨t193,A80,H⟩:=H;replace H : (if t193 = true then (if x3_1 > 0 then (if 0 ≤ (wrap64 (x3_1 - 1)) then (if (wrap64 (x3_1 - 1)) < (l0.length : Int) then (if ((rd_T94 l0 (wrap64 (x3_1 - 1))).f0) ≥ ((rd_T94 l0 x3_1).f0) then (some false) else (spec_IsStore.l0 k1 l0 (wrap64 (x3_1 + 1)))) else (none)) else (none)) else (spec_IsStore.l0 k1 l0 (wrap64 (x3_1 + 1)))) else (some false)) = some r:=H
       have A8:=Aside0.mk A80;clear A80;by_cases c9 : t193 = true
       ·subst c9
        have H1 : (if x3_1 > 0 then (if 0 ≤ (wrap64 (x3_1 - 1)) then (if (wrap64 (x3_1 - 1)) < (l0.length : Int) then (if ((rd_T94 l0 (wrap64 (x3_1 - 1))).f0) ≥ ((rd_T94 l0 x3_1).f0) then (some false) else (spec_IsStore.l0 k1 l0 (wrap64 (x3_1 + 1)))) else (none)) else (none)) else (spec_IsStore.l0 k1 l0 (wrap64 (x3_1 + 1)))) = some r:=by rw [if_pos rfl] at H;exact H
        clear H;have H:=H1;clear H1;by_cases c10 : x3_1 > 0
        ·rw [if_pos c10] at H
         have c10b0 : decide (0 < x3_1) = true:=decide_eq_true c10
         clear c10;obtain ⟨ji11,hji11⟩ : ∃ j_ : Int,(wrap64 (x3_1 - 1)) = j_:=⟨_,rfl⟩
         replace H : (if 0 ≤ (ji11) then (if (ji11) < (l0.length : Int) then (if ((rd_T94 l0 (ji11)).f0) ≥ ((rd_T94 l0 x3_1).f0) then (some false) else (spec_IsStore.l0 k1 l0 (wrap64 (x3_1 + 1)))) else (none)) else (none)) = some r:=by first|(rw [hji11] at H;exact H)|(simp only [hji11] at H ⊢;exact H)
         (try rw [hji11] at A4)
         (try rw [hji11] at A6)
         (try rw [hji11] at A8)
         have hji11w : (IntKind.i64.wrap (x3_1 - 1)) = ji11:=(i64_w _).trans hji11
         by_cases c12 : 0 ≤ (ji11)
         ·rw [if_pos c12] at H
          have c12b0 : decide (0 ≤ (ji11)) = true:=decide_eq_true c12
          clear c12;by_cases c13 : (ji11) < (l0.length : Int)
          ·rw [if_pos c13] at H
           have c13b0 : decide ((ji11) < (l0.length : Int)) = true:=decide_eq_true c13
           clear c13;by_cases c14 : ((rd_T94 l0 (ji11)).f0) ≥ ((rd_T94 l0 x3_1).f0)
           ·rw [if_pos c14] at H
            have c14b0 : decide (((rd_T94 l0 x3_1).f0) ≤ ((rd_T94 l0 (ji11)).f0)) = true:=decide_eq_true c14
            clear c14;obtain rfl:=Option.some.inj H
            try go_wp2
            have n0_:=Aside0.mk (below_drew1 HB.out)
            clear HB;have HB:=n0_;clear n0_;have p187 : 0 ≤ (x3_1 : Int):=of_decide_eq_true (by first|(with_reducible assumption)|assumption)
            have q187 : x3_1 < (l0.length : Int):=of_decide_eq_true (by first|(with_reducible assumption)|assumption)
            obtain ⟨ad187,A187_2,c187_2,e187,hx187_0,hx187_1,hx187_2,hx187_3,hx187_4,hx187_5,hx187_6,hl187_2,hi187_2⟩:=at_T94 HR0.out x3_1 p187 q187
            have hw187_6:=hx187_6;have hw187_5:=hx187_5;have hw187_4:=hx187_4;have hw187_3:=hx187_3;have hw187_2:=hx187_2;have hw187_1:=hx187_1;have hw187_0:=hx187_0;cases e187
            replace hx187_0:=(HB.out.cell (World.block_lt_of_cell? w _ hx187_0)).trans hx187_0
            replace hx187_1:=(HB.out.cell (World.block_lt_of_cell? w _ hx187_1)).trans hx187_1
            replace hx187_2:=(HB.out.cell (World.block_lt_of_cell? w _ hx187_2)).trans hx187_2
            replace hx187_3:=(HB.out.cell (World.block_lt_of_cell? w _ hx187_3)).trans hx187_3
            replace hx187_4:=(HB.out.cell (World.block_lt_of_cell? w _ hx187_4)).trans hx187_4
            replace hx187_5:=(HB.out.cell (World.block_lt_of_cell? w _ hx187_5)).trans hx187_5
            replace hx187_6:=(HB.out.cell (World.block_lt_of_cell? w _ hx187_6)).trans hx187_6
            have HR187_2:=Aside0.mk hi187_2;have HC187_2:=Aside0.mk hl187_2;clear hi187_2 hl187_2;replace p187:=eq_true p187
            replace q187:=eq_true q187
            have p189 : 0 ≤ (x3_1 : Int):=of_decide_eq_true (by first|(with_reducible assumption)|assumption)
            have q189 : x3_1 < (l0.length : Int):=of_decide_eq_true (by first|(with_reducible assumption)|assumption)
            obtain ⟨ad189,A189_2,c189_2,e189,hx189_0,hx189_1,hx189_2,hx189_3,hx189_4,hx189_5,hx189_6,hl189_2,hi189_2⟩:=at_T94 HR0.out x3_1 p189 q189
            have hw189_6:=hx189_6;have hw189_5:=hx189_5;have hw189_4:=hx189_4;have hw189_3:=hx189_3;have hw189_2:=hx189_2;have hw189_1:=hx189_1;have hw189_0:=hx189_0;obtain rfl : ad187 = ad189:=(by injection e189)
            replace hx189_0:=(HB.out.cell (World.block_lt_of_cell? w _ hx189_0)).trans hx189_0
            replace hx189_1:=(HB.out.cell (World.block_lt_of_cell? w _ hx189_1)).trans hx189_1
            replace hx189_2:=(HB.out.cell (World.block_lt_of_cell? w _ hx189_2)).trans hx189_2
            replace hx189_3:=(HB.out.cell (World.block_lt_of_cell? w _ hx189_3)).trans hx189_3
            replace hx189_4:=(HB.out.cell (World.block_lt_of_cell? w _ hx189_4)).trans hx189_4
            replace hx189_5:=(HB.out.cell (World.block_lt_of_cell? w _ hx189_5)).trans hx189_5
            replace hx189_6:=(HB.out.cell (World.block_lt_of_cell? w _ hx189_6)).trans hx189_6
            have HR189_2:=Aside0.mk hi189_2;have HC189_2:=Aside0.mk hl189_2;clear hi189_2 hl189_2;replace p189:=eq_true p189
            replace q189:=eq_true q189
            have p190 : 0 ≤ (x3_1 : Int):=of_decide_eq_true (by first|(with_reducible assumption)|assumption)
            have q190 : x3_1 < (l0.length : Int):=of_decide_eq_true (by first|(with_reducible assumption)|assumption)
            obtain ⟨ad190,A190_2,c190_2,e190,hx190_0,hx190_1,hx190_2,hx190_3,hx190_4,hx190_5,hx190_6,hl190_2,hi190_2⟩:=at_T94 HR0.out x3_1 p190 q190
            have hw190_6:=hx190_6;have hw190_5:=hx190_5;have hw190_4:=hx190_4;have hw190_3:=hx190_3;have hw190_2:=hx190_2;have hw190_1:=hx190_1;have hw190_0:=hx190_0;obtain rfl : ad187 = ad190:=(by injection e190)
            replace hx190_0:=(HB.out.cell (World.block_lt_of_cell? w _ hx190_0)).trans hx190_0
            replace hx190_1:=(HB.out.cell (World.block_lt_of_cell? w _ hx190_1)).trans hx190_1
            replace hx190_2:=(HB.out.cell (World.block_lt_of_cell? w _ hx190_2)).trans hx190_2
            replace hx190_3:=(HB.out.cell (World.block_lt_of_cell? w _ hx190_3)).trans hx190_3
            replace hx190_4:=(HB.out.cell (World.block_lt_of_cell? w _ hx190_4)).trans hx190_4
            replace hx190_5:=(HB.out.cell (World.block_lt_of_cell? w _ hx190_5)).trans hx190_5
            replace hx190_6:=(HB.out.cell (World.block_lt_of_cell? w _ hx190_6)).trans hx190_6
            have HR190_2:=Aside0.mk hi190_2;have HC190_2:=Aside0.mk hl190_2;clear hi190_2 hl190_2;replace p190:=eq_true p190
            replace q190:=eq_true q190
            have ea_:=Option.some.inj (hx189_2.symm.trans hx190_2)
            injection ea_ with ea_ en_ ec_
            subst ea_
            subst ec_
            clear en_;have p192 : 0 ≤ (x3_1 : Int):=of_decide_eq_true (by first|(with_reducible assumption)|assumption)
            have q192 : x3_1 < (l0.length : Int):=of_decide_eq_true (by first|(with_reducible assumption)|assumption)
            obtain ⟨ad192,A192_2,c192_2,e192,hx192_0,hx192_1,hx192_2,hx192_3,hx192_4,hx192_5,hx192_6,hl192_2,hi192_2⟩:=at_T94 HR0.out x3_1 p192 q192
            have hw192_6:=hx192_6;have hw192_5:=hx192_5;have hw192_4:=hx192_4;have hw192_3:=hx192_3;have hw192_2:=hx192_2;have hw192_1:=hx192_1;have hw192_0:=hx192_0;obtain rfl : ad187 = ad192:=(by injection e192)
            replace hx192_0:=(HB.out.cell (World.block_lt_of_cell? w _ hx192_0)).trans hx192_0
            replace hx192_1:=(HB.out.cell (World.block_lt_of_cell? w _ hx192_1)).trans hx192_1
            replace hx192_2:=(HB.out.cell (World.block_lt_of_cell? w _ hx192_2)).trans hx192_2
            replace hx192_3:=(HB.out.cell (World.block_lt_of_cell? w _ hx192_3)).trans hx192_3
            replace hx192_4:=(HB.out.cell (World.block_lt_of_cell? w _ hx192_4)).trans hx192_4
            replace hx192_5:=(HB.out.cell (World.block_lt_of_cell? w _ hx192_5)).trans hx192_5
            replace hx192_6:=(HB.out.cell (World.block_lt_of_cell? w _ hx192_6)).trans hx192_6
            have HR192_2:=Aside0.mk hi192_2;have HC192_2:=Aside0.mk hl192_2;clear hi192_2 hl192_2;replace p192:=eq_true p192
            replace q192:=eq_true q192
            have p194 : 0 ≤ ((ji11) : Int):=of_decide_eq_true (by first|(with_reducible assumption)|assumption)
            have q194 : (ji11) < (l0.length : Int):=of_decide_eq_true (by first|(with_reducible assumption)|assumption)
            obtain ⟨ad194,A194_2,c194_2,e194,hx194_0,hx194_1,hx194_2,hx194_3,hx194_4,hx194_5,hx194_6,hl194_2,hi194_2⟩:=at_T94 HR0.out (ji11) p194 q194
            have hw194_6:=hx194_6;have hw194_5:=hx194_5;have hw194_4:=hx194_4;have hw194_3:=hx194_3;have hw194_2:=hx194_2;have hw194_1:=hx194_1;have hw194_0:=hx194_0;obtain rfl : ad187 = ad194:=(by injection e194)
            replace hx194_0:=(HB.out.cell (World.block_lt_of_cell? w _ hx194_0)).trans hx194_0
            replace hx194_1:=(HB.out.cell (World.block_lt_of_cell? w _ hx194_1)).trans hx194_1
            replace hx194_2:=(HB.out.cell (World.block_lt_of_cell? w _ hx194_2)).trans hx194_2
            replace hx194_3:=(HB.out.cell (World.block_lt_of_cell? w _ hx194_3)).trans hx194_3
            replace hx194_4:=(HB.out.cell (World.block_lt_of_cell? w _ hx194_4)).trans hx194_4
            replace hx194_5:=(HB.out.cell (World.block_lt_of_cell? w _ hx194_5)).trans hx194_5
            replace hx194_6:=(HB.out.cell (World.block_lt_of_cell? w _ hx194_6)).trans hx194_6
            have HR194_2:=Aside0.mk hi194_2;have HC194_2:=Aside0.mk hl194_2;clear hi194_2 hl194_2;replace p194:=eq_true p194
            replace q194:=eq_true q194
            have p195 : 0 ≤ (x3_1 : Int):=of_decide_eq_true (by first|(with_reducible assumption)|assumption)
            have q195 : x3_1 < (l0.length : Int):=of_decide_eq_true (by first|(with_reducible assumption)|assumption)
            obtain ⟨ad195,A195_2,c195_2,e195,hx195_0,hx195_1,hx195_2,hx195_3,hx195_4,hx195_5,hx195_6,hl195_2,hi195_2⟩:=at_T94 HR0.out x3_1 p195 q195
            have hw195_6:=hx195_6;have hw195_5:=hx195_5;have hw195_4:=hx195_4;have hw195_3:=hx195_3;have hw195_2:=hx195_2;have hw195_1:=hx195_1;have hw195_0:=hx195_0;obtain rfl : ad187 = ad195:=(by injection e195)
            replace hx195_0:=(HB.out.cell (World.block_lt_of_cell? w _ hx195_0)).trans hx195_0
            replace hx195_1:=(HB.out.cell (World.block_lt_of_cell? w _ hx195_1)).trans hx195_1
            replace hx195_2:=(HB.out.cell (World.block_lt_of_cell? w _ hx195_2)).trans hx195_2
            replace hx195_3:=(HB.out.cell (World.block_lt_of_cell? w _ hx195_3)).trans hx195_3
            replace hx195_4:=(HB.out.cell (World.block_lt_of_cell? w _ hx195_4)).trans hx195_4
            replace hx195_5:=(HB.out.cell (World.block_lt_of_cell? w _ hx195_5)).trans hx195_5
            replace hx195_6:=(HB.out.cell (World.block_lt_of_cell? w _ hx195_6)).trans hx195_6
            have HR195_2:=Aside0.mk hi195_2;have HC195_2:=Aside0.mk hl195_2;clear hi195_2 hl195_2;replace p195:=eq_true p195
            replace q195:=eq_true q195
            have ea_:=Option.some.inj (hx192_2.symm.trans hx195_2)
            injection ea_ with ea_ en_ ec_
            subst ea_
            subst ec_
            clear en_;refine start_ (n:=48) (S:=fun w' => w'.cell? (ad187.add ((x3_1).toNat * 7)) = some (.int .i64 ((rd_T94 l0 x3_1).f0)) ∧ w'.cell? ⟨(ad187.add ((x3_1).toNat * 7)).block,(ad187.add ((x3_1).toNat * 7)).off + 1,none⟩ = some (.int .i64 ((rd_T94 l0 x3_1).f1.f0)) ∧ w'.cell? ⟨(ad187.add ((x3_1).toNat * 7)).block,(ad187.add ((x3_1).toNat * 7)).off + 2,none⟩ = some (.slice A187_2 ((rd_T94 l0 x3_1).f1.f1).length c187_2) ∧ w'.cell? ⟨(ad187.add ((x3_1).toNat * 7)).block,(ad187.add ((x3_1).toNat * 7)).off + 3,none⟩ = some (.int .i64 ((rd_T94 l0 x3_1).f1.f2.f0)) ∧ w'.cell? ⟨(ad187.add ((x3_1).toNat * 7)).block,(ad187.add ((x3_1).toNat * 7)).off + 4,none⟩ = some (.int .i64 ((rd_T94 l0 x3_1).f1.f2.f1)) ∧ w'.cell? ⟨(ad187.add ((x3_1).toNat * 7)).block,(ad187.add ((x3_1).toNat * 7)).off + 5,none⟩ = some (.int .i64 ((rd_T94 l0 x3_1).f1.f2.f2)) ∧ w'.cell? ⟨(ad187.add ((x3_1).toNat * 7)).block,(ad187.add ((x3_1).toNat * 7)).off + 6,none⟩ = some (.int .i64 ((rd_T94 l0 x3_1).f2)) ∧ w'.cell? (ad187.add ((x3_1).toNat * 7)) = some (.int .i64 ((rd_T94 l0 x3_1).f0)) ∧ w'.cell? ⟨(ad187.add ((x3_1).toNat * 7)).block,(ad187.add ((x3_1).toNat * 7)).off + 1,none⟩ = some (.int .i64 ((rd_T94 l0 x3_1).f1.f0)) ∧ w'.cell? ⟨(ad187.add ((x3_1).toNat * 7)).block,(ad187.add ((x3_1).toNat * 7)).off + 2,none⟩ = some (.slice A189_2 ((rd_T94 l0 x3_1).f1.f1).length c189_2) ∧ w'.cell? ⟨(ad187.add ((x3_1).toNat * 7)).block,(ad187.add ((x3_1).toNat * 7)).off + 3,none⟩ = some (.int .i64 ((rd_T94 l0 x3_1).f1.f2.f0)) ∧ w'.cell? ⟨(ad187.add ((x3_1).toNat * 7)).block,(ad187.add ((x3_1).toNat * 7)).off + 4,none⟩ = some (.int .i64 ((rd_T94 l0 x3_1).f1.f2.f1)) ∧ w'.cell? ⟨(ad187.add ((x3_1).toNat * 7)).block,(ad187.add ((x3_1).toNat * 7)).off + 5,none⟩ = some (.int .i64 ((rd_T94 l0 x3_1).f1.f2.f2)) ∧ w'.cell? ⟨(ad187.add ((x3_1).toNat * 7)).block,(ad187.add ((x3_1).toNat * 7)).off + 6,none⟩ = some (.int .i64 ((rd_T94 l0 x3_1).f2)) ∧ w'.cell? (ad187.add ((x3_1).toNat * 7)) = some (.int .i64 ((rd_T94 l0 x3_1).f0)) ∧ w'.cell? ⟨(ad187.add ((x3_1).toNat * 7)).block,(ad187.add ((x3_1).toNat * 7)).off + 1,none⟩ = some (.int .i64 ((rd_T94 l0 x3_1).f1.f0)) ∧ w'.cell? ⟨(ad187.add ((x3_1).toNat * 7)).block,(ad187.add ((x3_1).toNat * 7)).off + 2,none⟩ = some (.slice A189_2 ((rd_T94 l0 x3_1).f1.f1).length c189_2) ∧ w'.cell? ⟨(ad187.add ((x3_1).toNat * 7)).block,(ad187.add ((x3_1).toNat * 7)).off + 3,none⟩ = some (.int .i64 ((rd_T94 l0 x3_1).f1.f2.f0)) ∧ w'.cell? ⟨(ad187.add ((x3_1).toNat * 7)).block,(ad187.add ((x3_1).toNat * 7)).off + 4,none⟩ = some (.int .i64 ((rd_T94 l0 x3_1).f1.f2.f1)) ∧ w'.cell? ⟨(ad187.add ((x3_1).toNat * 7)).block,(ad187.add ((x3_1).toNat * 7)).off + 5,none⟩ = some (.int .i64 ((rd_T94 l0 x3_1).f1.f2.f2)) ∧ w'.cell? ⟨(ad187.add ((x3_1).toNat * 7)).block,(ad187.add ((x3_1).toNat * 7)).off + 6,none⟩ = some (.int .i64 ((rd_T94 l0 x3_1).f2)) ∧ w'.cell? (ad187.add ((x3_1).toNat * 7)) = some (.int .i64 ((rd_T94 l0 x3_1).f0)) ∧ w'.cell? ⟨(ad187.add ((x3_1).toNat * 7)).block,(ad187.add ((x3_1).toNat * 7)).off + 1,none⟩ = some (.int .i64 ((rd_T94 l0 x3_1).f1.f0)) ∧ w'.cell? ⟨(ad187.add ((x3_1).toNat * 7)).block,(ad187.add ((x3_1).toNat * 7)).off + 2,none⟩ = some (.slice A192_2 ((rd_T94 l0 x3_1).f1.f1).length c192_2) ∧ w'.cell? ⟨(ad187.add ((x3_1).toNat * 7)).block,(ad187.add ((x3_1).toNat * 7)).off + 3,none⟩ = some (.int .i64 ((rd_T94 l0 x3_1).f1.f2.f0)) ∧ w'.cell? ⟨(ad187.add ((x3_1).toNat * 7)).block,(ad187.add ((x3_1).toNat * 7)).off + 4,none⟩ = some (.int .i64 ((rd_T94 l0 x3_1).f1.f2.f1)) ∧ w'.cell? ⟨(ad187.add ((x3_1).toNat * 7)).block,(ad187.add ((x3_1).toNat * 7)).off + 5,none⟩ = some (.int .i64 ((rd_T94 l0 x3_1).f1.f2.f2)) ∧ w'.cell? ⟨(ad187.add ((x3_1).toNat * 7)).block,(ad187.add ((x3_1).toNat * 7)).off + 6,none⟩ = some (.int .i64 ((rd_T94 l0 x3_1).f2)) ∧ w'.cell? (ad187.add (((ji11)).toNat * 7)) = some (.int .i64 ((rd_T94 l0 (ji11)).f0)) ∧ w'.cell? ⟨(ad187.add (((ji11)).toNat * 7)).block,(ad187.add (((ji11)).toNat * 7)).off + 1,none⟩ = some (.int .i64 ((rd_T94 l0 (ji11)).f1.f0)) ∧ w'.cell? ⟨(ad187.add (((ji11)).toNat * 7)).block,(ad187.add (((ji11)).toNat * 7)).off + 2,none⟩ = some (.slice A194_2 ((rd_T94 l0 (ji11)).f1.f1).length c194_2) ∧ w'.cell? ⟨(ad187.add (((ji11)).toNat * 7)).block,(ad187.add (((ji11)).toNat * 7)).off + 3,none⟩ = some (.int .i64 ((rd_T94 l0 (ji11)).f1.f2.f0)) ∧ w'.cell? ⟨(ad187.add (((ji11)).toNat * 7)).block,(ad187.add (((ji11)).toNat * 7)).off + 4,none⟩ = some (.int .i64 ((rd_T94 l0 (ji11)).f1.f2.f1)) ∧ w'.cell? ⟨(ad187.add (((ji11)).toNat * 7)).block,(ad187.add (((ji11)).toNat * 7)).off + 5,none⟩ = some (.int .i64 ((rd_T94 l0 (ji11)).f1.f2.f2)) ∧ w'.cell? ⟨(ad187.add (((ji11)).toNat * 7)).block,(ad187.add (((ji11)).toNat * 7)).off + 6,none⟩ = some (.int .i64 ((rd_T94 l0 (ji11)).f2)) ∧ w'.cell? (ad187.add ((x3_1).toNat * 7)) = some (.int .i64 ((rd_T94 l0 x3_1).f0)) ∧ w'.cell? ⟨(ad187.add ((x3_1).toNat * 7)).block,(ad187.add ((x3_1).toNat * 7)).off + 1,none⟩ = some (.int .i64 ((rd_T94 l0 x3_1).f1.f0)) ∧ w'.cell? ⟨(ad187.add ((x3_1).toNat * 7)).block,(ad187.add ((x3_1).toNat * 7)).off + 2,none⟩ = some (.slice A192_2 ((rd_T94 l0 x3_1).f1.f1).length c192_2) ∧ w'.cell? ⟨(ad187.add ((x3_1).toNat * 7)).block,(ad187.add ((x3_1).toNat * 7)).off + 3,none⟩ = some (.int .i64 ((rd_T94 l0 x3_1).f1.f2.f0)) ∧ w'.cell? ⟨(ad187.add ((x3_1).toNat * 7)).block,(ad187.add ((x3_1).toNat * 7)).off + 4,none⟩ = some (.int .i64 ((rd_T94 l0 x3_1).f1.f2.f1)) ∧ w'.cell? ⟨(ad187.add ((x3_1).toNat * 7)).block,(ad187.add ((x3_1).toNat * 7)).off + 5,none⟩ = some (.int .i64 ((rd_T94 l0 x3_1).f1.f2.f2)) ∧ w'.cell? ⟨(ad187.add ((x3_1).toNat * 7)).block,(ad187.add ((x3_1).toNat * 7)).off + 6,none⟩ = some (.int .i64 ((rd_T94 l0 x3_1).f2))) (ds:=[]) q0_ (by kernel_rfl) rfl rfl ⟨((HB.out.cell (World.block_lt_of_cell? w _ hw187_0)).trans hw187_0),((HB.out.cell (World.block_lt_of_cell? w _ hw187_1)).trans hw187_1),((HB.out.cell (World.block_lt_of_cell? w _ hw187_2)).trans hw187_2),((HB.out.cell (World.block_lt_of_cell? w _ hw187_3)).trans hw187_3),((HB.out.cell (World.block_lt_of_cell? w _ hw187_4)).trans hw187_4),((HB.out.cell (World.block_lt_of_cell? w _ hw187_5)).trans hw187_5),((HB.out.cell (World.block_lt_of_cell? w _ hw187_6)).trans hw187_6),((HB.out.cell (World.block_lt_of_cell? w _ hw189_0)).trans hw189_0),((HB.out.cell (World.block_lt_of_cell? w _ hw189_1)).trans hw189_1),((HB.out.cell (World.block_lt_of_cell? w _ hw189_2)).trans hw189_2),((HB.out.cell (World.block_lt_of_cell? w _ hw189_3)).trans hw189_3),((HB.out.cell (World.block_lt_of_cell? w _ hw189_4)).trans hw189_4),((HB.out.cell (World.block_lt_of_cell? w _ hw189_5)).trans hw189_5),((HB.out.cell (World.block_lt_of_cell? w _ hw189_6)).trans hw189_6),((HB.out.cell (World.block_lt_of_cell? w _ hw190_0)).trans hw190_0),((HB.out.cell (World.block_lt_of_cell? w _ hw190_1)).trans hw190_1),((HB.out.cell (World.block_lt_of_cell? w _ hw190_2)).trans hw190_2),((HB.out.cell (World.block_lt_of_cell? w _ hw190_3)).trans hw190_3),((HB.out.cell (World.block_lt_of_cell? w _ hw190_4)).trans hw190_4),((HB.out.cell (World.block_lt_of_cell? w _ hw190_5)).trans hw190_5),((HB.out.cell (World.block_lt_of_cell? w _ hw190_6)).trans hw190_6),((HB.out.cell (World.block_lt_of_cell? w _ hw192_0)).trans hw192_0),((HB.out.cell (World.block_lt_of_cell? w _ hw192_1)).trans hw192_1),((HB.out.cell (World.block_lt_of_cell? w _ hw192_2)).trans hw192_2),((HB.out.cell (World.block_lt_of_cell? w _ hw192_3)).trans hw192_3),((HB.out.cell (World.block_lt_of_cell? w _ hw192_4)).trans hw192_4),((HB.out.cell (World.block_lt_of_cell? w _ hw192_5)).trans hw192_5),((HB.out.cell (World.block_lt_of_cell? w _ hw192_6)).trans hw192_6),((HB.out.cell (World.block_lt_of_cell? w _ hw194_0)).trans hw194_0),((HB.out.cell (World.block_lt_of_cell? w _ hw194_1)).trans hw194_1),((HB.out.cell (World.block_lt_of_cell? w _ hw194_2)).trans hw194_2),((HB.out.cell (World.block_lt_of_cell? w _ hw194_3)).trans hw194_3),((HB.out.cell (World.block_lt_of_cell? w _ hw194_4)).trans hw194_4),((HB.out.cell (World.block_lt_of_cell? w _ hw194_5)).trans hw194_5),((HB.out.cell (World.block_lt_of_cell? w _ hw194_6)).trans hw194_6),((HB.out.cell (World.block_lt_of_cell? w _ hw195_0)).trans hw195_0),((HB.out.cell (World.block_lt_of_cell? w _ hw195_1)).trans hw195_1),((HB.out.cell (World.block_lt_of_cell? w _ hw195_2)).trans hw195_2),((HB.out.cell (World.block_lt_of_cell? w _ hw195_3)).trans hw195_3),((HB.out.cell (World.block_lt_of_cell? w _ hw195_4)).trans hw195_4),((HB.out.cell (World.block_lt_of_cell? w _ hw195_5)).trans hw195_5),((HB.out.cell (World.block_lt_of_cell? w _ hw195_6)).trans hw195_6)⟩ (fun hHeld => ?_);refine with_tabW spec_IsStore.tab4 spec_IsStore.bits4 (fun HT_ HW_ => ?_)
            generalize wr.drew = w15 at HB HR187_2 HR189_2 HR190_2 HR192_2 HR194_2 HR195_2 hx187_0 hx187_1 hx187_2 hx187_3 hx187_4 hx187_5 hx187_6 hx189_0 hx189_1 hx189_2 hx189_3 hx189_4 hx189_5 hx189_6 hx190_0 hx190_1 hx190_2 hx190_3 hx190_4 hx190_5 hx190_6 hx192_0 hx192_1 hx192_2 hx192_3 hx192_4 hx192_5 hx192_6 hx194_0 hx194_1 hx194_2 hx194_3 hx194_4 hx194_5 hx194_6 hx195_0 hx195_1 hx195_2 hx195_3 hx195_4 hx195_5 hx195_6 hHeld ⊢
            refine pure_ (i:=0) (N:=some 10) (v:=?_) (a':=?_) q1_ rfl rfl (any_of HT_.out (by kernel_rfl)) (fun _ _ _ h => h) (Or.inl ⟨by rfl,?_⟩) ?_ ?_
            rotate_left
            ·intro w';go_simp;with_reducible rfl
            rotate_left
            ·simp only [Act.put,List.setIfInBounds_toArray,List.set_cons_zero,List.set_cons_succ,i64_w,i32_w]
             rfl
            refine pure_ (i:=1) (N:=some 11) (v:=?_) (a':=?_) q2_ rfl rfl (any_of HT_.out (by kernel_rfl)) (fun _ _ _ h => h) (Or.inl ⟨by rfl,?_⟩) ?_ ?_
            rotate_left
            ·intro w';go_simp;with_reducible rfl
            rotate_left
            ·simp only [Act.put,List.setIfInBounds_toArray,List.set_cons_zero,List.set_cons_succ,i64_w,i32_w]
             rfl
            refine pure_ (i:=2) (N:=some 12) (v:=?_) (a':=?_) q3_ rfl rfl (any_of HT_.out (by kernel_rfl)) (fun _ _ _ h => h) (Or.inl ⟨by rfl,?_⟩) ?_ ?_
            rotate_left
            ·intro w';go_simp;with_reducible rfl
            rotate_left
            ·simp only [Act.put,List.setIfInBounds_toArray,List.set_cons_zero,List.set_cons_succ,i64_w,i32_w]
             rfl
            refine pure_ (i:=3) (N:=some 13) (v:=?_) (a':=?_) q4_ rfl rfl (any_of HT_.out (by kernel_rfl)) (fun _ _ _ h => h) (Or.inl ⟨by rfl,?_⟩) ?_ ?_
            rotate_left
            ·intro w';go_simp;with_reducible rfl
            rotate_left
            ·simp only [Act.put,List.setIfInBounds_toArray,List.set_cons_zero,List.set_cons_succ,i64_w,i32_w]
             rfl
            refine take_ (i:=4) (N:=some 14) (v:=?_) (a':=?_) q5_ rfl rfl (take_ofW HT_.out HW_.out (by kernel_rfl)) (fun _ _ _ h => h) (Or.inl ⟨by rfl,?_⟩) hHeld ?_ ?_
            rotate_left
            ·rintro w' ⟨s0,s1,s2,s3,s4,s5,s6,s7,s8,s9,s10,s11,s12,s13,s14,s15,s16,s17,s18,s19,s20,s21,s22,s23,s24,s25,s26,s27,s28,s29,s30,s31,s32,s33,s34,s35,s36,s37,s38,s39,s40,s41⟩
             go_simp;with_reducible rfl
            rotate_left
            ·simp only [Act.put,List.setIfInBounds_toArray,List.set_cons_zero,List.set_cons_succ,i64_w,i32_w]
             rfl
            refine one_ (i:=5) (N:=some 15) q6_ rfl rfl (one_of HT_.out (by kernel_rfl)) (by decide) (fun K hK => ?_)
            refine goes_ Try.func69 (by kernel_rfl) rfl #[.agg #[.int .i64 ((rd_T94 l0 x3_1).f1.f0),.slice A187_2 ((rd_T94 l0 x3_1).f1.f1).length c187_2,.int .i64 ((rd_T94 l0 x3_1).f1.f2.f0),.int .i64 ((rd_T94 l0 x3_1).f1.f2.f1),.int .i64 ((rd_T94 l0 x3_1).f1.f2.f2)]] (by rfl) rfl rfl (by (try simp only [List.map_toArray,List.map_cons,List.map_nil]);first|done|rfl|(simp only [List.length_drop,List.length_take];rfl)) ?_
            with_reducible refine (spec_IsResource.calls k1 ((rd_T94 l0 x3_1).f1.f0) _ _ ((rd_T94 l0 x3_1).f1.f1) ((rd_T94 l0 x3_1).f1.f2.f0) ((rd_T94 l0 x3_1).f1.f2.f1) ((rd_T94 l0 x3_1).f1.f2.f2) true _ ?side1 ?side2 A4.out).mono ?_
            (case side1 => repeat (first|exact (Kd.C_below HR187_2.out HB.out)|(with_reducible refine Kd.C_alloc ?_ _)|(with_reducible refine Kd.C_drewN ?_ _)|(with_reducible refine Kd.C_drew ?_)))
            (case side2 => exact HC187_2.out)
            rintro e w16 ⟨rfl,hb⟩
            refine ⟨_,rfl,?_⟩
            have n0_:=Aside0.mk (below_step (by repeat (first|(with_reducible first|exact HB.out|apply below_alloc|apply pw_below_drewN|apply below_drew1)|exact HB.out)) hb)
            clear HB;have HB:=n0_;clear n0_;(try clear hb);refine hK.out _ _ ⟨((HB.out.cell (World.block_lt_of_cell? w _ hw187_0)).trans hw187_0),((HB.out.cell (World.block_lt_of_cell? w _ hw187_1)).trans hw187_1),((HB.out.cell (World.block_lt_of_cell? w _ hw187_2)).trans hw187_2),((HB.out.cell (World.block_lt_of_cell? w _ hw187_3)).trans hw187_3),((HB.out.cell (World.block_lt_of_cell? w _ hw187_4)).trans hw187_4),((HB.out.cell (World.block_lt_of_cell? w _ hw187_5)).trans hw187_5),((HB.out.cell (World.block_lt_of_cell? w _ hw187_6)).trans hw187_6),((HB.out.cell (World.block_lt_of_cell? w _ hw189_0)).trans hw189_0),((HB.out.cell (World.block_lt_of_cell? w _ hw189_1)).trans hw189_1),((HB.out.cell (World.block_lt_of_cell? w _ hw189_2)).trans hw189_2),((HB.out.cell (World.block_lt_of_cell? w _ hw189_3)).trans hw189_3),((HB.out.cell (World.block_lt_of_cell? w _ hw189_4)).trans hw189_4),((HB.out.cell (World.block_lt_of_cell? w _ hw189_5)).trans hw189_5),((HB.out.cell (World.block_lt_of_cell? w _ hw189_6)).trans hw189_6),((HB.out.cell (World.block_lt_of_cell? w _ hw190_0)).trans hw190_0),((HB.out.cell (World.block_lt_of_cell? w _ hw190_1)).trans hw190_1),((HB.out.cell (World.block_lt_of_cell? w _ hw190_2)).trans hw190_2),((HB.out.cell (World.block_lt_of_cell? w _ hw190_3)).trans hw190_3),((HB.out.cell (World.block_lt_of_cell? w _ hw190_4)).trans hw190_4),((HB.out.cell (World.block_lt_of_cell? w _ hw190_5)).trans hw190_5),((HB.out.cell (World.block_lt_of_cell? w _ hw190_6)).trans hw190_6),((HB.out.cell (World.block_lt_of_cell? w _ hw192_0)).trans hw192_0),((HB.out.cell (World.block_lt_of_cell? w _ hw192_1)).trans hw192_1),((HB.out.cell (World.block_lt_of_cell? w _ hw192_2)).trans hw192_2),((HB.out.cell (World.block_lt_of_cell? w _ hw192_3)).trans hw192_3),((HB.out.cell (World.block_lt_of_cell? w _ hw192_4)).trans hw192_4),((HB.out.cell (World.block_lt_of_cell? w _ hw192_5)).trans hw192_5),((HB.out.cell (World.block_lt_of_cell? w _ hw192_6)).trans hw192_6),((HB.out.cell (World.block_lt_of_cell? w _ hw194_0)).trans hw194_0),((HB.out.cell (World.block_lt_of_cell? w _ hw194_1)).trans hw194_1),((HB.out.cell (World.block_lt_of_cell? w _ hw194_2)).trans hw194_2),((HB.out.cell (World.block_lt_of_cell? w _ hw194_3)).trans hw194_3),((HB.out.cell (World.block_lt_of_cell? w _ hw194_4)).trans hw194_4),((HB.out.cell (World.block_lt_of_cell? w _ hw194_5)).trans hw194_5),((HB.out.cell (World.block_lt_of_cell? w _ hw194_6)).trans hw194_6),((HB.out.cell (World.block_lt_of_cell? w _ hw195_0)).trans hw195_0),((HB.out.cell (World.block_lt_of_cell? w _ hw195_1)).trans hw195_1),((HB.out.cell (World.block_lt_of_cell? w _ hw195_2)).trans hw195_2),((HB.out.cell (World.block_lt_of_cell? w _ hw195_3)).trans hw195_3),((HB.out.cell (World.block_lt_of_cell? w _ hw195_4)).trans hw195_4),((HB.out.cell (World.block_lt_of_cell? w _ hw195_5)).trans hw195_5),((HB.out.cell (World.block_lt_of_cell? w _ hw195_6)).trans hw195_6)⟩ (fun hHeld => ?_)
            clear hK K;refine norm_ (a':=?_) ?_ ?_
            rotate_left
            ·show Act.put _ (some 15) _ = _
             simp only [Act.put,List.setIfInBounds_toArray,List.set_cons_zero,List.set_cons_succ,i64_w,i32_w]
             rfl
            refine pure_ (i:=6) (N:=some 16) (v:=?_) (a':=?_) q7_ rfl rfl (any_of HT_.out (by kernel_rfl)) (fun _ _ _ h => h) (Or.inl ⟨by rfl,?_⟩) ?_ ?_
            rotate_left
            ·intro w';go_simp;with_reducible rfl
            rotate_left
            ·simp only [Act.put,List.setIfInBounds_toArray,List.set_cons_zero,List.set_cons_succ,i64_w,i32_w]
             rfl
            refine pure_ (i:=7) (N:=some 17) (v:=?_) (a':=?_) q8_ rfl rfl (any_of HT_.out (by kernel_rfl)) (fun _ _ _ h => h) (Or.inl ⟨by rfl,?_⟩) ?_ ?_
            rotate_left
            ·intro w';go_simp;with_reducible rfl
            rotate_left
            ·simp only [Act.put,List.setIfInBounds_toArray,List.set_cons_zero,List.set_cons_succ,i64_w,i32_w]
             rfl
            refine pure_ (i:=8) (N:=some 18) (v:=?_) (a':=?_) q9_ rfl rfl (any_of HT_.out (by kernel_rfl)) (fun _ _ _ h => h) (Or.inl ⟨by rfl,?_⟩) ?_ ?_
            rotate_left
            ·intro w';go_simp;with_reducible rfl
            rotate_left
            ·simp only [Act.put,List.setIfInBounds_toArray,List.set_cons_zero,List.set_cons_succ,i64_w,i32_w]
             rfl
            refine pure_ (i:=9) (N:=some 19) (v:=?_) (a':=?_) q10_ rfl rfl (any_of HT_.out (by kernel_rfl)) (fun _ _ _ h => h) (Or.inl ⟨by rfl,?_⟩) ?_ ?_
            rotate_left
            ·intro w';go_simp;with_reducible rfl
            rotate_left
            ·simp only [Act.put,List.setIfInBounds_toArray,List.set_cons_zero,List.set_cons_succ,i64_w,i32_w]
             rfl
            refine pure_ (i:=10) (N:=some 20) (v:=?_) (a':=?_) q11_ rfl rfl (any_of HT_.out (by kernel_rfl)) (fun _ _ _ h => h) (Or.inl ⟨by rfl,?_⟩) ?_ ?_
            rotate_left
            ·intro w';go_simp;with_reducible rfl
            rotate_left
            ·simp only [Act.put,List.setIfInBounds_toArray,List.set_cons_zero,List.set_cons_succ,i64_w,i32_w]
             rfl
            refine pure_ (i:=11) (N:=some 21) (v:=?_) (a':=?_) q12_ rfl rfl (any_of HT_.out (by kernel_rfl)) (fun _ _ _ h => h) (Or.inl ⟨by rfl,?_⟩) ?_ ?_
            rotate_left
            ·intro w';go_simp;with_reducible rfl
            rotate_left
            ·simp only [Act.put,List.setIfInBounds_toArray,List.set_cons_zero,List.set_cons_succ,i64_w,i32_w]
             rfl
            refine pure_ (i:=13) (N:=some 23) (v:=?_) (a':=?_) q13_ rfl rfl (any_of HT_.out (by kernel_rfl)) (fun _ _ _ h => h) (Or.inl ⟨by rfl,?_⟩) ?_ ?_
            rotate_left
            ·intro w';go_simp;with_reducible rfl
            rotate_left
            ·simp only [Act.put,List.setIfInBounds_toArray,List.set_cons_zero,List.set_cons_succ,i64_w,i32_w]
             rfl
            refine pure_ (i:=14) (N:=some 24) (v:=?_) (a':=?_) q14_ rfl rfl (any_of HT_.out (by kernel_rfl)) (fun _ _ _ h => h) (Or.inl ⟨by rfl,?_⟩) ?_ ?_
            rotate_left
            ·intro w';go_simp;with_reducible rfl
            rotate_left
            ·simp only [Act.put,List.setIfInBounds_toArray,List.set_cons_zero,List.set_cons_succ,i64_w,i32_w]
             rfl
            refine pure_ (i:=15) (N:=some 25) (v:=?_) (a':=?_) q15_ rfl rfl (any_of HT_.out (by kernel_rfl)) (fun _ _ _ h => h) (Or.inl ⟨by rfl,?_⟩) ?_ ?_
            rotate_left
            ·intro w';go_simp;with_reducible rfl
            rotate_left
            ·simp only [Act.put,List.setIfInBounds_toArray,List.set_cons_zero,List.set_cons_succ,i64_w,i32_w]
             rfl
            refine pure_ (i:=16) (N:=some 26) (v:=?_) (a':=?_) q16_ rfl rfl (any_of HT_.out (by kernel_rfl)) (fun _ _ _ h => h) (Or.inl ⟨by rfl,?_⟩) ?_ ?_
            rotate_left
            ·intro w';go_simp;with_reducible rfl
            rotate_left
            ·simp only [Act.put,List.setIfInBounds_toArray,List.set_cons_zero,List.set_cons_succ,i64_w,i32_w]
             rfl
            refine take_ (i:=12) (N:=some 22) (v:=?_) (a':=?_) q17_ rfl rfl (take_ofW HT_.out HW_.out (by kernel_rfl)) (fun _ _ _ h => h) (Or.inl ⟨by rfl,?_⟩) hHeld ?_ ?_
            rotate_left
            ·rintro w' ⟨s0,s1,s2,s3,s4,s5,s6,s7,s8,s9,s10,s11,s12,s13,s14,s15,s16,s17,s18,s19,s20,s21,s22,s23,s24,s25,s26,s27,s28,s29,s30,s31,s32,s33,s34,s35,s36,s37,s38,s39,s40,s41⟩
             go_simp;with_reducible rfl
            rotate_left
            ·simp only [Act.put,List.setIfInBounds_toArray,List.set_cons_zero,List.set_cons_succ,i64_w,i32_w]
             rfl
            refine take_ (i:=17) (N:=some 27) (v:=?_) (a':=?_) q18_ rfl rfl (take_ofW HT_.out HW_.out (by kernel_rfl)) (fun _ _ _ h => h) (Or.inl ⟨by rfl,?_⟩) hHeld ?_ ?_
            rotate_left
            ·rintro w' ⟨s0,s1,s2,s3,s4,s5,s6,s7,s8,s9,s10,s11,s12,s13,s14,s15,s16,s17,s18,s19,s20,s21,s22,s23,s24,s25,s26,s27,s28,s29,s30,s31,s32,s33,s34,s35,s36,s37,s38,s39,s40,s41⟩
             go_simp;with_reducible rfl
            rotate_left
            ·simp only [Act.put,List.setIfInBounds_toArray,List.set_cons_zero,List.set_cons_succ,i64_w,i32_w]
             rfl
            refine one_ (i:=18) (N:=some 28) q19_ rfl rfl (one_of HT_.out (by kernel_rfl)) (by decide) (fun K hK => ?_)
            refine goes_ Try.func70 (by kernel_rfl) rfl #[.agg #[.int .i64 ((rd_T94 l0 x3_1).f1.f0),.slice A187_2 ((rd_T94 l0 x3_1).f1.f1).length c187_2,.int .i64 ((rd_T94 l0 x3_1).f1.f2.f0),.int .i64 ((rd_T94 l0 x3_1).f1.f2.f1),.int .i64 ((rd_T94 l0 x3_1).f1.f2.f2)]] (by rfl) rfl rfl (by (try simp only [List.map_toArray,List.map_cons,List.map_nil]);first|done|rfl|(simp only [List.length_drop,List.length_take];rfl)) ?_
            with_reducible refine (spec_DigestOf.calls k1 ((rd_T94 l0 x3_1).f1.f0) _ _ ((rd_T94 l0 x3_1).f1.f1) ((rd_T94 l0 x3_1).f1.f2.f0) ((rd_T94 l0 x3_1).f1.f2.f1) ((rd_T94 l0 x3_1).f1.f2.f2) t191 _ ?side1 ?side2 A6.out).mono ?_
            (case side1 => repeat (first|exact (Kd.C_below HR187_2.out HB.out)|(with_reducible refine Kd.C_alloc ?_ _)|(with_reducible refine Kd.C_drewN ?_ _)|(with_reducible refine Kd.C_drew ?_)))
            (case side2 => exact HC187_2.out)
            rintro e w17 ⟨rfl,hb⟩
            refine ⟨_,rfl,?_⟩
            have n0_:=Aside0.mk (below_step (by repeat (first|(with_reducible first|exact HB.out|apply below_alloc|apply pw_below_drewN|apply below_drew1)|exact HB.out)) hb)
            clear HB;have HB:=n0_;clear n0_;(try clear hb);refine hK.out _ _ ⟨((HB.out.cell (World.block_lt_of_cell? w _ hw187_0)).trans hw187_0),((HB.out.cell (World.block_lt_of_cell? w _ hw187_1)).trans hw187_1),((HB.out.cell (World.block_lt_of_cell? w _ hw187_2)).trans hw187_2),((HB.out.cell (World.block_lt_of_cell? w _ hw187_3)).trans hw187_3),((HB.out.cell (World.block_lt_of_cell? w _ hw187_4)).trans hw187_4),((HB.out.cell (World.block_lt_of_cell? w _ hw187_5)).trans hw187_5),((HB.out.cell (World.block_lt_of_cell? w _ hw187_6)).trans hw187_6),((HB.out.cell (World.block_lt_of_cell? w _ hw189_0)).trans hw189_0),((HB.out.cell (World.block_lt_of_cell? w _ hw189_1)).trans hw189_1),((HB.out.cell (World.block_lt_of_cell? w _ hw189_2)).trans hw189_2),((HB.out.cell (World.block_lt_of_cell? w _ hw189_3)).trans hw189_3),((HB.out.cell (World.block_lt_of_cell? w _ hw189_4)).trans hw189_4),((HB.out.cell (World.block_lt_of_cell? w _ hw189_5)).trans hw189_5),((HB.out.cell (World.block_lt_of_cell? w _ hw189_6)).trans hw189_6),((HB.out.cell (World.block_lt_of_cell? w _ hw190_0)).trans hw190_0),((HB.out.cell (World.block_lt_of_cell? w _ hw190_1)).trans hw190_1),((HB.out.cell (World.block_lt_of_cell? w _ hw190_2)).trans hw190_2),((HB.out.cell (World.block_lt_of_cell? w _ hw190_3)).trans hw190_3),((HB.out.cell (World.block_lt_of_cell? w _ hw190_4)).trans hw190_4),((HB.out.cell (World.block_lt_of_cell? w _ hw190_5)).trans hw190_5),((HB.out.cell (World.block_lt_of_cell? w _ hw190_6)).trans hw190_6),((HB.out.cell (World.block_lt_of_cell? w _ hw192_0)).trans hw192_0),((HB.out.cell (World.block_lt_of_cell? w _ hw192_1)).trans hw192_1),((HB.out.cell (World.block_lt_of_cell? w _ hw192_2)).trans hw192_2),((HB.out.cell (World.block_lt_of_cell? w _ hw192_3)).trans hw192_3),((HB.out.cell (World.block_lt_of_cell? w _ hw192_4)).trans hw192_4),((HB.out.cell (World.block_lt_of_cell? w _ hw192_5)).trans hw192_5),((HB.out.cell (World.block_lt_of_cell? w _ hw192_6)).trans hw192_6),((HB.out.cell (World.block_lt_of_cell? w _ hw194_0)).trans hw194_0),((HB.out.cell (World.block_lt_of_cell? w _ hw194_1)).trans hw194_1),((HB.out.cell (World.block_lt_of_cell? w _ hw194_2)).trans hw194_2),((HB.out.cell (World.block_lt_of_cell? w _ hw194_3)).trans hw194_3),((HB.out.cell (World.block_lt_of_cell? w _ hw194_4)).trans hw194_4),((HB.out.cell (World.block_lt_of_cell? w _ hw194_5)).trans hw194_5),((HB.out.cell (World.block_lt_of_cell? w _ hw194_6)).trans hw194_6),((HB.out.cell (World.block_lt_of_cell? w _ hw195_0)).trans hw195_0),((HB.out.cell (World.block_lt_of_cell? w _ hw195_1)).trans hw195_1),((HB.out.cell (World.block_lt_of_cell? w _ hw195_2)).trans hw195_2),((HB.out.cell (World.block_lt_of_cell? w _ hw195_3)).trans hw195_3),((HB.out.cell (World.block_lt_of_cell? w _ hw195_4)).trans hw195_4),((HB.out.cell (World.block_lt_of_cell? w _ hw195_5)).trans hw195_5),((HB.out.cell (World.block_lt_of_cell? w _ hw195_6)).trans hw195_6)⟩ (fun hHeld => ?_)
            clear hK K;refine norm_ (a':=?_) ?_ ?_
            rotate_left
            ·show Act.put _ (some 28) _ = _
             simp only [Act.put,List.setIfInBounds_toArray,List.set_cons_zero,List.set_cons_succ,i64_w,i32_w]
             rfl
            refine pure_ (i:=19) (N:=some 29) (v:=?_) (a':=?_) q20_ rfl rfl (any_of HT_.out (by kernel_rfl)) (fun _ _ _ h => h) (Or.inl ⟨by rfl,?_⟩) ?_ ?_
            rotate_left
            ·intro w';go_simp;with_reducible rfl
            rotate_left
            ·simp only [Act.put,List.setIfInBounds_toArray,List.set_cons_zero,List.set_cons_succ,i64_w,i32_w]
             rfl
            refine pure_ (i:=20) (N:=some 30) (v:=?_) (a':=?_) q21_ rfl rfl (any_of HT_.out (by kernel_rfl)) (fun _ _ _ h => h) (Or.inl ⟨by rfl,?_⟩) ?_ ?_
            rotate_left
            ·intro w';go_simp;with_reducible rfl
            rotate_left
            ·simp only [Act.put,List.setIfInBounds_toArray,List.set_cons_zero,List.set_cons_succ,i64_w,i32_w]
             rfl
            refine pure_ (i:=21) (N:=some 31) (v:=?_) (a':=?_) q22_ rfl rfl (any_of HT_.out (by kernel_rfl)) (fun _ _ _ h => h) (Or.inl ⟨by rfl,?_⟩) ?_ ?_
            rotate_left
            ·intro w';go_simp;with_reducible rfl
            rotate_left
            ·simp only [Act.put,List.setIfInBounds_toArray,List.set_cons_zero,List.set_cons_succ,i64_w,i32_w]
             rfl
            refine pure_ (i:=22) (N:=some 32) (v:=?_) (a':=?_) q23_ rfl rfl (any_of HT_.out (by kernel_rfl)) (fun _ _ _ h => h) (Or.inl ⟨by rfl,?_⟩) ?_ ?_
            rotate_left
            ·intro w';go_simp;with_reducible rfl
            rotate_left
            ·simp only [Act.put,List.setIfInBounds_toArray,List.set_cons_zero,List.set_cons_succ,i64_w,i32_w]
             rfl
            refine pure_ (i:=23) (N:=some 33) (v:=?_) (a':=?_) q24_ rfl rfl (any_of HT_.out (by kernel_rfl)) (fun _ _ _ h => h) (Or.inl ⟨by rfl,?_⟩) ?_ ?_
            rotate_left
            ·intro w';go_simp;with_reducible rfl
            rotate_left
            ·simp only [Act.put,List.setIfInBounds_toArray,List.set_cons_zero,List.set_cons_succ,i64_w,i32_w]
             rfl
            refine pure_ (i:=24) (N:=some 34) (v:=?_) (a':=?_) q25_ rfl rfl (any_of HT_.out (by kernel_rfl)) (fun _ _ _ h => h) (Or.inl ⟨by rfl,?_⟩) ?_ ?_
            rotate_left
            ·intro w';go_simp;with_reducible rfl
            rotate_left
            ·simp only [Act.put,List.setIfInBounds_toArray,List.set_cons_zero,List.set_cons_succ,i64_w,i32_w]
             rfl
            refine pure_ (i:=25) (N:=some 35) (v:=?_) (a':=?_) q26_ rfl rfl (any_of HT_.out (by kernel_rfl)) (fun _ _ _ h => h) (Or.inl ⟨by rfl,?_⟩) ?_ ?_
            rotate_left
            ·intro w';go_simp;with_reducible rfl
            rotate_left
            ·simp only [Act.put,List.setIfInBounds_toArray,List.set_cons_zero,List.set_cons_succ,i64_w,i32_w]
             rfl
            refine take_ (i:=26) (N:=some 36) (v:=?_) (a':=?_) q27_ rfl rfl (take_ofW HT_.out HW_.out (by kernel_rfl)) (fun _ _ _ h => h) (Or.inl ⟨by rfl,?_⟩) hHeld ?_ ?_
            rotate_left
            ·rintro w' ⟨s0,s1,s2,s3,s4,s5,s6,s7,s8,s9,s10,s11,s12,s13,s14,s15,s16,s17,s18,s19,s20,s21,s22,s23,s24,s25,s26,s27,s28,s29,s30,s31,s32,s33,s34,s35,s36,s37,s38,s39,s40,s41⟩
             go_simp;with_reducible rfl
            rotate_left
            ·simp only [Act.put,List.setIfInBounds_toArray,List.set_cons_zero,List.set_cons_succ,i64_w,i32_w]
             rfl
            refine one_ (i:=27) (N:=some 37) q28_ rfl rfl (one_of HT_.out (by kernel_rfl)) (by decide) (fun K hK => ?_)
            refine goes_ Try.func60 (by kernel_rfl) rfl #[.int .i64 ((rd_T94 l0 x3_1).f2),.int .i64 1,.int .i64 1000] (by rfl) rfl rfl (by (try simp only [List.map_toArray,List.map_cons,List.map_nil]);first|done|rfl|(simp only [List.length_drop,List.length_take];rfl)) ?_
            with_reducible refine (spec_l1In.calls ((rd_T94 l0 x3_1).f2) 1 1000 true _ A8.out).mono ?_
            rintro e w' ⟨rfl,⟨nd,rfl⟩⟩
            refine ⟨_,rfl,?_⟩
            refine hK.out _ _ ⟨((HB.out.cell (World.block_lt_of_cell? w _ hw187_0)).trans hw187_0),((HB.out.cell (World.block_lt_of_cell? w _ hw187_1)).trans hw187_1),((HB.out.cell (World.block_lt_of_cell? w _ hw187_2)).trans hw187_2),((HB.out.cell (World.block_lt_of_cell? w _ hw187_3)).trans hw187_3),((HB.out.cell (World.block_lt_of_cell? w _ hw187_4)).trans hw187_4),((HB.out.cell (World.block_lt_of_cell? w _ hw187_5)).trans hw187_5),((HB.out.cell (World.block_lt_of_cell? w _ hw187_6)).trans hw187_6),((HB.out.cell (World.block_lt_of_cell? w _ hw189_0)).trans hw189_0),((HB.out.cell (World.block_lt_of_cell? w _ hw189_1)).trans hw189_1),((HB.out.cell (World.block_lt_of_cell? w _ hw189_2)).trans hw189_2),((HB.out.cell (World.block_lt_of_cell? w _ hw189_3)).trans hw189_3),((HB.out.cell (World.block_lt_of_cell? w _ hw189_4)).trans hw189_4),((HB.out.cell (World.block_lt_of_cell? w _ hw189_5)).trans hw189_5),((HB.out.cell (World.block_lt_of_cell? w _ hw189_6)).trans hw189_6),((HB.out.cell (World.block_lt_of_cell? w _ hw190_0)).trans hw190_0),((HB.out.cell (World.block_lt_of_cell? w _ hw190_1)).trans hw190_1),((HB.out.cell (World.block_lt_of_cell? w _ hw190_2)).trans hw190_2),((HB.out.cell (World.block_lt_of_cell? w _ hw190_3)).trans hw190_3),((HB.out.cell (World.block_lt_of_cell? w _ hw190_4)).trans hw190_4),((HB.out.cell (World.block_lt_of_cell? w _ hw190_5)).trans hw190_5),((HB.out.cell (World.block_lt_of_cell? w _ hw190_6)).trans hw190_6),((HB.out.cell (World.block_lt_of_cell? w _ hw192_0)).trans hw192_0),((HB.out.cell (World.block_lt_of_cell? w _ hw192_1)).trans hw192_1),((HB.out.cell (World.block_lt_of_cell? w _ hw192_2)).trans hw192_2),((HB.out.cell (World.block_lt_of_cell? w _ hw192_3)).trans hw192_3),((HB.out.cell (World.block_lt_of_cell? w _ hw192_4)).trans hw192_4),((HB.out.cell (World.block_lt_of_cell? w _ hw192_5)).trans hw192_5),((HB.out.cell (World.block_lt_of_cell? w _ hw192_6)).trans hw192_6),((HB.out.cell (World.block_lt_of_cell? w _ hw194_0)).trans hw194_0),((HB.out.cell (World.block_lt_of_cell? w _ hw194_1)).trans hw194_1),((HB.out.cell (World.block_lt_of_cell? w _ hw194_2)).trans hw194_2),((HB.out.cell (World.block_lt_of_cell? w _ hw194_3)).trans hw194_3),((HB.out.cell (World.block_lt_of_cell? w _ hw194_4)).trans hw194_4),((HB.out.cell (World.block_lt_of_cell? w _ hw194_5)).trans hw194_5),((HB.out.cell (World.block_lt_of_cell? w _ hw194_6)).trans hw194_6),((HB.out.cell (World.block_lt_of_cell? w _ hw195_0)).trans hw195_0),((HB.out.cell (World.block_lt_of_cell? w _ hw195_1)).trans hw195_1),((HB.out.cell (World.block_lt_of_cell? w _ hw195_2)).trans hw195_2),((HB.out.cell (World.block_lt_of_cell? w _ hw195_3)).trans hw195_3),((HB.out.cell (World.block_lt_of_cell? w _ hw195_4)).trans hw195_4),((HB.out.cell (World.block_lt_of_cell? w _ hw195_5)).trans hw195_5),((HB.out.cell (World.block_lt_of_cell? w _ hw195_6)).trans hw195_6)⟩ (fun hHeld => ?_)
            clear hK K;refine norm_ (a':=?_) ?_ ?_
            rotate_left
            ·show Act.put _ (some 37) _ = _
             simp only [Act.put,List.setIfInBounds_toArray,List.set_cons_zero,List.set_cons_succ,i64_w,i32_w]
             rfl
            refine pure_ (i:=28) (N:=some 38) (v:=?_) (a':=?_) q29_ rfl rfl (any_of HT_.out (by kernel_rfl)) (fun _ _ _ h => h) (Or.inl ⟨by rfl,?_⟩) ?_ ?_
            rotate_left
            ·intro w';go_simp;with_reducible rfl
            rotate_left
            ·simp only [Act.put,List.setIfInBounds_toArray,List.set_cons_zero,List.set_cons_succ,i64_w,i32_w]
             rfl
            refine pure_ (i:=29) (N:=some 39) (v:=?_) (a':=?_) q30_ rfl rfl (any_of HT_.out (by kernel_rfl)) (fun _ _ _ h => h) (Or.inl ⟨by rfl,?_⟩) ?_ ?_
            rotate_left
            ·intro w';go_simp;with_reducible rfl
            rotate_left
            ·simp only [Act.put,List.setIfInBounds_toArray,List.set_cons_zero,List.set_cons_succ,i64_w,i32_w]
             rfl
            refine pure_ (i:=30) (N:=some 40) (v:=?_) (a':=?_) q31_ rfl rfl (any_of HT_.out (by kernel_rfl)) (fun _ _ _ h => h) (Or.inl ⟨by rfl,?_⟩) ?_ ?_
            rotate_left
            ·intro w';go_simp;with_reducible rfl
            rotate_left
            ·simp only [Act.put,List.setIfInBounds_toArray,List.set_cons_zero,List.set_cons_succ,i64_w,i32_w]
             rfl
            refine pure_ (i:=31) (N:=some 41) (v:=?_) (a':=?_) q32_ rfl rfl (any_of HT_.out (by kernel_rfl)) (fun _ _ _ h => h) (Or.inl ⟨by rfl,?_⟩) ?_ ?_
            rotate_left
            ·intro w';go_simp;with_reducible rfl
            rotate_left
            ·simp only [Act.put,List.setIfInBounds_toArray,List.set_cons_zero,List.set_cons_succ,i64_w,i32_w]
             rfl
            refine pure_ (i:=32) (N:=some 42) (v:=?_) (a':=?_) q33_ rfl rfl (any_of HT_.out (by kernel_rfl)) (fun _ _ _ h => h) (Or.inl ⟨by rfl,?_⟩) ?_ ?_
            rotate_left
            ·intro w';go_simp;with_reducible rfl
            rotate_left
            ·simp only [Act.put,List.setIfInBounds_toArray,List.set_cons_zero,List.set_cons_succ,i64_w,i32_w]
             rfl
            refine pure_ (i:=33) (N:=some 43) (v:=?_) (a':=?_) q34_ rfl rfl (any_of HT_.out (by kernel_rfl)) (fun _ _ _ h => h) (Or.inl ⟨by rfl,?_⟩) ?_ ?_
            rotate_left
            ·intro w';go_simp;with_reducible rfl
            rotate_left
            ·simp only [Act.put,List.setIfInBounds_toArray,List.set_cons_zero,List.set_cons_succ,i64_w,i32_w]
             rfl
            refine pure_ (i:=34) (N:=some 44) (v:=?_) (a':=?_) q35_ rfl rfl (any_of HT_.out (by kernel_rfl)) (fun _ _ _ h => h) (Or.inl ⟨by rfl,?_⟩) ?_ ?_
            rotate_left
            ·intro w';go_simp;with_reducible rfl
            rotate_left
            ·simp only [Act.put,List.setIfInBounds_toArray,List.set_cons_zero,List.set_cons_succ,i64_w,i32_w]
             rfl
            refine pure_ (i:=35) (N:=some 45) (v:=?_) (a':=?_) q36_ rfl rfl (any_of HT_.out (by kernel_rfl)) (fun _ _ _ h => h) (Or.inl ⟨by rfl,?_⟩) ?_ ?_
            rotate_left
            ·intro w';go_simp;with_reducible rfl
            rotate_left
            ·simp only [Act.put,List.setIfInBounds_toArray,List.set_cons_zero,List.set_cons_succ,i64_w,i32_w]
             rfl
            refine pure_ (i:=36) (N:=some 46) (v:=?_) (a':=?_) q37_ rfl rfl (any_of HT_.out (by kernel_rfl)) (fun _ _ _ h => h) (Or.inl ⟨by rfl,?_⟩) ?_ ?_
            rotate_left
            ·intro w';go_simp;with_reducible rfl
            rotate_left
            ·simp only [Act.put,List.setIfInBounds_toArray,List.set_cons_zero,List.set_cons_succ,i64_w,i32_w]
             rfl
            refine pure_ (i:=37) (N:=some 47) (v:=?_) (a':=?_) q38_ rfl rfl (any_of HT_.out (by kernel_rfl)) (fun _ _ _ h => h) (Or.inl ⟨by rfl,?_⟩) ?_ ?_
            rotate_left
            ·intro w';go_simp;with_reducible rfl
            rotate_left
            ·simp only [Act.put,List.setIfInBounds_toArray,List.set_cons_zero,List.set_cons_succ,i64_w,i32_w]
             rfl
            refine pure_ (i:=38) (N:=some 48) (v:=?_) (a':=?_) q39_ rfl rfl (any_of HT_.out (by kernel_rfl)) (fun _ _ _ h => h) (Or.inl ⟨by rfl,?_⟩) ?_ ?_
            rotate_left
            ·intro w';go_simp;with_reducible rfl
            rotate_left
            ·simp only [Act.put,List.setIfInBounds_toArray,List.set_cons_zero,List.set_cons_succ,i64_w,i32_w]
             rfl
            refine pure_ (i:=40) (N:=some 50) (v:=?_) (a':=?_) q40_ rfl rfl (any_of HT_.out (by kernel_rfl)) (fun _ _ _ h => h) (Or.inl ⟨by rfl,?_⟩) ?_ ?_
            rotate_left
            ·intro w';go_simp;with_reducible rfl
            rotate_left
            ·simp only [Act.put,List.setIfInBounds_toArray,List.set_cons_zero,List.set_cons_succ,i64_w,i32_w]
             rfl
            refine pure_ (i:=41) (N:=some 51) (v:=?_) (a':=?_) q41_ rfl rfl (any_of HT_.out (by kernel_rfl)) (fun _ _ _ h => h) (Or.inl ⟨by rfl,?_⟩) ?_ ?_
            rotate_left
            ·intro w';go_simp;with_reducible rfl
            rotate_left
            ·simp only [Act.put,List.setIfInBounds_toArray,List.set_cons_zero,List.set_cons_succ,i64_w,i32_w]
             rfl
            refine pure_ (i:=42) (N:=some 52) (v:=?_) (a':=?_) q42_ rfl rfl (any_of HT_.out (by kernel_rfl)) (fun _ _ _ h => h) (Or.inl ⟨by rfl,?_⟩) ?_ ?_
            rotate_left
            ·intro w';go_simp;with_reducible rfl
            rotate_left
            ·simp only [Act.put,List.setIfInBounds_toArray,List.set_cons_zero,List.set_cons_succ,i64_w,i32_w]
             rfl
            refine pure_ (i:=43) (N:=some 53) (v:=?_) (a':=?_) q43_ rfl rfl (any_of HT_.out (by kernel_rfl)) (fun _ _ _ h => h) (Or.inl ⟨by rfl,?_⟩) ?_ ?_
            rotate_left
            ·intro w';go_simp;with_reducible rfl
            rotate_left
            ·simp only [Act.put,List.setIfInBounds_toArray,List.set_cons_zero,List.set_cons_succ,i64_w,i32_w]
             rfl
            refine take_ (i:=39) (N:=some 49) (v:=?_) (a':=?_) q44_ rfl rfl (take_ofW HT_.out HW_.out (by kernel_rfl)) (fun _ _ _ h => h) (Or.inl ⟨by rfl,?_⟩) hHeld ?_ ?_
            rotate_left
            ·rintro w' ⟨s0,s1,s2,s3,s4,s5,s6,s7,s8,s9,s10,s11,s12,s13,s14,s15,s16,s17,s18,s19,s20,s21,s22,s23,s24,s25,s26,s27,s28,s29,s30,s31,s32,s33,s34,s35,s36,s37,s38,s39,s40,s41⟩
             go_simp;with_reducible rfl
            rotate_left
            ·simp only [Act.put,List.setIfInBounds_toArray,List.set_cons_zero,List.set_cons_succ,i64_w,i32_w]
             rfl
            refine take_ (i:=44) (N:=some 54) (v:=?_) (a':=?_) q45_ rfl rfl (take_ofW HT_.out HW_.out (by kernel_rfl)) (fun _ _ _ h => h) (Or.inl ⟨by rfl,?_⟩) hHeld ?_ ?_
            rotate_left
            ·rintro w' ⟨s0,s1,s2,s3,s4,s5,s6,s7,s8,s9,s10,s11,s12,s13,s14,s15,s16,s17,s18,s19,s20,s21,s22,s23,s24,s25,s26,s27,s28,s29,s30,s31,s32,s33,s34,s35,s36,s37,s38,s39,s40,s41⟩
             go_simp;with_reducible rfl
            rotate_left
            ·simp only [Act.put,List.setIfInBounds_toArray,List.set_cons_zero,List.set_cons_succ,i64_w,i32_w]
             rfl
            refine pure_ (i:=45) (N:=some 55) (v:=?_) (a':=?_) q46_ rfl rfl (any_of HT_.out (by kernel_rfl)) (fun _ _ _ h => h) (Or.inl ⟨by rfl,?_⟩) ?_ ?_
            rotate_left
            ·intro w';go_simp;with_reducible rfl
            rotate_left
            ·simp only [Act.put,List.setIfInBounds_toArray,List.set_cons_zero,List.set_cons_succ,i64_w,i32_w]
             rfl
            refine pure_ (i:=46) (N:=some 56) (v:=?_) (a':=?_) q47_ rfl rfl (any_of HT_.out (by kernel_rfl)) (fun _ _ _ h => h) (Or.inl ⟨by rfl,?_⟩) ?_ ?_
            rotate_left
            ·intro w';go_simp;with_reducible rfl
            rotate_left
            ·simp only [Act.put,List.setIfInBounds_toArray,List.set_cons_zero,List.set_cons_succ,i64_w,i32_w]
             rfl
            refine pure_ (i:=47) (N:=some 57) (v:=?_) (a':=?_) q48_ rfl rfl (any_of HT_.out (by kernel_rfl)) (fun _ _ _ h => h) (Or.inl ⟨by rfl,?_⟩) ?_ ?_
            rotate_left
            ·intro w';go_simp;with_reducible rfl
            rotate_left
            ·simp only [Act.put,List.setIfInBounds_toArray,List.set_cons_zero,List.set_cons_succ,i64_w,i32_w]
             rfl
            refine done_ (done_of HT_.out (by kernel_rfl)) ?_
            try go_wp2
            go_ret
            exact ⟨by first|rfl|(simp [errW_none,errW_some] <;> rfl)|(simp only [← hji11];first|rfl|(simp [errW_none,errW_some] <;> rfl))|(simp [*,errW_none,errW_some] <;> rfl),by repeat (first|(with_reducible first|exact HB.out|apply below_alloc|apply pw_below_drewN|apply below_drew1)|exact HB.out)⟩
           ·rw [if_neg c14] at H
            have c14b0 : decide (((rd_T94 l0 x3_1).f0) ≤ ((rd_T94 l0 (ji11)).f0)) = false:=decide_eq_false c14
            clear c14;have H':=Aside0.mk H;clear H;try go_wp2
            have n0_:=Aside0.mk (below_drew1 HB.out)
            clear HB;have HB:=n0_;clear n0_;have p187 : 0 ≤ (x3_1 : Int):=of_decide_eq_true (by first|(with_reducible assumption)|assumption)
            have q187 : x3_1 < (l0.length : Int):=of_decide_eq_true (by first|(with_reducible assumption)|assumption)
            obtain ⟨ad187,A187_2,c187_2,e187,hx187_0,hx187_1,hx187_2,hx187_3,hx187_4,hx187_5,hx187_6,hl187_2,hi187_2⟩:=at_T94 HR0.out x3_1 p187 q187
            have hw187_6:=hx187_6;have hw187_5:=hx187_5;have hw187_4:=hx187_4;have hw187_3:=hx187_3;have hw187_2:=hx187_2;have hw187_1:=hx187_1;have hw187_0:=hx187_0;cases e187
            replace hx187_0:=(HB.out.cell (World.block_lt_of_cell? w _ hx187_0)).trans hx187_0
            replace hx187_1:=(HB.out.cell (World.block_lt_of_cell? w _ hx187_1)).trans hx187_1
            replace hx187_2:=(HB.out.cell (World.block_lt_of_cell? w _ hx187_2)).trans hx187_2
            replace hx187_3:=(HB.out.cell (World.block_lt_of_cell? w _ hx187_3)).trans hx187_3
            replace hx187_4:=(HB.out.cell (World.block_lt_of_cell? w _ hx187_4)).trans hx187_4
            replace hx187_5:=(HB.out.cell (World.block_lt_of_cell? w _ hx187_5)).trans hx187_5
            replace hx187_6:=(HB.out.cell (World.block_lt_of_cell? w _ hx187_6)).trans hx187_6
            have HR187_2:=Aside0.mk hi187_2;have HC187_2:=Aside0.mk hl187_2;clear hi187_2 hl187_2;replace p187:=eq_true p187
            replace q187:=eq_true q187
            have p189 : 0 ≤ (x3_1 : Int):=of_decide_eq_true (by first|(with_reducible assumption)|assumption)
            have q189 : x3_1 < (l0.length : Int):=of_decide_eq_true (by first|(with_reducible assumption)|assumption)
            obtain ⟨ad189,A189_2,c189_2,e189,hx189_0,hx189_1,hx189_2,hx189_3,hx189_4,hx189_5,hx189_6,hl189_2,hi189_2⟩:=at_T94 HR0.out x3_1 p189 q189
            have hw189_6:=hx189_6;have hw189_5:=hx189_5;have hw189_4:=hx189_4;have hw189_3:=hx189_3;have hw189_2:=hx189_2;have hw189_1:=hx189_1;have hw189_0:=hx189_0;obtain rfl : ad187 = ad189:=(by injection e189)
            replace hx189_0:=(HB.out.cell (World.block_lt_of_cell? w _ hx189_0)).trans hx189_0
            replace hx189_1:=(HB.out.cell (World.block_lt_of_cell? w _ hx189_1)).trans hx189_1
            replace hx189_2:=(HB.out.cell (World.block_lt_of_cell? w _ hx189_2)).trans hx189_2
            replace hx189_3:=(HB.out.cell (World.block_lt_of_cell? w _ hx189_3)).trans hx189_3
            replace hx189_4:=(HB.out.cell (World.block_lt_of_cell? w _ hx189_4)).trans hx189_4
            replace hx189_5:=(HB.out.cell (World.block_lt_of_cell? w _ hx189_5)).trans hx189_5
            replace hx189_6:=(HB.out.cell (World.block_lt_of_cell? w _ hx189_6)).trans hx189_6
            have HR189_2:=Aside0.mk hi189_2;have HC189_2:=Aside0.mk hl189_2;clear hi189_2 hl189_2;replace p189:=eq_true p189
            replace q189:=eq_true q189
            have p190 : 0 ≤ (x3_1 : Int):=of_decide_eq_true (by first|(with_reducible assumption)|assumption)
            have q190 : x3_1 < (l0.length : Int):=of_decide_eq_true (by first|(with_reducible assumption)|assumption)
            obtain ⟨ad190,A190_2,c190_2,e190,hx190_0,hx190_1,hx190_2,hx190_3,hx190_4,hx190_5,hx190_6,hl190_2,hi190_2⟩:=at_T94 HR0.out x3_1 p190 q190
            have hw190_6:=hx190_6;have hw190_5:=hx190_5;have hw190_4:=hx190_4;have hw190_3:=hx190_3;have hw190_2:=hx190_2;have hw190_1:=hx190_1;have hw190_0:=hx190_0;obtain rfl : ad187 = ad190:=(by injection e190)
            replace hx190_0:=(HB.out.cell (World.block_lt_of_cell? w _ hx190_0)).trans hx190_0
            replace hx190_1:=(HB.out.cell (World.block_lt_of_cell? w _ hx190_1)).trans hx190_1
            replace hx190_2:=(HB.out.cell (World.block_lt_of_cell? w _ hx190_2)).trans hx190_2
            replace hx190_3:=(HB.out.cell (World.block_lt_of_cell? w _ hx190_3)).trans hx190_3
            replace hx190_4:=(HB.out.cell (World.block_lt_of_cell? w _ hx190_4)).trans hx190_4
            replace hx190_5:=(HB.out.cell (World.block_lt_of_cell? w _ hx190_5)).trans hx190_5
            replace hx190_6:=(HB.out.cell (World.block_lt_of_cell? w _ hx190_6)).trans hx190_6
            have HR190_2:=Aside0.mk hi190_2;have HC190_2:=Aside0.mk hl190_2;clear hi190_2 hl190_2;replace p190:=eq_true p190
            replace q190:=eq_true q190
            have ea_:=Option.some.inj (hx189_2.symm.trans hx190_2)
            injection ea_ with ea_ en_ ec_
            subst ea_
            subst ec_
            clear en_;have p192 : 0 ≤ (x3_1 : Int):=of_decide_eq_true (by first|(with_reducible assumption)|assumption)
            have q192 : x3_1 < (l0.length : Int):=of_decide_eq_true (by first|(with_reducible assumption)|assumption)
            obtain ⟨ad192,A192_2,c192_2,e192,hx192_0,hx192_1,hx192_2,hx192_3,hx192_4,hx192_5,hx192_6,hl192_2,hi192_2⟩:=at_T94 HR0.out x3_1 p192 q192
            have hw192_6:=hx192_6;have hw192_5:=hx192_5;have hw192_4:=hx192_4;have hw192_3:=hx192_3;have hw192_2:=hx192_2;have hw192_1:=hx192_1;have hw192_0:=hx192_0;obtain rfl : ad187 = ad192:=(by injection e192)
            replace hx192_0:=(HB.out.cell (World.block_lt_of_cell? w _ hx192_0)).trans hx192_0
            replace hx192_1:=(HB.out.cell (World.block_lt_of_cell? w _ hx192_1)).trans hx192_1
            replace hx192_2:=(HB.out.cell (World.block_lt_of_cell? w _ hx192_2)).trans hx192_2
            replace hx192_3:=(HB.out.cell (World.block_lt_of_cell? w _ hx192_3)).trans hx192_3
            replace hx192_4:=(HB.out.cell (World.block_lt_of_cell? w _ hx192_4)).trans hx192_4
            replace hx192_5:=(HB.out.cell (World.block_lt_of_cell? w _ hx192_5)).trans hx192_5
            replace hx192_6:=(HB.out.cell (World.block_lt_of_cell? w _ hx192_6)).trans hx192_6
            have HR192_2:=Aside0.mk hi192_2;have HC192_2:=Aside0.mk hl192_2;clear hi192_2 hl192_2;replace p192:=eq_true p192
            replace q192:=eq_true q192
            have p194 : 0 ≤ ((ji11) : Int):=of_decide_eq_true (by first|(with_reducible assumption)|assumption)
            have q194 : (ji11) < (l0.length : Int):=of_decide_eq_true (by first|(with_reducible assumption)|assumption)
            obtain ⟨ad194,A194_2,c194_2,e194,hx194_0,hx194_1,hx194_2,hx194_3,hx194_4,hx194_5,hx194_6,hl194_2,hi194_2⟩:=at_T94 HR0.out (ji11) p194 q194
            have hw194_6:=hx194_6;have hw194_5:=hx194_5;have hw194_4:=hx194_4;have hw194_3:=hx194_3;have hw194_2:=hx194_2;have hw194_1:=hx194_1;have hw194_0:=hx194_0;obtain rfl : ad187 = ad194:=(by injection e194)
            replace hx194_0:=(HB.out.cell (World.block_lt_of_cell? w _ hx194_0)).trans hx194_0
            replace hx194_1:=(HB.out.cell (World.block_lt_of_cell? w _ hx194_1)).trans hx194_1
            replace hx194_2:=(HB.out.cell (World.block_lt_of_cell? w _ hx194_2)).trans hx194_2
            replace hx194_3:=(HB.out.cell (World.block_lt_of_cell? w _ hx194_3)).trans hx194_3
            replace hx194_4:=(HB.out.cell (World.block_lt_of_cell? w _ hx194_4)).trans hx194_4
            replace hx194_5:=(HB.out.cell (World.block_lt_of_cell? w _ hx194_5)).trans hx194_5
            replace hx194_6:=(HB.out.cell (World.block_lt_of_cell? w _ hx194_6)).trans hx194_6
            have HR194_2:=Aside0.mk hi194_2;have HC194_2:=Aside0.mk hl194_2;clear hi194_2 hl194_2;replace p194:=eq_true p194
            replace q194:=eq_true q194
            have p195 : 0 ≤ (x3_1 : Int):=of_decide_eq_true (by first|(with_reducible assumption)|assumption)
            have q195 : x3_1 < (l0.length : Int):=of_decide_eq_true (by first|(with_reducible assumption)|assumption)
            obtain ⟨ad195,A195_2,c195_2,e195,hx195_0,hx195_1,hx195_2,hx195_3,hx195_4,hx195_5,hx195_6,hl195_2,hi195_2⟩:=at_T94 HR0.out x3_1 p195 q195
            have hw195_6:=hx195_6;have hw195_5:=hx195_5;have hw195_4:=hx195_4;have hw195_3:=hx195_3;have hw195_2:=hx195_2;have hw195_1:=hx195_1;have hw195_0:=hx195_0;obtain rfl : ad187 = ad195:=(by injection e195)
            replace hx195_0:=(HB.out.cell (World.block_lt_of_cell? w _ hx195_0)).trans hx195_0
            replace hx195_1:=(HB.out.cell (World.block_lt_of_cell? w _ hx195_1)).trans hx195_1
            replace hx195_2:=(HB.out.cell (World.block_lt_of_cell? w _ hx195_2)).trans hx195_2
            replace hx195_3:=(HB.out.cell (World.block_lt_of_cell? w _ hx195_3)).trans hx195_3
            replace hx195_4:=(HB.out.cell (World.block_lt_of_cell? w _ hx195_4)).trans hx195_4
            replace hx195_5:=(HB.out.cell (World.block_lt_of_cell? w _ hx195_5)).trans hx195_5
            replace hx195_6:=(HB.out.cell (World.block_lt_of_cell? w _ hx195_6)).trans hx195_6
            have HR195_2:=Aside0.mk hi195_2;have HC195_2:=Aside0.mk hl195_2;clear hi195_2 hl195_2;replace p195:=eq_true p195
            replace q195:=eq_true q195
            have ea_:=Option.some.inj (hx192_2.symm.trans hx195_2)
            injection ea_ with ea_ en_ ec_
            subst ea_
            subst ec_
            clear en_;refine start_ (n:=48) (S:=fun w' => w'.cell? (ad187.add ((x3_1).toNat * 7)) = some (.int .i64 ((rd_T94 l0 x3_1).f0)) ∧ w'.cell? ⟨(ad187.add ((x3_1).toNat * 7)).block,(ad187.add ((x3_1).toNat * 7)).off + 1,none⟩ = some (.int .i64 ((rd_T94 l0 x3_1).f1.f0)) ∧ w'.cell? ⟨(ad187.add ((x3_1).toNat * 7)).block,(ad187.add ((x3_1).toNat * 7)).off + 2,none⟩ = some (.slice A187_2 ((rd_T94 l0 x3_1).f1.f1).length c187_2) ∧ w'.cell? ⟨(ad187.add ((x3_1).toNat * 7)).block,(ad187.add ((x3_1).toNat * 7)).off + 3,none⟩ = some (.int .i64 ((rd_T94 l0 x3_1).f1.f2.f0)) ∧ w'.cell? ⟨(ad187.add ((x3_1).toNat * 7)).block,(ad187.add ((x3_1).toNat * 7)).off + 4,none⟩ = some (.int .i64 ((rd_T94 l0 x3_1).f1.f2.f1)) ∧ w'.cell? ⟨(ad187.add ((x3_1).toNat * 7)).block,(ad187.add ((x3_1).toNat * 7)).off + 5,none⟩ = some (.int .i64 ((rd_T94 l0 x3_1).f1.f2.f2)) ∧ w'.cell? ⟨(ad187.add ((x3_1).toNat * 7)).block,(ad187.add ((x3_1).toNat * 7)).off + 6,none⟩ = some (.int .i64 ((rd_T94 l0 x3_1).f2)) ∧ w'.cell? (ad187.add ((x3_1).toNat * 7)) = some (.int .i64 ((rd_T94 l0 x3_1).f0)) ∧ w'.cell? ⟨(ad187.add ((x3_1).toNat * 7)).block,(ad187.add ((x3_1).toNat * 7)).off + 1,none⟩ = some (.int .i64 ((rd_T94 l0 x3_1).f1.f0)) ∧ w'.cell? ⟨(ad187.add ((x3_1).toNat * 7)).block,(ad187.add ((x3_1).toNat * 7)).off + 2,none⟩ = some (.slice A189_2 ((rd_T94 l0 x3_1).f1.f1).length c189_2) ∧ w'.cell? ⟨(ad187.add ((x3_1).toNat * 7)).block,(ad187.add ((x3_1).toNat * 7)).off + 3,none⟩ = some (.int .i64 ((rd_T94 l0 x3_1).f1.f2.f0)) ∧ w'.cell? ⟨(ad187.add ((x3_1).toNat * 7)).block,(ad187.add ((x3_1).toNat * 7)).off + 4,none⟩ = some (.int .i64 ((rd_T94 l0 x3_1).f1.f2.f1)) ∧ w'.cell? ⟨(ad187.add ((x3_1).toNat * 7)).block,(ad187.add ((x3_1).toNat * 7)).off + 5,none⟩ = some (.int .i64 ((rd_T94 l0 x3_1).f1.f2.f2)) ∧ w'.cell? ⟨(ad187.add ((x3_1).toNat * 7)).block,(ad187.add ((x3_1).toNat * 7)).off + 6,none⟩ = some (.int .i64 ((rd_T94 l0 x3_1).f2)) ∧ w'.cell? (ad187.add ((x3_1).toNat * 7)) = some (.int .i64 ((rd_T94 l0 x3_1).f0)) ∧ w'.cell? ⟨(ad187.add ((x3_1).toNat * 7)).block,(ad187.add ((x3_1).toNat * 7)).off + 1,none⟩ = some (.int .i64 ((rd_T94 l0 x3_1).f1.f0)) ∧ w'.cell? ⟨(ad187.add ((x3_1).toNat * 7)).block,(ad187.add ((x3_1).toNat * 7)).off + 2,none⟩ = some (.slice A189_2 ((rd_T94 l0 x3_1).f1.f1).length c189_2) ∧ w'.cell? ⟨(ad187.add ((x3_1).toNat * 7)).block,(ad187.add ((x3_1).toNat * 7)).off + 3,none⟩ = some (.int .i64 ((rd_T94 l0 x3_1).f1.f2.f0)) ∧ w'.cell? ⟨(ad187.add ((x3_1).toNat * 7)).block,(ad187.add ((x3_1).toNat * 7)).off + 4,none⟩ = some (.int .i64 ((rd_T94 l0 x3_1).f1.f2.f1)) ∧ w'.cell? ⟨(ad187.add ((x3_1).toNat * 7)).block,(ad187.add ((x3_1).toNat * 7)).off + 5,none⟩ = some (.int .i64 ((rd_T94 l0 x3_1).f1.f2.f2)) ∧ w'.cell? ⟨(ad187.add ((x3_1).toNat * 7)).block,(ad187.add ((x3_1).toNat * 7)).off + 6,none⟩ = some (.int .i64 ((rd_T94 l0 x3_1).f2)) ∧ w'.cell? (ad187.add ((x3_1).toNat * 7)) = some (.int .i64 ((rd_T94 l0 x3_1).f0)) ∧ w'.cell? ⟨(ad187.add ((x3_1).toNat * 7)).block,(ad187.add ((x3_1).toNat * 7)).off + 1,none⟩ = some (.int .i64 ((rd_T94 l0 x3_1).f1.f0)) ∧ w'.cell? ⟨(ad187.add ((x3_1).toNat * 7)).block,(ad187.add ((x3_1).toNat * 7)).off + 2,none⟩ = some (.slice A192_2 ((rd_T94 l0 x3_1).f1.f1).length c192_2) ∧ w'.cell? ⟨(ad187.add ((x3_1).toNat * 7)).block,(ad187.add ((x3_1).toNat * 7)).off + 3,none⟩ = some (.int .i64 ((rd_T94 l0 x3_1).f1.f2.f0)) ∧ w'.cell? ⟨(ad187.add ((x3_1).toNat * 7)).block,(ad187.add ((x3_1).toNat * 7)).off + 4,none⟩ = some (.int .i64 ((rd_T94 l0 x3_1).f1.f2.f1)) ∧ w'.cell? ⟨(ad187.add ((x3_1).toNat * 7)).block,(ad187.add ((x3_1).toNat * 7)).off + 5,none⟩ = some (.int .i64 ((rd_T94 l0 x3_1).f1.f2.f2)) ∧ w'.cell? ⟨(ad187.add ((x3_1).toNat * 7)).block,(ad187.add ((x3_1).toNat * 7)).off + 6,none⟩ = some (.int .i64 ((rd_T94 l0 x3_1).f2)) ∧ w'.cell? (ad187.add (((ji11)).toNat * 7)) = some (.int .i64 ((rd_T94 l0 (ji11)).f0)) ∧ w'.cell? ⟨(ad187.add (((ji11)).toNat * 7)).block,(ad187.add (((ji11)).toNat * 7)).off + 1,none⟩ = some (.int .i64 ((rd_T94 l0 (ji11)).f1.f0)) ∧ w'.cell? ⟨(ad187.add (((ji11)).toNat * 7)).block,(ad187.add (((ji11)).toNat * 7)).off + 2,none⟩ = some (.slice A194_2 ((rd_T94 l0 (ji11)).f1.f1).length c194_2) ∧ w'.cell? ⟨(ad187.add (((ji11)).toNat * 7)).block,(ad187.add (((ji11)).toNat * 7)).off + 3,none⟩ = some (.int .i64 ((rd_T94 l0 (ji11)).f1.f2.f0)) ∧ w'.cell? ⟨(ad187.add (((ji11)).toNat * 7)).block,(ad187.add (((ji11)).toNat * 7)).off + 4,none⟩ = some (.int .i64 ((rd_T94 l0 (ji11)).f1.f2.f1)) ∧ w'.cell? ⟨(ad187.add (((ji11)).toNat * 7)).block,(ad187.add (((ji11)).toNat * 7)).off + 5,none⟩ = some (.int .i64 ((rd_T94 l0 (ji11)).f1.f2.f2)) ∧ w'.cell? ⟨(ad187.add (((ji11)).toNat * 7)).block,(ad187.add (((ji11)).toNat * 7)).off + 6,none⟩ = some (.int .i64 ((rd_T94 l0 (ji11)).f2)) ∧ w'.cell? (ad187.add ((x3_1).toNat * 7)) = some (.int .i64 ((rd_T94 l0 x3_1).f0)) ∧ w'.cell? ⟨(ad187.add ((x3_1).toNat * 7)).block,(ad187.add ((x3_1).toNat * 7)).off + 1,none⟩ = some (.int .i64 ((rd_T94 l0 x3_1).f1.f0)) ∧ w'.cell? ⟨(ad187.add ((x3_1).toNat * 7)).block,(ad187.add ((x3_1).toNat * 7)).off + 2,none⟩ = some (.slice A192_2 ((rd_T94 l0 x3_1).f1.f1).length c192_2) ∧ w'.cell? ⟨(ad187.add ((x3_1).toNat * 7)).block,(ad187.add ((x3_1).toNat * 7)).off + 3,none⟩ = some (.int .i64 ((rd_T94 l0 x3_1).f1.f2.f0)) ∧ w'.cell? ⟨(ad187.add ((x3_1).toNat * 7)).block,(ad187.add ((x3_1).toNat * 7)).off + 4,none⟩ = some (.int .i64 ((rd_T94 l0 x3_1).f1.f2.f1)) ∧ w'.cell? ⟨(ad187.add ((x3_1).toNat * 7)).block,(ad187.add ((x3_1).toNat * 7)).off + 5,none⟩ = some (.int .i64 ((rd_T94 l0 x3_1).f1.f2.f2)) ∧ w'.cell? ⟨(ad187.add ((x3_1).toNat * 7)).block,(ad187.add ((x3_1).toNat * 7)).off + 6,none⟩ = some (.int .i64 ((rd_T94 l0 x3_1).f2))) (ds:=[]) q0_ (by kernel_rfl) rfl rfl ⟨((HB.out.cell (World.block_lt_of_cell? w _ hw187_0)).trans hw187_0),((HB.out.cell (World.block_lt_of_cell? w _ hw187_1)).trans hw187_1),((HB.out.cell (World.block_lt_of_cell? w _ hw187_2)).trans hw187_2),((HB.out.cell (World.block_lt_of_cell? w _ hw187_3)).trans hw187_3),((HB.out.cell (World.block_lt_of_cell? w _ hw187_4)).trans hw187_4),((HB.out.cell (World.block_lt_of_cell? w _ hw187_5)).trans hw187_5),((HB.out.cell (World.block_lt_of_cell? w _ hw187_6)).trans hw187_6),((HB.out.cell (World.block_lt_of_cell? w _ hw189_0)).trans hw189_0),((HB.out.cell (World.block_lt_of_cell? w _ hw189_1)).trans hw189_1),((HB.out.cell (World.block_lt_of_cell? w _ hw189_2)).trans hw189_2),((HB.out.cell (World.block_lt_of_cell? w _ hw189_3)).trans hw189_3),((HB.out.cell (World.block_lt_of_cell? w _ hw189_4)).trans hw189_4),((HB.out.cell (World.block_lt_of_cell? w _ hw189_5)).trans hw189_5),((HB.out.cell (World.block_lt_of_cell? w _ hw189_6)).trans hw189_6),((HB.out.cell (World.block_lt_of_cell? w _ hw190_0)).trans hw190_0),((HB.out.cell (World.block_lt_of_cell? w _ hw190_1)).trans hw190_1),((HB.out.cell (World.block_lt_of_cell? w _ hw190_2)).trans hw190_2),((HB.out.cell (World.block_lt_of_cell? w _ hw190_3)).trans hw190_3),((HB.out.cell (World.block_lt_of_cell? w _ hw190_4)).trans hw190_4),((HB.out.cell (World.block_lt_of_cell? w _ hw190_5)).trans hw190_5),((HB.out.cell (World.block_lt_of_cell? w _ hw190_6)).trans hw190_6),((HB.out.cell (World.block_lt_of_cell? w _ hw192_0)).trans hw192_0),((HB.out.cell (World.block_lt_of_cell? w _ hw192_1)).trans hw192_1),((HB.out.cell (World.block_lt_of_cell? w _ hw192_2)).trans hw192_2),((HB.out.cell (World.block_lt_of_cell? w _ hw192_3)).trans hw192_3),((HB.out.cell (World.block_lt_of_cell? w _ hw192_4)).trans hw192_4),((HB.out.cell (World.block_lt_of_cell? w _ hw192_5)).trans hw192_5),((HB.out.cell (World.block_lt_of_cell? w _ hw192_6)).trans hw192_6),((HB.out.cell (World.block_lt_of_cell? w _ hw194_0)).trans hw194_0),((HB.out.cell (World.block_lt_of_cell? w _ hw194_1)).trans hw194_1),((HB.out.cell (World.block_lt_of_cell? w _ hw194_2)).trans hw194_2),((HB.out.cell (World.block_lt_of_cell? w _ hw194_3)).trans hw194_3),((HB.out.cell (World.block_lt_of_cell? w _ hw194_4)).trans hw194_4),((HB.out.cell (World.block_lt_of_cell? w _ hw194_5)).trans hw194_5),((HB.out.cell (World.block_lt_of_cell? w _ hw194_6)).trans hw194_6),((HB.out.cell (World.block_lt_of_cell? w _ hw195_0)).trans hw195_0),((HB.out.cell (World.block_lt_of_cell? w _ hw195_1)).trans hw195_1),((HB.out.cell (World.block_lt_of_cell? w _ hw195_2)).trans hw195_2),((HB.out.cell (World.block_lt_of_cell? w _ hw195_3)).trans hw195_3),((HB.out.cell (World.block_lt_of_cell? w _ hw195_4)).trans hw195_4),((HB.out.cell (World.block_lt_of_cell? w _ hw195_5)).trans hw195_5),((HB.out.cell (World.block_lt_of_cell? w _ hw195_6)).trans hw195_6)⟩ (fun hHeld => ?_);refine with_tabW spec_IsStore.tab4 spec_IsStore.bits4 (fun HT_ HW_ => ?_)
            generalize wr.drew = w18 at HB HR187_2 HR189_2 HR190_2 HR192_2 HR194_2 HR195_2 hx187_0 hx187_1 hx187_2 hx187_3 hx187_4 hx187_5 hx187_6 hx189_0 hx189_1 hx189_2 hx189_3 hx189_4 hx189_5 hx189_6 hx190_0 hx190_1 hx190_2 hx190_3 hx190_4 hx190_5 hx190_6 hx192_0 hx192_1 hx192_2 hx192_3 hx192_4 hx192_5 hx192_6 hx194_0 hx194_1 hx194_2 hx194_3 hx194_4 hx194_5 hx194_6 hx195_0 hx195_1 hx195_2 hx195_3 hx195_4 hx195_5 hx195_6 hHeld ⊢
            refine pure_ (i:=0) (N:=some 10) (v:=?_) (a':=?_) q1_ rfl rfl (any_of HT_.out (by kernel_rfl)) (fun _ _ _ h => h) (Or.inl ⟨by rfl,?_⟩) ?_ ?_
            rotate_left
            ·intro w';go_simp;with_reducible rfl
            rotate_left
            ·simp only [Act.put,List.setIfInBounds_toArray,List.set_cons_zero,List.set_cons_succ,i64_w,i32_w]
             rfl
            refine pure_ (i:=1) (N:=some 11) (v:=?_) (a':=?_) q2_ rfl rfl (any_of HT_.out (by kernel_rfl)) (fun _ _ _ h => h) (Or.inl ⟨by rfl,?_⟩) ?_ ?_
            rotate_left
            ·intro w';go_simp;with_reducible rfl
            rotate_left
            ·simp only [Act.put,List.setIfInBounds_toArray,List.set_cons_zero,List.set_cons_succ,i64_w,i32_w]
             rfl
            refine pure_ (i:=2) (N:=some 12) (v:=?_) (a':=?_) q3_ rfl rfl (any_of HT_.out (by kernel_rfl)) (fun _ _ _ h => h) (Or.inl ⟨by rfl,?_⟩) ?_ ?_
            rotate_left
            ·intro w';go_simp;with_reducible rfl
            rotate_left
            ·simp only [Act.put,List.setIfInBounds_toArray,List.set_cons_zero,List.set_cons_succ,i64_w,i32_w]
             rfl
            refine pure_ (i:=3) (N:=some 13) (v:=?_) (a':=?_) q4_ rfl rfl (any_of HT_.out (by kernel_rfl)) (fun _ _ _ h => h) (Or.inl ⟨by rfl,?_⟩) ?_ ?_
            rotate_left
            ·intro w';go_simp;with_reducible rfl
            rotate_left
            ·simp only [Act.put,List.setIfInBounds_toArray,List.set_cons_zero,List.set_cons_succ,i64_w,i32_w]
             rfl
            refine take_ (i:=4) (N:=some 14) (v:=?_) (a':=?_) q5_ rfl rfl (take_ofW HT_.out HW_.out (by kernel_rfl)) (fun _ _ _ h => h) (Or.inl ⟨by rfl,?_⟩) hHeld ?_ ?_
            rotate_left
            ·rintro w' ⟨s0,s1,s2,s3,s4,s5,s6,s7,s8,s9,s10,s11,s12,s13,s14,s15,s16,s17,s18,s19,s20,s21,s22,s23,s24,s25,s26,s27,s28,s29,s30,s31,s32,s33,s34,s35,s36,s37,s38,s39,s40,s41⟩
             go_simp;with_reducible rfl
            rotate_left
            ·simp only [Act.put,List.setIfInBounds_toArray,List.set_cons_zero,List.set_cons_succ,i64_w,i32_w]
             rfl
            refine one_ (i:=5) (N:=some 15) q6_ rfl rfl (one_of HT_.out (by kernel_rfl)) (by decide) (fun K hK => ?_)
            refine goes_ Try.func69 (by kernel_rfl) rfl #[.agg #[.int .i64 ((rd_T94 l0 x3_1).f1.f0),.slice A187_2 ((rd_T94 l0 x3_1).f1.f1).length c187_2,.int .i64 ((rd_T94 l0 x3_1).f1.f2.f0),.int .i64 ((rd_T94 l0 x3_1).f1.f2.f1),.int .i64 ((rd_T94 l0 x3_1).f1.f2.f2)]] (by rfl) rfl rfl (by (try simp only [List.map_toArray,List.map_cons,List.map_nil]);first|done|rfl|(simp only [List.length_drop,List.length_take];rfl)) ?_
            with_reducible refine (spec_IsResource.calls k1 ((rd_T94 l0 x3_1).f1.f0) _ _ ((rd_T94 l0 x3_1).f1.f1) ((rd_T94 l0 x3_1).f1.f2.f0) ((rd_T94 l0 x3_1).f1.f2.f1) ((rd_T94 l0 x3_1).f1.f2.f2) true _ ?side1 ?side2 A4.out).mono ?_
            (case side1 => repeat (first|exact (Kd.C_below HR187_2.out HB.out)|(with_reducible refine Kd.C_alloc ?_ _)|(with_reducible refine Kd.C_drewN ?_ _)|(with_reducible refine Kd.C_drew ?_)))
            (case side2 => exact HC187_2.out)
            rintro e w19 ⟨rfl,hb⟩
            refine ⟨_,rfl,?_⟩
            have n0_:=Aside0.mk (below_step (by repeat (first|(with_reducible first|exact HB.out|apply below_alloc|apply pw_below_drewN|apply below_drew1)|exact HB.out)) hb)
            clear HB;have HB:=n0_;clear n0_;(try clear hb);refine hK.out _ _ ⟨((HB.out.cell (World.block_lt_of_cell? w _ hw187_0)).trans hw187_0),((HB.out.cell (World.block_lt_of_cell? w _ hw187_1)).trans hw187_1),((HB.out.cell (World.block_lt_of_cell? w _ hw187_2)).trans hw187_2),((HB.out.cell (World.block_lt_of_cell? w _ hw187_3)).trans hw187_3),((HB.out.cell (World.block_lt_of_cell? w _ hw187_4)).trans hw187_4),((HB.out.cell (World.block_lt_of_cell? w _ hw187_5)).trans hw187_5),((HB.out.cell (World.block_lt_of_cell? w _ hw187_6)).trans hw187_6),((HB.out.cell (World.block_lt_of_cell? w _ hw189_0)).trans hw189_0),((HB.out.cell (World.block_lt_of_cell? w _ hw189_1)).trans hw189_1),((HB.out.cell (World.block_lt_of_cell? w _ hw189_2)).trans hw189_2),((HB.out.cell (World.block_lt_of_cell? w _ hw189_3)).trans hw189_3),((HB.out.cell (World.block_lt_of_cell? w _ hw189_4)).trans hw189_4),((HB.out.cell (World.block_lt_of_cell? w _ hw189_5)).trans hw189_5),((HB.out.cell (World.block_lt_of_cell? w _ hw189_6)).trans hw189_6),((HB.out.cell (World.block_lt_of_cell? w _ hw190_0)).trans hw190_0),((HB.out.cell (World.block_lt_of_cell? w _ hw190_1)).trans hw190_1),((HB.out.cell (World.block_lt_of_cell? w _ hw190_2)).trans hw190_2),((HB.out.cell (World.block_lt_of_cell? w _ hw190_3)).trans hw190_3),((HB.out.cell (World.block_lt_of_cell? w _ hw190_4)).trans hw190_4),((HB.out.cell (World.block_lt_of_cell? w _ hw190_5)).trans hw190_5),((HB.out.cell (World.block_lt_of_cell? w _ hw190_6)).trans hw190_6),((HB.out.cell (World.block_lt_of_cell? w _ hw192_0)).trans hw192_0),((HB.out.cell (World.block_lt_of_cell? w _ hw192_1)).trans hw192_1),((HB.out.cell (World.block_lt_of_cell? w _ hw192_2)).trans hw192_2),((HB.out.cell (World.block_lt_of_cell? w _ hw192_3)).trans hw192_3),((HB.out.cell (World.block_lt_of_cell? w _ hw192_4)).trans hw192_4),((HB.out.cell (World.block_lt_of_cell? w _ hw192_5)).trans hw192_5),((HB.out.cell (World.block_lt_of_cell? w _ hw192_6)).trans hw192_6),((HB.out.cell (World.block_lt_of_cell? w _ hw194_0)).trans hw194_0),((HB.out.cell (World.block_lt_of_cell? w _ hw194_1)).trans hw194_1),((HB.out.cell (World.block_lt_of_cell? w _ hw194_2)).trans hw194_2),((HB.out.cell (World.block_lt_of_cell? w _ hw194_3)).trans hw194_3),((HB.out.cell (World.block_lt_of_cell? w _ hw194_4)).trans hw194_4),((HB.out.cell (World.block_lt_of_cell? w _ hw194_5)).trans hw194_5),((HB.out.cell (World.block_lt_of_cell? w _ hw194_6)).trans hw194_6),((HB.out.cell (World.block_lt_of_cell? w _ hw195_0)).trans hw195_0),((HB.out.cell (World.block_lt_of_cell? w _ hw195_1)).trans hw195_1),((HB.out.cell (World.block_lt_of_cell? w _ hw195_2)).trans hw195_2),((HB.out.cell (World.block_lt_of_cell? w _ hw195_3)).trans hw195_3),((HB.out.cell (World.block_lt_of_cell? w _ hw195_4)).trans hw195_4),((HB.out.cell (World.block_lt_of_cell? w _ hw195_5)).trans hw195_5),((HB.out.cell (World.block_lt_of_cell? w _ hw195_6)).trans hw195_6)⟩ (fun hHeld => ?_)
            clear hK K;refine norm_ (a':=?_) ?_ ?_
            rotate_left
            ·show Act.put _ (some 15) _ = _
             simp only [Act.put,List.setIfInBounds_toArray,List.set_cons_zero,List.set_cons_succ,i64_w,i32_w]
             rfl
            refine pure_ (i:=6) (N:=some 16) (v:=?_) (a':=?_) q7_ rfl rfl (any_of HT_.out (by kernel_rfl)) (fun _ _ _ h => h) (Or.inl ⟨by rfl,?_⟩) ?_ ?_
            rotate_left
            ·intro w';go_simp;with_reducible rfl
            rotate_left
            ·simp only [Act.put,List.setIfInBounds_toArray,List.set_cons_zero,List.set_cons_succ,i64_w,i32_w]
             rfl
            refine pure_ (i:=7) (N:=some 17) (v:=?_) (a':=?_) q8_ rfl rfl (any_of HT_.out (by kernel_rfl)) (fun _ _ _ h => h) (Or.inl ⟨by rfl,?_⟩) ?_ ?_
            rotate_left
            ·intro w';go_simp;with_reducible rfl
            rotate_left
            ·simp only [Act.put,List.setIfInBounds_toArray,List.set_cons_zero,List.set_cons_succ,i64_w,i32_w]
             rfl
            refine pure_ (i:=8) (N:=some 18) (v:=?_) (a':=?_) q9_ rfl rfl (any_of HT_.out (by kernel_rfl)) (fun _ _ _ h => h) (Or.inl ⟨by rfl,?_⟩) ?_ ?_
            rotate_left
            ·intro w';go_simp;with_reducible rfl
            rotate_left
            ·simp only [Act.put,List.setIfInBounds_toArray,List.set_cons_zero,List.set_cons_succ,i64_w,i32_w]
             rfl
            refine pure_ (i:=9) (N:=some 19) (v:=?_) (a':=?_) q10_ rfl rfl (any_of HT_.out (by kernel_rfl)) (fun _ _ _ h => h) (Or.inl ⟨by rfl,?_⟩) ?_ ?_
            rotate_left
            ·intro w';go_simp;with_reducible rfl
            rotate_left
            ·simp only [Act.put,List.setIfInBounds_toArray,List.set_cons_zero,List.set_cons_succ,i64_w,i32_w]
             rfl
            refine pure_ (i:=10) (N:=some 20) (v:=?_) (a':=?_) q11_ rfl rfl (any_of HT_.out (by kernel_rfl)) (fun _ _ _ h => h) (Or.inl ⟨by rfl,?_⟩) ?_ ?_
            rotate_left
            ·intro w';go_simp;with_reducible rfl
            rotate_left
            ·simp only [Act.put,List.setIfInBounds_toArray,List.set_cons_zero,List.set_cons_succ,i64_w,i32_w]
             rfl
            refine pure_ (i:=11) (N:=some 21) (v:=?_) (a':=?_) q12_ rfl rfl (any_of HT_.out (by kernel_rfl)) (fun _ _ _ h => h) (Or.inl ⟨by rfl,?_⟩) ?_ ?_
            rotate_left
            ·intro w';go_simp;with_reducible rfl
            rotate_left
            ·simp only [Act.put,List.setIfInBounds_toArray,List.set_cons_zero,List.set_cons_succ,i64_w,i32_w]
             rfl
            refine pure_ (i:=13) (N:=some 23) (v:=?_) (a':=?_) q13_ rfl rfl (any_of HT_.out (by kernel_rfl)) (fun _ _ _ h => h) (Or.inl ⟨by rfl,?_⟩) ?_ ?_
            rotate_left
            ·intro w';go_simp;with_reducible rfl
            rotate_left
            ·simp only [Act.put,List.setIfInBounds_toArray,List.set_cons_zero,List.set_cons_succ,i64_w,i32_w]
             rfl
            refine pure_ (i:=14) (N:=some 24) (v:=?_) (a':=?_) q14_ rfl rfl (any_of HT_.out (by kernel_rfl)) (fun _ _ _ h => h) (Or.inl ⟨by rfl,?_⟩) ?_ ?_
            rotate_left
            ·intro w';go_simp;with_reducible rfl
            rotate_left
            ·simp only [Act.put,List.setIfInBounds_toArray,List.set_cons_zero,List.set_cons_succ,i64_w,i32_w]
             rfl
            refine pure_ (i:=15) (N:=some 25) (v:=?_) (a':=?_) q15_ rfl rfl (any_of HT_.out (by kernel_rfl)) (fun _ _ _ h => h) (Or.inl ⟨by rfl,?_⟩) ?_ ?_
            rotate_left
            ·intro w';go_simp;with_reducible rfl
            rotate_left
            ·simp only [Act.put,List.setIfInBounds_toArray,List.set_cons_zero,List.set_cons_succ,i64_w,i32_w]
             rfl
            refine pure_ (i:=16) (N:=some 26) (v:=?_) (a':=?_) q16_ rfl rfl (any_of HT_.out (by kernel_rfl)) (fun _ _ _ h => h) (Or.inl ⟨by rfl,?_⟩) ?_ ?_
            rotate_left
            ·intro w';go_simp;with_reducible rfl
            rotate_left
            ·simp only [Act.put,List.setIfInBounds_toArray,List.set_cons_zero,List.set_cons_succ,i64_w,i32_w]
             rfl
            refine take_ (i:=12) (N:=some 22) (v:=?_) (a':=?_) q17_ rfl rfl (take_ofW HT_.out HW_.out (by kernel_rfl)) (fun _ _ _ h => h) (Or.inl ⟨by rfl,?_⟩) hHeld ?_ ?_
            rotate_left
            ·rintro w' ⟨s0,s1,s2,s3,s4,s5,s6,s7,s8,s9,s10,s11,s12,s13,s14,s15,s16,s17,s18,s19,s20,s21,s22,s23,s24,s25,s26,s27,s28,s29,s30,s31,s32,s33,s34,s35,s36,s37,s38,s39,s40,s41⟩
             go_simp;with_reducible rfl
            rotate_left
            ·simp only [Act.put,List.setIfInBounds_toArray,List.set_cons_zero,List.set_cons_succ,i64_w,i32_w]
             rfl
            refine take_ (i:=17) (N:=some 27) (v:=?_) (a':=?_) q18_ rfl rfl (take_ofW HT_.out HW_.out (by kernel_rfl)) (fun _ _ _ h => h) (Or.inl ⟨by rfl,?_⟩) hHeld ?_ ?_
            rotate_left
            ·rintro w' ⟨s0,s1,s2,s3,s4,s5,s6,s7,s8,s9,s10,s11,s12,s13,s14,s15,s16,s17,s18,s19,s20,s21,s22,s23,s24,s25,s26,s27,s28,s29,s30,s31,s32,s33,s34,s35,s36,s37,s38,s39,s40,s41⟩
             go_simp;with_reducible rfl
            rotate_left
            ·simp only [Act.put,List.setIfInBounds_toArray,List.set_cons_zero,List.set_cons_succ,i64_w,i32_w]
             rfl
            refine one_ (i:=18) (N:=some 28) q19_ rfl rfl (one_of HT_.out (by kernel_rfl)) (by decide) (fun K hK => ?_)
            refine goes_ Try.func70 (by kernel_rfl) rfl #[.agg #[.int .i64 ((rd_T94 l0 x3_1).f1.f0),.slice A187_2 ((rd_T94 l0 x3_1).f1.f1).length c187_2,.int .i64 ((rd_T94 l0 x3_1).f1.f2.f0),.int .i64 ((rd_T94 l0 x3_1).f1.f2.f1),.int .i64 ((rd_T94 l0 x3_1).f1.f2.f2)]] (by rfl) rfl rfl (by (try simp only [List.map_toArray,List.map_cons,List.map_nil]);first|done|rfl|(simp only [List.length_drop,List.length_take];rfl)) ?_
            with_reducible refine (spec_DigestOf.calls k1 ((rd_T94 l0 x3_1).f1.f0) _ _ ((rd_T94 l0 x3_1).f1.f1) ((rd_T94 l0 x3_1).f1.f2.f0) ((rd_T94 l0 x3_1).f1.f2.f1) ((rd_T94 l0 x3_1).f1.f2.f2) t191 _ ?side1 ?side2 A6.out).mono ?_
            (case side1 => repeat (first|exact (Kd.C_below HR187_2.out HB.out)|(with_reducible refine Kd.C_alloc ?_ _)|(with_reducible refine Kd.C_drewN ?_ _)|(with_reducible refine Kd.C_drew ?_)))
            (case side2 => exact HC187_2.out)
            rintro e w20 ⟨rfl,hb⟩
            refine ⟨_,rfl,?_⟩
            have n0_:=Aside0.mk (below_step (by repeat (first|(with_reducible first|exact HB.out|apply below_alloc|apply pw_below_drewN|apply below_drew1)|exact HB.out)) hb)
            clear HB;have HB:=n0_;clear n0_;(try clear hb);refine hK.out _ _ ⟨((HB.out.cell (World.block_lt_of_cell? w _ hw187_0)).trans hw187_0),((HB.out.cell (World.block_lt_of_cell? w _ hw187_1)).trans hw187_1),((HB.out.cell (World.block_lt_of_cell? w _ hw187_2)).trans hw187_2),((HB.out.cell (World.block_lt_of_cell? w _ hw187_3)).trans hw187_3),((HB.out.cell (World.block_lt_of_cell? w _ hw187_4)).trans hw187_4),((HB.out.cell (World.block_lt_of_cell? w _ hw187_5)).trans hw187_5),((HB.out.cell (World.block_lt_of_cell? w _ hw187_6)).trans hw187_6),((HB.out.cell (World.block_lt_of_cell? w _ hw189_0)).trans hw189_0),((HB.out.cell (World.block_lt_of_cell? w _ hw189_1)).trans hw189_1),((HB.out.cell (World.block_lt_of_cell? w _ hw189_2)).trans hw189_2),((HB.out.cell (World.block_lt_of_cell? w _ hw189_3)).trans hw189_3),((HB.out.cell (World.block_lt_of_cell? w _ hw189_4)).trans hw189_4),((HB.out.cell (World.block_lt_of_cell? w _ hw189_5)).trans hw189_5),((HB.out.cell (World.block_lt_of_cell? w _ hw189_6)).trans hw189_6),((HB.out.cell (World.block_lt_of_cell? w _ hw190_0)).trans hw190_0),((HB.out.cell (World.block_lt_of_cell? w _ hw190_1)).trans hw190_1),((HB.out.cell (World.block_lt_of_cell? w _ hw190_2)).trans hw190_2),((HB.out.cell (World.block_lt_of_cell? w _ hw190_3)).trans hw190_3),((HB.out.cell (World.block_lt_of_cell? w _ hw190_4)).trans hw190_4),((HB.out.cell (World.block_lt_of_cell? w _ hw190_5)).trans hw190_5),((HB.out.cell (World.block_lt_of_cell? w _ hw190_6)).trans hw190_6),((HB.out.cell (World.block_lt_of_cell? w _ hw192_0)).trans hw192_0),((HB.out.cell (World.block_lt_of_cell? w _ hw192_1)).trans hw192_1),((HB.out.cell (World.block_lt_of_cell? w _ hw192_2)).trans hw192_2),((HB.out.cell (World.block_lt_of_cell? w _ hw192_3)).trans hw192_3),((HB.out.cell (World.block_lt_of_cell? w _ hw192_4)).trans hw192_4),((HB.out.cell (World.block_lt_of_cell? w _ hw192_5)).trans hw192_5),((HB.out.cell (World.block_lt_of_cell? w _ hw192_6)).trans hw192_6),((HB.out.cell (World.block_lt_of_cell? w _ hw194_0)).trans hw194_0),((HB.out.cell (World.block_lt_of_cell? w _ hw194_1)).trans hw194_1),((HB.out.cell (World.block_lt_of_cell? w _ hw194_2)).trans hw194_2),((HB.out.cell (World.block_lt_of_cell? w _ hw194_3)).trans hw194_3),((HB.out.cell (World.block_lt_of_cell? w _ hw194_4)).trans hw194_4),((HB.out.cell (World.block_lt_of_cell? w _ hw194_5)).trans hw194_5),((HB.out.cell (World.block_lt_of_cell? w _ hw194_6)).trans hw194_6),((HB.out.cell (World.block_lt_of_cell? w _ hw195_0)).trans hw195_0),((HB.out.cell (World.block_lt_of_cell? w _ hw195_1)).trans hw195_1),((HB.out.cell (World.block_lt_of_cell? w _ hw195_2)).trans hw195_2),((HB.out.cell (World.block_lt_of_cell? w _ hw195_3)).trans hw195_3),((HB.out.cell (World.block_lt_of_cell? w _ hw195_4)).trans hw195_4),((HB.out.cell (World.block_lt_of_cell? w _ hw195_5)).trans hw195_5),((HB.out.cell (World.block_lt_of_cell? w _ hw195_6)).trans hw195_6)⟩ (fun hHeld => ?_)
            clear hK K;refine norm_ (a':=?_) ?_ ?_
            rotate_left
            ·show Act.put _ (some 28) _ = _
             simp only [Act.put,List.setIfInBounds_toArray,List.set_cons_zero,List.set_cons_succ,i64_w,i32_w]
             rfl
            refine pure_ (i:=19) (N:=some 29) (v:=?_) (a':=?_) q20_ rfl rfl (any_of HT_.out (by kernel_rfl)) (fun _ _ _ h => h) (Or.inl ⟨by rfl,?_⟩) ?_ ?_
            rotate_left
            ·intro w';go_simp;with_reducible rfl
            rotate_left
            ·simp only [Act.put,List.setIfInBounds_toArray,List.set_cons_zero,List.set_cons_succ,i64_w,i32_w]
             rfl
            refine pure_ (i:=20) (N:=some 30) (v:=?_) (a':=?_) q21_ rfl rfl (any_of HT_.out (by kernel_rfl)) (fun _ _ _ h => h) (Or.inl ⟨by rfl,?_⟩) ?_ ?_
            rotate_left
            ·intro w';go_simp;with_reducible rfl
            rotate_left
            ·simp only [Act.put,List.setIfInBounds_toArray,List.set_cons_zero,List.set_cons_succ,i64_w,i32_w]
             rfl
            refine pure_ (i:=21) (N:=some 31) (v:=?_) (a':=?_) q22_ rfl rfl (any_of HT_.out (by kernel_rfl)) (fun _ _ _ h => h) (Or.inl ⟨by rfl,?_⟩) ?_ ?_
            rotate_left
            ·intro w';go_simp;with_reducible rfl
            rotate_left
            ·simp only [Act.put,List.setIfInBounds_toArray,List.set_cons_zero,List.set_cons_succ,i64_w,i32_w]
             rfl
            refine pure_ (i:=22) (N:=some 32) (v:=?_) (a':=?_) q23_ rfl rfl (any_of HT_.out (by kernel_rfl)) (fun _ _ _ h => h) (Or.inl ⟨by rfl,?_⟩) ?_ ?_
            rotate_left
            ·intro w';go_simp;with_reducible rfl
            rotate_left
            ·simp only [Act.put,List.setIfInBounds_toArray,List.set_cons_zero,List.set_cons_succ,i64_w,i32_w]
             rfl
            refine pure_ (i:=23) (N:=some 33) (v:=?_) (a':=?_) q24_ rfl rfl (any_of HT_.out (by kernel_rfl)) (fun _ _ _ h => h) (Or.inl ⟨by rfl,?_⟩) ?_ ?_
            rotate_left
            ·intro w';go_simp;with_reducible rfl
            rotate_left
            ·simp only [Act.put,List.setIfInBounds_toArray,List.set_cons_zero,List.set_cons_succ,i64_w,i32_w]
             rfl
            refine pure_ (i:=24) (N:=some 34) (v:=?_) (a':=?_) q25_ rfl rfl (any_of HT_.out (by kernel_rfl)) (fun _ _ _ h => h) (Or.inl ⟨by rfl,?_⟩) ?_ ?_
            rotate_left
            ·intro w';go_simp;with_reducible rfl
            rotate_left
            ·simp only [Act.put,List.setIfInBounds_toArray,List.set_cons_zero,List.set_cons_succ,i64_w,i32_w]
             rfl
            refine pure_ (i:=25) (N:=some 35) (v:=?_) (a':=?_) q26_ rfl rfl (any_of HT_.out (by kernel_rfl)) (fun _ _ _ h => h) (Or.inl ⟨by rfl,?_⟩) ?_ ?_
            rotate_left
            ·intro w';go_simp;with_reducible rfl
            rotate_left
            ·simp only [Act.put,List.setIfInBounds_toArray,List.set_cons_zero,List.set_cons_succ,i64_w,i32_w]
             rfl
            refine take_ (i:=26) (N:=some 36) (v:=?_) (a':=?_) q27_ rfl rfl (take_ofW HT_.out HW_.out (by kernel_rfl)) (fun _ _ _ h => h) (Or.inl ⟨by rfl,?_⟩) hHeld ?_ ?_
            rotate_left
            ·rintro w' ⟨s0,s1,s2,s3,s4,s5,s6,s7,s8,s9,s10,s11,s12,s13,s14,s15,s16,s17,s18,s19,s20,s21,s22,s23,s24,s25,s26,s27,s28,s29,s30,s31,s32,s33,s34,s35,s36,s37,s38,s39,s40,s41⟩
             go_simp;with_reducible rfl
            rotate_left
            ·simp only [Act.put,List.setIfInBounds_toArray,List.set_cons_zero,List.set_cons_succ,i64_w,i32_w]
             rfl
            refine one_ (i:=27) (N:=some 37) q28_ rfl rfl (one_of HT_.out (by kernel_rfl)) (by decide) (fun K hK => ?_)
            refine goes_ Try.func60 (by kernel_rfl) rfl #[.int .i64 ((rd_T94 l0 x3_1).f2),.int .i64 1,.int .i64 1000] (by rfl) rfl rfl (by (try simp only [List.map_toArray,List.map_cons,List.map_nil]);first|done|rfl|(simp only [List.length_drop,List.length_take];rfl)) ?_
            with_reducible refine (spec_l1In.calls ((rd_T94 l0 x3_1).f2) 1 1000 true _ A8.out).mono ?_
            rintro e w' ⟨rfl,⟨nd,rfl⟩⟩
            refine ⟨_,rfl,?_⟩
            refine hK.out _ _ ⟨((HB.out.cell (World.block_lt_of_cell? w _ hw187_0)).trans hw187_0),((HB.out.cell (World.block_lt_of_cell? w _ hw187_1)).trans hw187_1),((HB.out.cell (World.block_lt_of_cell? w _ hw187_2)).trans hw187_2),((HB.out.cell (World.block_lt_of_cell? w _ hw187_3)).trans hw187_3),((HB.out.cell (World.block_lt_of_cell? w _ hw187_4)).trans hw187_4),((HB.out.cell (World.block_lt_of_cell? w _ hw187_5)).trans hw187_5),((HB.out.cell (World.block_lt_of_cell? w _ hw187_6)).trans hw187_6),((HB.out.cell (World.block_lt_of_cell? w _ hw189_0)).trans hw189_0),((HB.out.cell (World.block_lt_of_cell? w _ hw189_1)).trans hw189_1),((HB.out.cell (World.block_lt_of_cell? w _ hw189_2)).trans hw189_2),((HB.out.cell (World.block_lt_of_cell? w _ hw189_3)).trans hw189_3),((HB.out.cell (World.block_lt_of_cell? w _ hw189_4)).trans hw189_4),((HB.out.cell (World.block_lt_of_cell? w _ hw189_5)).trans hw189_5),((HB.out.cell (World.block_lt_of_cell? w _ hw189_6)).trans hw189_6),((HB.out.cell (World.block_lt_of_cell? w _ hw190_0)).trans hw190_0),((HB.out.cell (World.block_lt_of_cell? w _ hw190_1)).trans hw190_1),((HB.out.cell (World.block_lt_of_cell? w _ hw190_2)).trans hw190_2),((HB.out.cell (World.block_lt_of_cell? w _ hw190_3)).trans hw190_3),((HB.out.cell (World.block_lt_of_cell? w _ hw190_4)).trans hw190_4),((HB.out.cell (World.block_lt_of_cell? w _ hw190_5)).trans hw190_5),((HB.out.cell (World.block_lt_of_cell? w _ hw190_6)).trans hw190_6),((HB.out.cell (World.block_lt_of_cell? w _ hw192_0)).trans hw192_0),((HB.out.cell (World.block_lt_of_cell? w _ hw192_1)).trans hw192_1),((HB.out.cell (World.block_lt_of_cell? w _ hw192_2)).trans hw192_2),((HB.out.cell (World.block_lt_of_cell? w _ hw192_3)).trans hw192_3),((HB.out.cell (World.block_lt_of_cell? w _ hw192_4)).trans hw192_4),((HB.out.cell (World.block_lt_of_cell? w _ hw192_5)).trans hw192_5),((HB.out.cell (World.block_lt_of_cell? w _ hw192_6)).trans hw192_6),((HB.out.cell (World.block_lt_of_cell? w _ hw194_0)).trans hw194_0),((HB.out.cell (World.block_lt_of_cell? w _ hw194_1)).trans hw194_1),((HB.out.cell (World.block_lt_of_cell? w _ hw194_2)).trans hw194_2),((HB.out.cell (World.block_lt_of_cell? w _ hw194_3)).trans hw194_3),((HB.out.cell (World.block_lt_of_cell? w _ hw194_4)).trans hw194_4),((HB.out.cell (World.block_lt_of_cell? w _ hw194_5)).trans hw194_5),((HB.out.cell (World.block_lt_of_cell? w _ hw194_6)).trans hw194_6),((HB.out.cell (World.block_lt_of_cell? w _ hw195_0)).trans hw195_0),((HB.out.cell (World.block_lt_of_cell? w _ hw195_1)).trans hw195_1),((HB.out.cell (World.block_lt_of_cell? w _ hw195_2)).trans hw195_2),((HB.out.cell (World.block_lt_of_cell? w _ hw195_3)).trans hw195_3),((HB.out.cell (World.block_lt_of_cell? w _ hw195_4)).trans hw195_4),((HB.out.cell (World.block_lt_of_cell? w _ hw195_5)).trans hw195_5),((HB.out.cell (World.block_lt_of_cell? w _ hw195_6)).trans hw195_6)⟩ (fun hHeld => ?_)
            clear hK K;refine norm_ (a':=?_) ?_ ?_
            rotate_left
            ·show Act.put _ (some 37) _ = _
             simp only [Act.put,List.setIfInBounds_toArray,List.set_cons_zero,List.set_cons_succ,i64_w,i32_w]
             rfl
            refine pure_ (i:=28) (N:=some 38) (v:=?_) (a':=?_) q29_ rfl rfl (any_of HT_.out (by kernel_rfl)) (fun _ _ _ h => h) (Or.inl ⟨by rfl,?_⟩) ?_ ?_
            rotate_left
            ·intro w';go_simp;with_reducible rfl
            rotate_left
            ·simp only [Act.put,List.setIfInBounds_toArray,List.set_cons_zero,List.set_cons_succ,i64_w,i32_w]
             rfl
            refine pure_ (i:=29) (N:=some 39) (v:=?_) (a':=?_) q30_ rfl rfl (any_of HT_.out (by kernel_rfl)) (fun _ _ _ h => h) (Or.inl ⟨by rfl,?_⟩) ?_ ?_
            rotate_left
            ·intro w';go_simp;with_reducible rfl
            rotate_left
            ·simp only [Act.put,List.setIfInBounds_toArray,List.set_cons_zero,List.set_cons_succ,i64_w,i32_w]
             rfl
            refine pure_ (i:=30) (N:=some 40) (v:=?_) (a':=?_) q31_ rfl rfl (any_of HT_.out (by kernel_rfl)) (fun _ _ _ h => h) (Or.inl ⟨by rfl,?_⟩) ?_ ?_
            rotate_left
            ·intro w';go_simp;with_reducible rfl
            rotate_left
            ·simp only [Act.put,List.setIfInBounds_toArray,List.set_cons_zero,List.set_cons_succ,i64_w,i32_w]
             rfl
            refine pure_ (i:=31) (N:=some 41) (v:=?_) (a':=?_) q32_ rfl rfl (any_of HT_.out (by kernel_rfl)) (fun _ _ _ h => h) (Or.inl ⟨by rfl,?_⟩) ?_ ?_
            rotate_left
            ·intro w';go_simp;with_reducible rfl
            rotate_left
            ·simp only [Act.put,List.setIfInBounds_toArray,List.set_cons_zero,List.set_cons_succ,i64_w,i32_w]
             rfl
            refine pure_ (i:=32) (N:=some 42) (v:=?_) (a':=?_) q33_ rfl rfl (any_of HT_.out (by kernel_rfl)) (fun _ _ _ h => h) (Or.inl ⟨by rfl,?_⟩) ?_ ?_
            rotate_left
            ·intro w';go_simp;with_reducible rfl
            rotate_left
            ·simp only [Act.put,List.setIfInBounds_toArray,List.set_cons_zero,List.set_cons_succ,i64_w,i32_w]
             rfl
            refine pure_ (i:=33) (N:=some 43) (v:=?_) (a':=?_) q34_ rfl rfl (any_of HT_.out (by kernel_rfl)) (fun _ _ _ h => h) (Or.inl ⟨by rfl,?_⟩) ?_ ?_
            rotate_left
            ·intro w';go_simp;with_reducible rfl
            rotate_left
            ·simp only [Act.put,List.setIfInBounds_toArray,List.set_cons_zero,List.set_cons_succ,i64_w,i32_w]
             rfl
            refine pure_ (i:=34) (N:=some 44) (v:=?_) (a':=?_) q35_ rfl rfl (any_of HT_.out (by kernel_rfl)) (fun _ _ _ h => h) (Or.inl ⟨by rfl,?_⟩) ?_ ?_
            rotate_left
            ·intro w';go_simp;with_reducible rfl
            rotate_left
            ·simp only [Act.put,List.setIfInBounds_toArray,List.set_cons_zero,List.set_cons_succ,i64_w,i32_w]
             rfl
            refine pure_ (i:=35) (N:=some 45) (v:=?_) (a':=?_) q36_ rfl rfl (any_of HT_.out (by kernel_rfl)) (fun _ _ _ h => h) (Or.inl ⟨by rfl,?_⟩) ?_ ?_
            rotate_left
            ·intro w';go_simp;with_reducible rfl
            rotate_left
            ·simp only [Act.put,List.setIfInBounds_toArray,List.set_cons_zero,List.set_cons_succ,i64_w,i32_w]
             rfl
            refine pure_ (i:=36) (N:=some 46) (v:=?_) (a':=?_) q37_ rfl rfl (any_of HT_.out (by kernel_rfl)) (fun _ _ _ h => h) (Or.inl ⟨by rfl,?_⟩) ?_ ?_
            rotate_left
            ·intro w';go_simp;with_reducible rfl
            rotate_left
            ·simp only [Act.put,List.setIfInBounds_toArray,List.set_cons_zero,List.set_cons_succ,i64_w,i32_w]
             rfl
            refine pure_ (i:=37) (N:=some 47) (v:=?_) (a':=?_) q38_ rfl rfl (any_of HT_.out (by kernel_rfl)) (fun _ _ _ h => h) (Or.inl ⟨by rfl,?_⟩) ?_ ?_
            rotate_left
            ·intro w';go_simp;with_reducible rfl
            rotate_left
            ·simp only [Act.put,List.setIfInBounds_toArray,List.set_cons_zero,List.set_cons_succ,i64_w,i32_w]
             rfl
            refine pure_ (i:=38) (N:=some 48) (v:=?_) (a':=?_) q39_ rfl rfl (any_of HT_.out (by kernel_rfl)) (fun _ _ _ h => h) (Or.inl ⟨by rfl,?_⟩) ?_ ?_
            rotate_left
            ·intro w';go_simp;with_reducible rfl
            rotate_left
            ·simp only [Act.put,List.setIfInBounds_toArray,List.set_cons_zero,List.set_cons_succ,i64_w,i32_w]
             rfl
            refine pure_ (i:=40) (N:=some 50) (v:=?_) (a':=?_) q40_ rfl rfl (any_of HT_.out (by kernel_rfl)) (fun _ _ _ h => h) (Or.inl ⟨by rfl,?_⟩) ?_ ?_
            rotate_left
            ·intro w';go_simp;with_reducible rfl
            rotate_left
            ·simp only [Act.put,List.setIfInBounds_toArray,List.set_cons_zero,List.set_cons_succ,i64_w,i32_w]
             rfl
            refine pure_ (i:=41) (N:=some 51) (v:=?_) (a':=?_) q41_ rfl rfl (any_of HT_.out (by kernel_rfl)) (fun _ _ _ h => h) (Or.inl ⟨by rfl,?_⟩) ?_ ?_
            rotate_left
            ·intro w';go_simp;with_reducible rfl
            rotate_left
            ·simp only [Act.put,List.setIfInBounds_toArray,List.set_cons_zero,List.set_cons_succ,i64_w,i32_w]
             rfl
            refine pure_ (i:=42) (N:=some 52) (v:=?_) (a':=?_) q42_ rfl rfl (any_of HT_.out (by kernel_rfl)) (fun _ _ _ h => h) (Or.inl ⟨by rfl,?_⟩) ?_ ?_
            rotate_left
            ·intro w';go_simp;with_reducible rfl
            rotate_left
            ·simp only [Act.put,List.setIfInBounds_toArray,List.set_cons_zero,List.set_cons_succ,i64_w,i32_w]
             rfl
            refine pure_ (i:=43) (N:=some 53) (v:=?_) (a':=?_) q43_ rfl rfl (any_of HT_.out (by kernel_rfl)) (fun _ _ _ h => h) (Or.inl ⟨by rfl,?_⟩) ?_ ?_
            rotate_left
            ·intro w';go_simp;with_reducible rfl
            rotate_left
            ·simp only [Act.put,List.setIfInBounds_toArray,List.set_cons_zero,List.set_cons_succ,i64_w,i32_w]
             rfl
            refine take_ (i:=39) (N:=some 49) (v:=?_) (a':=?_) q44_ rfl rfl (take_ofW HT_.out HW_.out (by kernel_rfl)) (fun _ _ _ h => h) (Or.inl ⟨by rfl,?_⟩) hHeld ?_ ?_
            rotate_left
            ·rintro w' ⟨s0,s1,s2,s3,s4,s5,s6,s7,s8,s9,s10,s11,s12,s13,s14,s15,s16,s17,s18,s19,s20,s21,s22,s23,s24,s25,s26,s27,s28,s29,s30,s31,s32,s33,s34,s35,s36,s37,s38,s39,s40,s41⟩
             go_simp;with_reducible rfl
            rotate_left
            ·simp only [Act.put,List.setIfInBounds_toArray,List.set_cons_zero,List.set_cons_succ,i64_w,i32_w]
             rfl
            refine take_ (i:=44) (N:=some 54) (v:=?_) (a':=?_) q45_ rfl rfl (take_ofW HT_.out HW_.out (by kernel_rfl)) (fun _ _ _ h => h) (Or.inl ⟨by rfl,?_⟩) hHeld ?_ ?_
            rotate_left
            ·rintro w' ⟨s0,s1,s2,s3,s4,s5,s6,s7,s8,s9,s10,s11,s12,s13,s14,s15,s16,s17,s18,s19,s20,s21,s22,s23,s24,s25,s26,s27,s28,s29,s30,s31,s32,s33,s34,s35,s36,s37,s38,s39,s40,s41⟩
             go_simp;with_reducible rfl
            rotate_left
            ·simp only [Act.put,List.setIfInBounds_toArray,List.set_cons_zero,List.set_cons_succ,i64_w,i32_w]
             rfl
            refine pure_ (i:=45) (N:=some 55) (v:=?_) (a':=?_) q46_ rfl rfl (any_of HT_.out (by kernel_rfl)) (fun _ _ _ h => h) (Or.inl ⟨by rfl,?_⟩) ?_ ?_
            rotate_left
            ·intro w';go_simp;with_reducible rfl
            rotate_left
            ·simp only [Act.put,List.setIfInBounds_toArray,List.set_cons_zero,List.set_cons_succ,i64_w,i32_w]
             rfl
            refine pure_ (i:=46) (N:=some 56) (v:=?_) (a':=?_) q47_ rfl rfl (any_of HT_.out (by kernel_rfl)) (fun _ _ _ h => h) (Or.inl ⟨by rfl,?_⟩) ?_ ?_
            rotate_left
            ·intro w';go_simp;with_reducible rfl
            rotate_left
            ·simp only [Act.put,List.setIfInBounds_toArray,List.set_cons_zero,List.set_cons_succ,i64_w,i32_w]
             rfl
            refine pure_ (i:=47) (N:=some 57) (v:=?_) (a':=?_) q48_ rfl rfl (any_of HT_.out (by kernel_rfl)) (fun _ _ _ h => h) (Or.inl ⟨by rfl,?_⟩) ?_ ?_
            rotate_left
            ·intro w';go_simp;with_reducible rfl
            rotate_left
            ·simp only [Act.put,List.setIfInBounds_toArray,List.set_cons_zero,List.set_cons_succ,i64_w,i32_w]
             rfl
            refine done_ (done_of HT_.out (by kernel_rfl)) ?_
            try go_wp2
            go_roundg k1
            case measure => have:=HK1.out;omega
            case rel => exact ⟨(wrap64 (x3_1 + 1)),(by first|rfl|(simp;done)|(simp [*];done)),H',⟨by have:=HK1.out;omega⟩,⟨by repeat (first|(with_reducible first|exact HB.out|apply below_alloc|apply pw_below_drewN|apply below_drew1)|exact HB.out)⟩⟩
          ·rw [if_neg c13] at H
           exact absurd H (by simp)
         ·rw [if_neg c12] at H
          exact absurd H (by simp)
        ·rw [if_neg c10] at H
         have c10b0 : decide (0 < x3_1) = false:=decide_eq_false c10
         clear c10;have H':=Aside0.mk H;clear H;try go_wp2
         have n0_:=Aside0.mk (below_drew1 HB.out)
         clear HB;have HB:=n0_;clear n0_;have p187 : 0 ≤ (x3_1 : Int):=of_decide_eq_true (by first|(with_reducible assumption)|assumption)
         have q187 : x3_1 < (l0.length : Int):=of_decide_eq_true (by first|(with_reducible assumption)|assumption)
         obtain ⟨ad187,A187_2,c187_2,e187,hx187_0,hx187_1,hx187_2,hx187_3,hx187_4,hx187_5,hx187_6,hl187_2,hi187_2⟩:=at_T94 HR0.out x3_1 p187 q187
         have hw187_6:=hx187_6;have hw187_5:=hx187_5;have hw187_4:=hx187_4;have hw187_3:=hx187_3;have hw187_2:=hx187_2;have hw187_1:=hx187_1;have hw187_0:=hx187_0;cases e187
         replace hx187_0:=(HB.out.cell (World.block_lt_of_cell? w _ hx187_0)).trans hx187_0
         replace hx187_1:=(HB.out.cell (World.block_lt_of_cell? w _ hx187_1)).trans hx187_1
         replace hx187_2:=(HB.out.cell (World.block_lt_of_cell? w _ hx187_2)).trans hx187_2
         replace hx187_3:=(HB.out.cell (World.block_lt_of_cell? w _ hx187_3)).trans hx187_3
         replace hx187_4:=(HB.out.cell (World.block_lt_of_cell? w _ hx187_4)).trans hx187_4
         replace hx187_5:=(HB.out.cell (World.block_lt_of_cell? w _ hx187_5)).trans hx187_5
         replace hx187_6:=(HB.out.cell (World.block_lt_of_cell? w _ hx187_6)).trans hx187_6
         have HR187_2:=Aside0.mk hi187_2;have HC187_2:=Aside0.mk hl187_2;clear hi187_2 hl187_2;replace p187:=eq_true p187
         replace q187:=eq_true q187
         have p189 : 0 ≤ (x3_1 : Int):=of_decide_eq_true (by first|(with_reducible assumption)|assumption)
         have q189 : x3_1 < (l0.length : Int):=of_decide_eq_true (by first|(with_reducible assumption)|assumption)
         obtain ⟨ad189,A189_2,c189_2,e189,hx189_0,hx189_1,hx189_2,hx189_3,hx189_4,hx189_5,hx189_6,hl189_2,hi189_2⟩:=at_T94 HR0.out x3_1 p189 q189
         have hw189_6:=hx189_6;have hw189_5:=hx189_5;have hw189_4:=hx189_4;have hw189_3:=hx189_3;have hw189_2:=hx189_2;have hw189_1:=hx189_1;have hw189_0:=hx189_0;obtain rfl : ad187 = ad189:=(by injection e189)
         replace hx189_0:=(HB.out.cell (World.block_lt_of_cell? w _ hx189_0)).trans hx189_0
         replace hx189_1:=(HB.out.cell (World.block_lt_of_cell? w _ hx189_1)).trans hx189_1
         replace hx189_2:=(HB.out.cell (World.block_lt_of_cell? w _ hx189_2)).trans hx189_2
         replace hx189_3:=(HB.out.cell (World.block_lt_of_cell? w _ hx189_3)).trans hx189_3
         replace hx189_4:=(HB.out.cell (World.block_lt_of_cell? w _ hx189_4)).trans hx189_4
         replace hx189_5:=(HB.out.cell (World.block_lt_of_cell? w _ hx189_5)).trans hx189_5
         replace hx189_6:=(HB.out.cell (World.block_lt_of_cell? w _ hx189_6)).trans hx189_6
         have HR189_2:=Aside0.mk hi189_2;have HC189_2:=Aside0.mk hl189_2;clear hi189_2 hl189_2;replace p189:=eq_true p189
         replace q189:=eq_true q189
         have p190 : 0 ≤ (x3_1 : Int):=of_decide_eq_true (by first|(with_reducible assumption)|assumption)
         have q190 : x3_1 < (l0.length : Int):=of_decide_eq_true (by first|(with_reducible assumption)|assumption)
         obtain ⟨ad190,A190_2,c190_2,e190,hx190_0,hx190_1,hx190_2,hx190_3,hx190_4,hx190_5,hx190_6,hl190_2,hi190_2⟩:=at_T94 HR0.out x3_1 p190 q190
         have hw190_6:=hx190_6;have hw190_5:=hx190_5;have hw190_4:=hx190_4;have hw190_3:=hx190_3;have hw190_2:=hx190_2;have hw190_1:=hx190_1;have hw190_0:=hx190_0;obtain rfl : ad187 = ad190:=(by injection e190)
         replace hx190_0:=(HB.out.cell (World.block_lt_of_cell? w _ hx190_0)).trans hx190_0
         replace hx190_1:=(HB.out.cell (World.block_lt_of_cell? w _ hx190_1)).trans hx190_1
         replace hx190_2:=(HB.out.cell (World.block_lt_of_cell? w _ hx190_2)).trans hx190_2
         replace hx190_3:=(HB.out.cell (World.block_lt_of_cell? w _ hx190_3)).trans hx190_3
         replace hx190_4:=(HB.out.cell (World.block_lt_of_cell? w _ hx190_4)).trans hx190_4
         replace hx190_5:=(HB.out.cell (World.block_lt_of_cell? w _ hx190_5)).trans hx190_5
         replace hx190_6:=(HB.out.cell (World.block_lt_of_cell? w _ hx190_6)).trans hx190_6
         have HR190_2:=Aside0.mk hi190_2;have HC190_2:=Aside0.mk hl190_2;clear hi190_2 hl190_2;replace p190:=eq_true p190
         replace q190:=eq_true q190
         have ea_:=Option.some.inj (hx189_2.symm.trans hx190_2)
         injection ea_ with ea_ en_ ec_
         subst ea_
         subst ec_
         clear en_;have p192 : 0 ≤ (x3_1 : Int):=of_decide_eq_true (by first|(with_reducible assumption)|assumption)
         have q192 : x3_1 < (l0.length : Int):=of_decide_eq_true (by first|(with_reducible assumption)|assumption)
         obtain ⟨ad192,A192_2,c192_2,e192,hx192_0,hx192_1,hx192_2,hx192_3,hx192_4,hx192_5,hx192_6,hl192_2,hi192_2⟩:=at_T94 HR0.out x3_1 p192 q192
         have hw192_6:=hx192_6;have hw192_5:=hx192_5;have hw192_4:=hx192_4;have hw192_3:=hx192_3;have hw192_2:=hx192_2;have hw192_1:=hx192_1;have hw192_0:=hx192_0;obtain rfl : ad187 = ad192:=(by injection e192)
         replace hx192_0:=(HB.out.cell (World.block_lt_of_cell? w _ hx192_0)).trans hx192_0
         replace hx192_1:=(HB.out.cell (World.block_lt_of_cell? w _ hx192_1)).trans hx192_1
         replace hx192_2:=(HB.out.cell (World.block_lt_of_cell? w _ hx192_2)).trans hx192_2
         replace hx192_3:=(HB.out.cell (World.block_lt_of_cell? w _ hx192_3)).trans hx192_3
         replace hx192_4:=(HB.out.cell (World.block_lt_of_cell? w _ hx192_4)).trans hx192_4
         replace hx192_5:=(HB.out.cell (World.block_lt_of_cell? w _ hx192_5)).trans hx192_5
         replace hx192_6:=(HB.out.cell (World.block_lt_of_cell? w _ hx192_6)).trans hx192_6
         have HR192_2:=Aside0.mk hi192_2;have HC192_2:=Aside0.mk hl192_2;clear hi192_2 hl192_2;replace p192:=eq_true p192
         replace q192:=eq_true q192
         refine start_ (n:=48) (S:=fun w' => w'.cell? (ad187.add ((x3_1).toNat * 7)) = some (.int .i64 ((rd_T94 l0 x3_1).f0)) ∧ w'.cell? ⟨(ad187.add ((x3_1).toNat * 7)).block,(ad187.add ((x3_1).toNat * 7)).off + 1,none⟩ = some (.int .i64 ((rd_T94 l0 x3_1).f1.f0)) ∧ w'.cell? ⟨(ad187.add ((x3_1).toNat * 7)).block,(ad187.add ((x3_1).toNat * 7)).off + 2,none⟩ = some (.slice A187_2 ((rd_T94 l0 x3_1).f1.f1).length c187_2) ∧ w'.cell? ⟨(ad187.add ((x3_1).toNat * 7)).block,(ad187.add ((x3_1).toNat * 7)).off + 3,none⟩ = some (.int .i64 ((rd_T94 l0 x3_1).f1.f2.f0)) ∧ w'.cell? ⟨(ad187.add ((x3_1).toNat * 7)).block,(ad187.add ((x3_1).toNat * 7)).off + 4,none⟩ = some (.int .i64 ((rd_T94 l0 x3_1).f1.f2.f1)) ∧ w'.cell? ⟨(ad187.add ((x3_1).toNat * 7)).block,(ad187.add ((x3_1).toNat * 7)).off + 5,none⟩ = some (.int .i64 ((rd_T94 l0 x3_1).f1.f2.f2)) ∧ w'.cell? ⟨(ad187.add ((x3_1).toNat * 7)).block,(ad187.add ((x3_1).toNat * 7)).off + 6,none⟩ = some (.int .i64 ((rd_T94 l0 x3_1).f2)) ∧ w'.cell? (ad187.add ((x3_1).toNat * 7)) = some (.int .i64 ((rd_T94 l0 x3_1).f0)) ∧ w'.cell? ⟨(ad187.add ((x3_1).toNat * 7)).block,(ad187.add ((x3_1).toNat * 7)).off + 1,none⟩ = some (.int .i64 ((rd_T94 l0 x3_1).f1.f0)) ∧ w'.cell? ⟨(ad187.add ((x3_1).toNat * 7)).block,(ad187.add ((x3_1).toNat * 7)).off + 2,none⟩ = some (.slice A189_2 ((rd_T94 l0 x3_1).f1.f1).length c189_2) ∧ w'.cell? ⟨(ad187.add ((x3_1).toNat * 7)).block,(ad187.add ((x3_1).toNat * 7)).off + 3,none⟩ = some (.int .i64 ((rd_T94 l0 x3_1).f1.f2.f0)) ∧ w'.cell? ⟨(ad187.add ((x3_1).toNat * 7)).block,(ad187.add ((x3_1).toNat * 7)).off + 4,none⟩ = some (.int .i64 ((rd_T94 l0 x3_1).f1.f2.f1)) ∧ w'.cell? ⟨(ad187.add ((x3_1).toNat * 7)).block,(ad187.add ((x3_1).toNat * 7)).off + 5,none⟩ = some (.int .i64 ((rd_T94 l0 x3_1).f1.f2.f2)) ∧ w'.cell? ⟨(ad187.add ((x3_1).toNat * 7)).block,(ad187.add ((x3_1).toNat * 7)).off + 6,none⟩ = some (.int .i64 ((rd_T94 l0 x3_1).f2)) ∧ w'.cell? (ad187.add ((x3_1).toNat * 7)) = some (.int .i64 ((rd_T94 l0 x3_1).f0)) ∧ w'.cell? ⟨(ad187.add ((x3_1).toNat * 7)).block,(ad187.add ((x3_1).toNat * 7)).off + 1,none⟩ = some (.int .i64 ((rd_T94 l0 x3_1).f1.f0)) ∧ w'.cell? ⟨(ad187.add ((x3_1).toNat * 7)).block,(ad187.add ((x3_1).toNat * 7)).off + 2,none⟩ = some (.slice A189_2 ((rd_T94 l0 x3_1).f1.f1).length c189_2) ∧ w'.cell? ⟨(ad187.add ((x3_1).toNat * 7)).block,(ad187.add ((x3_1).toNat * 7)).off + 3,none⟩ = some (.int .i64 ((rd_T94 l0 x3_1).f1.f2.f0)) ∧ w'.cell? ⟨(ad187.add ((x3_1).toNat * 7)).block,(ad187.add ((x3_1).toNat * 7)).off + 4,none⟩ = some (.int .i64 ((rd_T94 l0 x3_1).f1.f2.f1)) ∧ w'.cell? ⟨(ad187.add ((x3_1).toNat * 7)).block,(ad187.add ((x3_1).toNat * 7)).off + 5,none⟩ = some (.int .i64 ((rd_T94 l0 x3_1).f1.f2.f2)) ∧ w'.cell? ⟨(ad187.add ((x3_1).toNat * 7)).block,(ad187.add ((x3_1).toNat * 7)).off + 6,none⟩ = some (.int .i64 ((rd_T94 l0 x3_1).f2)) ∧ w'.cell? (ad187.add ((x3_1).toNat * 7)) = some (.int .i64 ((rd_T94 l0 x3_1).f0)) ∧ w'.cell? ⟨(ad187.add ((x3_1).toNat * 7)).block,(ad187.add ((x3_1).toNat * 7)).off + 1,none⟩ = some (.int .i64 ((rd_T94 l0 x3_1).f1.f0)) ∧ w'.cell? ⟨(ad187.add ((x3_1).toNat * 7)).block,(ad187.add ((x3_1).toNat * 7)).off + 2,none⟩ = some (.slice A192_2 ((rd_T94 l0 x3_1).f1.f1).length c192_2) ∧ w'.cell? ⟨(ad187.add ((x3_1).toNat * 7)).block,(ad187.add ((x3_1).toNat * 7)).off + 3,none⟩ = some (.int .i64 ((rd_T94 l0 x3_1).f1.f2.f0)) ∧ w'.cell? ⟨(ad187.add ((x3_1).toNat * 7)).block,(ad187.add ((x3_1).toNat * 7)).off + 4,none⟩ = some (.int .i64 ((rd_T94 l0 x3_1).f1.f2.f1)) ∧ w'.cell? ⟨(ad187.add ((x3_1).toNat * 7)).block,(ad187.add ((x3_1).toNat * 7)).off + 5,none⟩ = some (.int .i64 ((rd_T94 l0 x3_1).f1.f2.f2)) ∧ w'.cell? ⟨(ad187.add ((x3_1).toNat * 7)).block,(ad187.add ((x3_1).toNat * 7)).off + 6,none⟩ = some (.int .i64 ((rd_T94 l0 x3_1).f2))) (ds:=[]) q0_ (by kernel_rfl) rfl rfl ⟨((HB.out.cell (World.block_lt_of_cell? w _ hw187_0)).trans hw187_0),((HB.out.cell (World.block_lt_of_cell? w _ hw187_1)).trans hw187_1),((HB.out.cell (World.block_lt_of_cell? w _ hw187_2)).trans hw187_2),((HB.out.cell (World.block_lt_of_cell? w _ hw187_3)).trans hw187_3),((HB.out.cell (World.block_lt_of_cell? w _ hw187_4)).trans hw187_4),((HB.out.cell (World.block_lt_of_cell? w _ hw187_5)).trans hw187_5),((HB.out.cell (World.block_lt_of_cell? w _ hw187_6)).trans hw187_6),((HB.out.cell (World.block_lt_of_cell? w _ hw189_0)).trans hw189_0),((HB.out.cell (World.block_lt_of_cell? w _ hw189_1)).trans hw189_1),((HB.out.cell (World.block_lt_of_cell? w _ hw189_2)).trans hw189_2),((HB.out.cell (World.block_lt_of_cell? w _ hw189_3)).trans hw189_3),((HB.out.cell (World.block_lt_of_cell? w _ hw189_4)).trans hw189_4),((HB.out.cell (World.block_lt_of_cell? w _ hw189_5)).trans hw189_5),((HB.out.cell (World.block_lt_of_cell? w _ hw189_6)).trans hw189_6),((HB.out.cell (World.block_lt_of_cell? w _ hw190_0)).trans hw190_0),((HB.out.cell (World.block_lt_of_cell? w _ hw190_1)).trans hw190_1),((HB.out.cell (World.block_lt_of_cell? w _ hw190_2)).trans hw190_2),((HB.out.cell (World.block_lt_of_cell? w _ hw190_3)).trans hw190_3),((HB.out.cell (World.block_lt_of_cell? w _ hw190_4)).trans hw190_4),((HB.out.cell (World.block_lt_of_cell? w _ hw190_5)).trans hw190_5),((HB.out.cell (World.block_lt_of_cell? w _ hw190_6)).trans hw190_6),((HB.out.cell (World.block_lt_of_cell? w _ hw192_0)).trans hw192_0),((HB.out.cell (World.block_lt_of_cell? w _ hw192_1)).trans hw192_1),((HB.out.cell (World.block_lt_of_cell? w _ hw192_2)).trans hw192_2),((HB.out.cell (World.block_lt_of_cell? w _ hw192_3)).trans hw192_3),((HB.out.cell (World.block_lt_of_cell? w _ hw192_4)).trans hw192_4),((HB.out.cell (World.block_lt_of_cell? w _ hw192_5)).trans hw192_5),((HB.out.cell (World.block_lt_of_cell? w _ hw192_6)).trans hw192_6)⟩ (fun hHeld => ?_);refine with_tabW spec_IsStore.tab4 spec_IsStore.bits4 (fun HT_ HW_ => ?_)
         generalize wr.drew = w21 at HB HR187_2 HR189_2 HR190_2 HR192_2 hx187_0 hx187_1 hx187_2 hx187_3 hx187_4 hx187_5 hx187_6 hx189_0 hx189_1 hx189_2 hx189_3 hx189_4 hx189_5 hx189_6 hx190_0 hx190_1 hx190_2 hx190_3 hx190_4 hx190_5 hx190_6 hx192_0 hx192_1 hx192_2 hx192_3 hx192_4 hx192_5 hx192_6 hHeld ⊢
         refine pure_ (i:=0) (N:=some 10) (v:=?_) (a':=?_) q1_ rfl rfl (any_of HT_.out (by kernel_rfl)) (fun _ _ _ h => h) (Or.inl ⟨by rfl,?_⟩) ?_ ?_
         rotate_left
         ·intro w';go_simp;with_reducible rfl
         rotate_left
         ·simp only [Act.put,List.setIfInBounds_toArray,List.set_cons_zero,List.set_cons_succ,i64_w,i32_w]
          rfl
         refine pure_ (i:=1) (N:=some 11) (v:=?_) (a':=?_) q2_ rfl rfl (any_of HT_.out (by kernel_rfl)) (fun _ _ _ h => h) (Or.inl ⟨by rfl,?_⟩) ?_ ?_
         rotate_left
         ·intro w';go_simp;with_reducible rfl
         rotate_left
         ·simp only [Act.put,List.setIfInBounds_toArray,List.set_cons_zero,List.set_cons_succ,i64_w,i32_w]
          rfl
         refine pure_ (i:=2) (N:=some 12) (v:=?_) (a':=?_) q3_ rfl rfl (any_of HT_.out (by kernel_rfl)) (fun _ _ _ h => h) (Or.inl ⟨by rfl,?_⟩) ?_ ?_
         rotate_left
         ·intro w';go_simp;with_reducible rfl
         rotate_left
         ·simp only [Act.put,List.setIfInBounds_toArray,List.set_cons_zero,List.set_cons_succ,i64_w,i32_w]
          rfl
         refine pure_ (i:=3) (N:=some 13) (v:=?_) (a':=?_) q4_ rfl rfl (any_of HT_.out (by kernel_rfl)) (fun _ _ _ h => h) (Or.inl ⟨by rfl,?_⟩) ?_ ?_
         rotate_left
         ·intro w';go_simp;with_reducible rfl
         rotate_left
         ·simp only [Act.put,List.setIfInBounds_toArray,List.set_cons_zero,List.set_cons_succ,i64_w,i32_w]
          rfl
         refine take_ (i:=4) (N:=some 14) (v:=?_) (a':=?_) q5_ rfl rfl (take_ofW HT_.out HW_.out (by kernel_rfl)) (fun _ _ _ h => h) (Or.inl ⟨by rfl,?_⟩) hHeld ?_ ?_
         rotate_left
         ·rintro w' ⟨s0,s1,s2,s3,s4,s5,s6,s7,s8,s9,s10,s11,s12,s13,s14,s15,s16,s17,s18,s19,s20,s21,s22,s23,s24,s25,s26,s27⟩
          go_simp;with_reducible rfl
         rotate_left
         ·simp only [Act.put,List.setIfInBounds_toArray,List.set_cons_zero,List.set_cons_succ,i64_w,i32_w]
          rfl
         refine one_ (i:=5) (N:=some 15) q6_ rfl rfl (one_of HT_.out (by kernel_rfl)) (by decide) (fun K hK => ?_)
         refine goes_ Try.func69 (by kernel_rfl) rfl #[.agg #[.int .i64 ((rd_T94 l0 x3_1).f1.f0),.slice A187_2 ((rd_T94 l0 x3_1).f1.f1).length c187_2,.int .i64 ((rd_T94 l0 x3_1).f1.f2.f0),.int .i64 ((rd_T94 l0 x3_1).f1.f2.f1),.int .i64 ((rd_T94 l0 x3_1).f1.f2.f2)]] (by rfl) rfl rfl (by (try simp only [List.map_toArray,List.map_cons,List.map_nil]);first|done|rfl|(simp only [List.length_drop,List.length_take];rfl)) ?_
         with_reducible refine (spec_IsResource.calls k1 ((rd_T94 l0 x3_1).f1.f0) _ _ ((rd_T94 l0 x3_1).f1.f1) ((rd_T94 l0 x3_1).f1.f2.f0) ((rd_T94 l0 x3_1).f1.f2.f1) ((rd_T94 l0 x3_1).f1.f2.f2) true _ ?side1 ?side2 A4.out).mono ?_
         (case side1 => repeat (first|exact (Kd.C_below HR187_2.out HB.out)|(with_reducible refine Kd.C_alloc ?_ _)|(with_reducible refine Kd.C_drewN ?_ _)|(with_reducible refine Kd.C_drew ?_)))
         (case side2 => exact HC187_2.out)
         rintro e w22 ⟨rfl,hb⟩
         refine ⟨_,rfl,?_⟩
         have n0_:=Aside0.mk (below_step (by repeat (first|(with_reducible first|exact HB.out|apply below_alloc|apply pw_below_drewN|apply below_drew1)|exact HB.out)) hb)
         clear HB;have HB:=n0_;clear n0_;(try clear hb);refine hK.out _ _ ⟨((HB.out.cell (World.block_lt_of_cell? w _ hw187_0)).trans hw187_0),((HB.out.cell (World.block_lt_of_cell? w _ hw187_1)).trans hw187_1),((HB.out.cell (World.block_lt_of_cell? w _ hw187_2)).trans hw187_2),((HB.out.cell (World.block_lt_of_cell? w _ hw187_3)).trans hw187_3),((HB.out.cell (World.block_lt_of_cell? w _ hw187_4)).trans hw187_4),((HB.out.cell (World.block_lt_of_cell? w _ hw187_5)).trans hw187_5),((HB.out.cell (World.block_lt_of_cell? w _ hw187_6)).trans hw187_6),((HB.out.cell (World.block_lt_of_cell? w _ hw189_0)).trans hw189_0),((HB.out.cell (World.block_lt_of_cell? w _ hw189_1)).trans hw189_1),((HB.out.cell (World.block_lt_of_cell? w _ hw189_2)).trans hw189_2),((HB.out.cell (World.block_lt_of_cell? w _ hw189_3)).trans hw189_3),((HB.out.cell (World.block_lt_of_cell? w _ hw189_4)).trans hw189_4),((HB.out.cell (World.block_lt_of_cell? w _ hw189_5)).trans hw189_5),((HB.out.cell (World.block_lt_of_cell? w _ hw189_6)).trans hw189_6),((HB.out.cell (World.block_lt_of_cell? w _ hw190_0)).trans hw190_0),((HB.out.cell (World.block_lt_of_cell? w _ hw190_1)).trans hw190_1),((HB.out.cell (World.block_lt_of_cell? w _ hw190_2)).trans hw190_2),((HB.out.cell (World.block_lt_of_cell? w _ hw190_3)).trans hw190_3),((HB.out.cell (World.block_lt_of_cell? w _ hw190_4)).trans hw190_4),((HB.out.cell (World.block_lt_of_cell? w _ hw190_5)).trans hw190_5),((HB.out.cell (World.block_lt_of_cell? w _ hw190_6)).trans hw190_6),((HB.out.cell (World.block_lt_of_cell? w _ hw192_0)).trans hw192_0),((HB.out.cell (World.block_lt_of_cell? w _ hw192_1)).trans hw192_1),((HB.out.cell (World.block_lt_of_cell? w _ hw192_2)).trans hw192_2),((HB.out.cell (World.block_lt_of_cell? w _ hw192_3)).trans hw192_3),((HB.out.cell (World.block_lt_of_cell? w _ hw192_4)).trans hw192_4),((HB.out.cell (World.block_lt_of_cell? w _ hw192_5)).trans hw192_5),((HB.out.cell (World.block_lt_of_cell? w _ hw192_6)).trans hw192_6)⟩ (fun hHeld => ?_)
         clear hK K;refine norm_ (a':=?_) ?_ ?_
         rotate_left
         ·show Act.put _ (some 15) _ = _
          simp only [Act.put,List.setIfInBounds_toArray,List.set_cons_zero,List.set_cons_succ,i64_w,i32_w]
          rfl
         refine pure_ (i:=6) (N:=some 16) (v:=?_) (a':=?_) q7_ rfl rfl (any_of HT_.out (by kernel_rfl)) (fun _ _ _ h => h) (Or.inl ⟨by rfl,?_⟩) ?_ ?_
         rotate_left
         ·intro w';go_simp;with_reducible rfl
         rotate_left
         ·simp only [Act.put,List.setIfInBounds_toArray,List.set_cons_zero,List.set_cons_succ,i64_w,i32_w]
          rfl
         refine pure_ (i:=7) (N:=some 17) (v:=?_) (a':=?_) q8_ rfl rfl (any_of HT_.out (by kernel_rfl)) (fun _ _ _ h => h) (Or.inl ⟨by rfl,?_⟩) ?_ ?_
         rotate_left
         ·intro w';go_simp;with_reducible rfl
         rotate_left
         ·simp only [Act.put,List.setIfInBounds_toArray,List.set_cons_zero,List.set_cons_succ,i64_w,i32_w]
          rfl
         refine pure_ (i:=8) (N:=some 18) (v:=?_) (a':=?_) q9_ rfl rfl (any_of HT_.out (by kernel_rfl)) (fun _ _ _ h => h) (Or.inl ⟨by rfl,?_⟩) ?_ ?_
         rotate_left
         ·intro w';go_simp;with_reducible rfl
         rotate_left
         ·simp only [Act.put,List.setIfInBounds_toArray,List.set_cons_zero,List.set_cons_succ,i64_w,i32_w]
          rfl
         refine pure_ (i:=9) (N:=some 19) (v:=?_) (a':=?_) q10_ rfl rfl (any_of HT_.out (by kernel_rfl)) (fun _ _ _ h => h) (Or.inl ⟨by rfl,?_⟩) ?_ ?_
         rotate_left
         ·intro w';go_simp;with_reducible rfl
         rotate_left
         ·simp only [Act.put,List.setIfInBounds_toArray,List.set_cons_zero,List.set_cons_succ,i64_w,i32_w]
          rfl
         refine pure_ (i:=10) (N:=some 20) (v:=?_) (a':=?_) q11_ rfl rfl (any_of HT_.out (by kernel_rfl)) (fun _ _ _ h => h) (Or.inl ⟨by rfl,?_⟩) ?_ ?_
         rotate_left
         ·intro w';go_simp;with_reducible rfl
         rotate_left
         ·simp only [Act.put,List.setIfInBounds_toArray,List.set_cons_zero,List.set_cons_succ,i64_w,i32_w]
          rfl
         refine pure_ (i:=11) (N:=some 21) (v:=?_) (a':=?_) q12_ rfl rfl (any_of HT_.out (by kernel_rfl)) (fun _ _ _ h => h) (Or.inl ⟨by rfl,?_⟩) ?_ ?_
         rotate_left
         ·intro w';go_simp;with_reducible rfl
         rotate_left
         ·simp only [Act.put,List.setIfInBounds_toArray,List.set_cons_zero,List.set_cons_succ,i64_w,i32_w]
          rfl
         refine pure_ (i:=13) (N:=some 23) (v:=?_) (a':=?_) q13_ rfl rfl (any_of HT_.out (by kernel_rfl)) (fun _ _ _ h => h) (Or.inl ⟨by rfl,?_⟩) ?_ ?_
         rotate_left
         ·intro w';go_simp;with_reducible rfl
         rotate_left
         ·simp only [Act.put,List.setIfInBounds_toArray,List.set_cons_zero,List.set_cons_succ,i64_w,i32_w]
          rfl
         refine pure_ (i:=14) (N:=some 24) (v:=?_) (a':=?_) q14_ rfl rfl (any_of HT_.out (by kernel_rfl)) (fun _ _ _ h => h) (Or.inl ⟨by rfl,?_⟩) ?_ ?_
         rotate_left
         ·intro w';go_simp;with_reducible rfl
         rotate_left
         ·simp only [Act.put,List.setIfInBounds_toArray,List.set_cons_zero,List.set_cons_succ,i64_w,i32_w]
          rfl
         refine pure_ (i:=15) (N:=some 25) (v:=?_) (a':=?_) q15_ rfl rfl (any_of HT_.out (by kernel_rfl)) (fun _ _ _ h => h) (Or.inl ⟨by rfl,?_⟩) ?_ ?_
         rotate_left
         ·intro w';go_simp;with_reducible rfl
         rotate_left
         ·simp only [Act.put,List.setIfInBounds_toArray,List.set_cons_zero,List.set_cons_succ,i64_w,i32_w]
          rfl
         refine pure_ (i:=16) (N:=some 26) (v:=?_) (a':=?_) q16_ rfl rfl (any_of HT_.out (by kernel_rfl)) (fun _ _ _ h => h) (Or.inl ⟨by rfl,?_⟩) ?_ ?_
         rotate_left
         ·intro w';go_simp;with_reducible rfl
         rotate_left
         ·simp only [Act.put,List.setIfInBounds_toArray,List.set_cons_zero,List.set_cons_succ,i64_w,i32_w]
          rfl
         refine take_ (i:=12) (N:=some 22) (v:=?_) (a':=?_) q17_ rfl rfl (take_ofW HT_.out HW_.out (by kernel_rfl)) (fun _ _ _ h => h) (Or.inl ⟨by rfl,?_⟩) hHeld ?_ ?_
         rotate_left
         ·rintro w' ⟨s0,s1,s2,s3,s4,s5,s6,s7,s8,s9,s10,s11,s12,s13,s14,s15,s16,s17,s18,s19,s20,s21,s22,s23,s24,s25,s26,s27⟩
          go_simp;with_reducible rfl
         rotate_left
         ·simp only [Act.put,List.setIfInBounds_toArray,List.set_cons_zero,List.set_cons_succ,i64_w,i32_w]
          rfl
         refine take_ (i:=17) (N:=some 27) (v:=?_) (a':=?_) q18_ rfl rfl (take_ofW HT_.out HW_.out (by kernel_rfl)) (fun _ _ _ h => h) (Or.inl ⟨by rfl,?_⟩) hHeld ?_ ?_
         rotate_left
         ·rintro w' ⟨s0,s1,s2,s3,s4,s5,s6,s7,s8,s9,s10,s11,s12,s13,s14,s15,s16,s17,s18,s19,s20,s21,s22,s23,s24,s25,s26,s27⟩
          go_simp;with_reducible rfl
         rotate_left
         ·simp only [Act.put,List.setIfInBounds_toArray,List.set_cons_zero,List.set_cons_succ,i64_w,i32_w]
          rfl
         refine one_ (i:=18) (N:=some 28) q19_ rfl rfl (one_of HT_.out (by kernel_rfl)) (by decide) (fun K hK => ?_)
         refine goes_ Try.func70 (by kernel_rfl) rfl #[.agg #[.int .i64 ((rd_T94 l0 x3_1).f1.f0),.slice A187_2 ((rd_T94 l0 x3_1).f1.f1).length c187_2,.int .i64 ((rd_T94 l0 x3_1).f1.f2.f0),.int .i64 ((rd_T94 l0 x3_1).f1.f2.f1),.int .i64 ((rd_T94 l0 x3_1).f1.f2.f2)]] (by rfl) rfl rfl (by (try simp only [List.map_toArray,List.map_cons,List.map_nil]);first|done|rfl|(simp only [List.length_drop,List.length_take];rfl)) ?_
         with_reducible refine (spec_DigestOf.calls k1 ((rd_T94 l0 x3_1).f1.f0) _ _ ((rd_T94 l0 x3_1).f1.f1) ((rd_T94 l0 x3_1).f1.f2.f0) ((rd_T94 l0 x3_1).f1.f2.f1) ((rd_T94 l0 x3_1).f1.f2.f2) t191 _ ?side1 ?side2 A6.out).mono ?_
         (case side1 => repeat (first|exact (Kd.C_below HR187_2.out HB.out)|(with_reducible refine Kd.C_alloc ?_ _)|(with_reducible refine Kd.C_drewN ?_ _)|(with_reducible refine Kd.C_drew ?_)))
         (case side2 => exact HC187_2.out)
         rintro e w23 ⟨rfl,hb⟩
         refine ⟨_,rfl,?_⟩
         have n0_:=Aside0.mk (below_step (by repeat (first|(with_reducible first|exact HB.out|apply below_alloc|apply pw_below_drewN|apply below_drew1)|exact HB.out)) hb)
         clear HB;have HB:=n0_;clear n0_;(try clear hb);refine hK.out _ _ ⟨((HB.out.cell (World.block_lt_of_cell? w _ hw187_0)).trans hw187_0),((HB.out.cell (World.block_lt_of_cell? w _ hw187_1)).trans hw187_1),((HB.out.cell (World.block_lt_of_cell? w _ hw187_2)).trans hw187_2),((HB.out.cell (World.block_lt_of_cell? w _ hw187_3)).trans hw187_3),((HB.out.cell (World.block_lt_of_cell? w _ hw187_4)).trans hw187_4),((HB.out.cell (World.block_lt_of_cell? w _ hw187_5)).trans hw187_5),((HB.out.cell (World.block_lt_of_cell? w _ hw187_6)).trans hw187_6),((HB.out.cell (World.block_lt_of_cell? w _ hw189_0)).trans hw189_0),((HB.out.cell (World.block_lt_of_cell? w _ hw189_1)).trans hw189_1),((HB.out.cell (World.block_lt_of_cell? w _ hw189_2)).trans hw189_2),((HB.out.cell (World.block_lt_of_cell? w _ hw189_3)).trans hw189_3),((HB.out.cell (World.block_lt_of_cell? w _ hw189_4)).trans hw189_4),((HB.out.cell (World.block_lt_of_cell? w _ hw189_5)).trans hw189_5),((HB.out.cell (World.block_lt_of_cell? w _ hw189_6)).trans hw189_6),((HB.out.cell (World.block_lt_of_cell? w _ hw190_0)).trans hw190_0),((HB.out.cell (World.block_lt_of_cell? w _ hw190_1)).trans hw190_1),((HB.out.cell (World.block_lt_of_cell? w _ hw190_2)).trans hw190_2),((HB.out.cell (World.block_lt_of_cell? w _ hw190_3)).trans hw190_3),((HB.out.cell (World.block_lt_of_cell? w _ hw190_4)).trans hw190_4),((HB.out.cell (World.block_lt_of_cell? w _ hw190_5)).trans hw190_5),((HB.out.cell (World.block_lt_of_cell? w _ hw190_6)).trans hw190_6),((HB.out.cell (World.block_lt_of_cell? w _ hw192_0)).trans hw192_0),((HB.out.cell (World.block_lt_of_cell? w _ hw192_1)).trans hw192_1),((HB.out.cell (World.block_lt_of_cell? w _ hw192_2)).trans hw192_2),((HB.out.cell (World.block_lt_of_cell? w _ hw192_3)).trans hw192_3),((HB.out.cell (World.block_lt_of_cell? w _ hw192_4)).trans hw192_4),((HB.out.cell (World.block_lt_of_cell? w _ hw192_5)).trans hw192_5),((HB.out.cell (World.block_lt_of_cell? w _ hw192_6)).trans hw192_6)⟩ (fun hHeld => ?_)
         clear hK K;refine norm_ (a':=?_) ?_ ?_
         rotate_left
         ·show Act.put _ (some 28) _ = _
          simp only [Act.put,List.setIfInBounds_toArray,List.set_cons_zero,List.set_cons_succ,i64_w,i32_w]
          rfl
         refine pure_ (i:=19) (N:=some 29) (v:=?_) (a':=?_) q20_ rfl rfl (any_of HT_.out (by kernel_rfl)) (fun _ _ _ h => h) (Or.inl ⟨by rfl,?_⟩) ?_ ?_
         rotate_left
         ·intro w';go_simp;with_reducible rfl
         rotate_left
         ·simp only [Act.put,List.setIfInBounds_toArray,List.set_cons_zero,List.set_cons_succ,i64_w,i32_w]
          rfl
         refine pure_ (i:=20) (N:=some 30) (v:=?_) (a':=?_) q21_ rfl rfl (any_of HT_.out (by kernel_rfl)) (fun _ _ _ h => h) (Or.inl ⟨by rfl,?_⟩) ?_ ?_
         rotate_left
         ·intro w';go_simp;with_reducible rfl
         rotate_left
         ·simp only [Act.put,List.setIfInBounds_toArray,List.set_cons_zero,List.set_cons_succ,i64_w,i32_w]
          rfl
         refine pure_ (i:=21) (N:=some 31) (v:=?_) (a':=?_) q22_ rfl rfl (any_of HT_.out (by kernel_rfl)) (fun _ _ _ h => h) (Or.inl ⟨by rfl,?_⟩) ?_ ?_
         rotate_left
         ·intro w';go_simp;with_reducible rfl
         rotate_left
         ·simp only [Act.put,List.setIfInBounds_toArray,List.set_cons_zero,List.set_cons_succ,i64_w,i32_w]
          rfl
         refine pure_ (i:=22) (N:=some 32) (v:=?_) (a':=?_) q23_ rfl rfl (any_of HT_.out (by kernel_rfl)) (fun _ _ _ h => h) (Or.inl ⟨by rfl,?_⟩) ?_ ?_
         rotate_left
         ·intro w';go_simp;with_reducible rfl
         rotate_left
         ·simp only [Act.put,List.setIfInBounds_toArray,List.set_cons_zero,List.set_cons_succ,i64_w,i32_w]
          rfl
         refine pure_ (i:=23) (N:=some 33) (v:=?_) (a':=?_) q24_ rfl rfl (any_of HT_.out (by kernel_rfl)) (fun _ _ _ h => h) (Or.inl ⟨by rfl,?_⟩) ?_ ?_
         rotate_left
         ·intro w';go_simp;with_reducible rfl
         rotate_left
         ·simp only [Act.put,List.setIfInBounds_toArray,List.set_cons_zero,List.set_cons_succ,i64_w,i32_w]
          rfl
         refine pure_ (i:=24) (N:=some 34) (v:=?_) (a':=?_) q25_ rfl rfl (any_of HT_.out (by kernel_rfl)) (fun _ _ _ h => h) (Or.inl ⟨by rfl,?_⟩) ?_ ?_
         rotate_left
         ·intro w';go_simp;with_reducible rfl
         rotate_left
         ·simp only [Act.put,List.setIfInBounds_toArray,List.set_cons_zero,List.set_cons_succ,i64_w,i32_w]
          rfl
         refine pure_ (i:=25) (N:=some 35) (v:=?_) (a':=?_) q26_ rfl rfl (any_of HT_.out (by kernel_rfl)) (fun _ _ _ h => h) (Or.inl ⟨by rfl,?_⟩) ?_ ?_
         rotate_left
         ·intro w';go_simp;with_reducible rfl
         rotate_left
         ·simp only [Act.put,List.setIfInBounds_toArray,List.set_cons_zero,List.set_cons_succ,i64_w,i32_w]
          rfl
         refine take_ (i:=26) (N:=some 36) (v:=?_) (a':=?_) q27_ rfl rfl (take_ofW HT_.out HW_.out (by kernel_rfl)) (fun _ _ _ h => h) (Or.inl ⟨by rfl,?_⟩) hHeld ?_ ?_
         rotate_left
         ·rintro w' ⟨s0,s1,s2,s3,s4,s5,s6,s7,s8,s9,s10,s11,s12,s13,s14,s15,s16,s17,s18,s19,s20,s21,s22,s23,s24,s25,s26,s27⟩
          go_simp;with_reducible rfl
         rotate_left
         ·simp only [Act.put,List.setIfInBounds_toArray,List.set_cons_zero,List.set_cons_succ,i64_w,i32_w]
          rfl
         refine one_ (i:=27) (N:=some 37) q28_ rfl rfl (one_of HT_.out (by kernel_rfl)) (by decide) (fun K hK => ?_)
         refine goes_ Try.func60 (by kernel_rfl) rfl #[.int .i64 ((rd_T94 l0 x3_1).f2),.int .i64 1,.int .i64 1000] (by rfl) rfl rfl (by (try simp only [List.map_toArray,List.map_cons,List.map_nil]);first|done|rfl|(simp only [List.length_drop,List.length_take];rfl)) ?_
         with_reducible refine (spec_l1In.calls ((rd_T94 l0 x3_1).f2) 1 1000 true _ A8.out).mono ?_
         rintro e w' ⟨rfl,⟨nd,rfl⟩⟩
         refine ⟨_,rfl,?_⟩
         refine hK.out _ _ ⟨((HB.out.cell (World.block_lt_of_cell? w _ hw187_0)).trans hw187_0),((HB.out.cell (World.block_lt_of_cell? w _ hw187_1)).trans hw187_1),((HB.out.cell (World.block_lt_of_cell? w _ hw187_2)).trans hw187_2),((HB.out.cell (World.block_lt_of_cell? w _ hw187_3)).trans hw187_3),((HB.out.cell (World.block_lt_of_cell? w _ hw187_4)).trans hw187_4),((HB.out.cell (World.block_lt_of_cell? w _ hw187_5)).trans hw187_5),((HB.out.cell (World.block_lt_of_cell? w _ hw187_6)).trans hw187_6),((HB.out.cell (World.block_lt_of_cell? w _ hw189_0)).trans hw189_0),((HB.out.cell (World.block_lt_of_cell? w _ hw189_1)).trans hw189_1),((HB.out.cell (World.block_lt_of_cell? w _ hw189_2)).trans hw189_2),((HB.out.cell (World.block_lt_of_cell? w _ hw189_3)).trans hw189_3),((HB.out.cell (World.block_lt_of_cell? w _ hw189_4)).trans hw189_4),((HB.out.cell (World.block_lt_of_cell? w _ hw189_5)).trans hw189_5),((HB.out.cell (World.block_lt_of_cell? w _ hw189_6)).trans hw189_6),((HB.out.cell (World.block_lt_of_cell? w _ hw190_0)).trans hw190_0),((HB.out.cell (World.block_lt_of_cell? w _ hw190_1)).trans hw190_1),((HB.out.cell (World.block_lt_of_cell? w _ hw190_2)).trans hw190_2),((HB.out.cell (World.block_lt_of_cell? w _ hw190_3)).trans hw190_3),((HB.out.cell (World.block_lt_of_cell? w _ hw190_4)).trans hw190_4),((HB.out.cell (World.block_lt_of_cell? w _ hw190_5)).trans hw190_5),((HB.out.cell (World.block_lt_of_cell? w _ hw190_6)).trans hw190_6),((HB.out.cell (World.block_lt_of_cell? w _ hw192_0)).trans hw192_0),((HB.out.cell (World.block_lt_of_cell? w _ hw192_1)).trans hw192_1),((HB.out.cell (World.block_lt_of_cell? w _ hw192_2)).trans hw192_2),((HB.out.cell (World.block_lt_of_cell? w _ hw192_3)).trans hw192_3),((HB.out.cell (World.block_lt_of_cell? w _ hw192_4)).trans hw192_4),((HB.out.cell (World.block_lt_of_cell? w _ hw192_5)).trans hw192_5),((HB.out.cell (World.block_lt_of_cell? w _ hw192_6)).trans hw192_6)⟩ (fun hHeld => ?_)
         clear hK K;refine norm_ (a':=?_) ?_ ?_
         rotate_left
         ·show Act.put _ (some 37) _ = _
          simp only [Act.put,List.setIfInBounds_toArray,List.set_cons_zero,List.set_cons_succ,i64_w,i32_w]
          rfl
         refine pure_ (i:=28) (N:=some 38) (v:=?_) (a':=?_) q29_ rfl rfl (any_of HT_.out (by kernel_rfl)) (fun _ _ _ h => h) (Or.inl ⟨by rfl,?_⟩) ?_ ?_
         rotate_left
         ·intro w';go_simp;with_reducible rfl
         rotate_left
         ·simp only [Act.put,List.setIfInBounds_toArray,List.set_cons_zero,List.set_cons_succ,i64_w,i32_w]
          rfl
         refine pure_ (i:=29) (N:=some 39) (v:=?_) (a':=?_) q30_ rfl rfl (any_of HT_.out (by kernel_rfl)) (fun _ _ _ h => h) (Or.inl ⟨by rfl,?_⟩) ?_ ?_
         rotate_left
         ·intro w';go_simp;with_reducible rfl
         rotate_left
         ·simp only [Act.put,List.setIfInBounds_toArray,List.set_cons_zero,List.set_cons_succ,i64_w,i32_w]
          rfl
         refine pure_ (i:=30) (N:=some 40) (v:=?_) (a':=?_) q31_ rfl rfl (any_of HT_.out (by kernel_rfl)) (fun _ _ _ h => h) (Or.inl ⟨by rfl,?_⟩) ?_ ?_
         rotate_left
         ·intro w';go_simp;with_reducible rfl
         rotate_left
         ·simp only [Act.put,List.setIfInBounds_toArray,List.set_cons_zero,List.set_cons_succ,i64_w,i32_w]
          rfl
         refine pure_ (i:=31) (N:=some 41) (v:=?_) (a':=?_) q32_ rfl rfl (any_of HT_.out (by kernel_rfl)) (fun _ _ _ h => h) (Or.inl ⟨by rfl,?_⟩) ?_ ?_
         rotate_left
         ·intro w';go_simp;with_reducible rfl
         rotate_left
         ·simp only [Act.put,List.setIfInBounds_toArray,List.set_cons_zero,List.set_cons_succ,i64_w,i32_w]
          rfl
         refine pure_ (i:=32) (N:=some 42) (v:=?_) (a':=?_) q33_ rfl rfl (any_of HT_.out (by kernel_rfl)) (fun _ _ _ h => h) (Or.inl ⟨by rfl,?_⟩) ?_ ?_
         rotate_left
         ·intro w';go_simp;with_reducible rfl
         rotate_left
         ·simp only [Act.put,List.setIfInBounds_toArray,List.set_cons_zero,List.set_cons_succ,i64_w,i32_w]
          rfl
         refine pure_ (i:=33) (N:=some 43) (v:=?_) (a':=?_) q34_ rfl rfl (any_of HT_.out (by kernel_rfl)) (fun _ _ _ h => h) (Or.inl ⟨by rfl,?_⟩) ?_ ?_
         rotate_left
         ·intro w';go_simp;with_reducible rfl
         rotate_left
         ·simp only [Act.put,List.setIfInBounds_toArray,List.set_cons_zero,List.set_cons_succ,i64_w,i32_w]
          rfl
         refine pure_ (i:=34) (N:=some 44) (v:=undef) (a':=?_) q35_ rfl rfl (any_of HT_.out (by kernel_rfl)) (fun _ _ _ h => h) (Or.inr ⟨by rfl,rfl⟩) ?_ ?_
         rotate_left
         ·simp only [Act.put,List.setIfInBounds_toArray,List.set_cons_zero,List.set_cons_succ,i64_w,i32_w]
          rfl
         refine pure_ (i:=35) (N:=some 45) (v:=undef) (a':=?_) q36_ rfl rfl (any_of HT_.out (by kernel_rfl)) (fun _ _ _ h => h) (Or.inr ⟨by rfl,rfl⟩) ?_ ?_
         rotate_left
         ·simp only [Act.put,List.setIfInBounds_toArray,List.set_cons_zero,List.set_cons_succ,i64_w,i32_w]
          rfl
         refine pure_ (i:=36) (N:=some 46) (v:=undef) (a':=?_) q37_ rfl rfl (any_of HT_.out (by kernel_rfl)) (fun _ _ _ h => h) (Or.inr ⟨by rfl,rfl⟩) ?_ ?_
         rotate_left
         ·simp only [Act.put,List.setIfInBounds_toArray,List.set_cons_zero,List.set_cons_succ,i64_w,i32_w]
          rfl
         refine pure_ (i:=37) (N:=some 47) (v:=undef) (a':=?_) q38_ rfl rfl (any_of HT_.out (by kernel_rfl)) (fun _ _ _ h => h) (Or.inr ⟨by rfl,rfl⟩) ?_ ?_
         rotate_left
         ·simp only [Act.put,List.setIfInBounds_toArray,List.set_cons_zero,List.set_cons_succ,i64_w,i32_w]
          rfl
         refine pure_ (i:=38) (N:=some 48) (v:=undef) (a':=?_) q39_ rfl rfl (any_of HT_.out (by kernel_rfl)) (fun _ _ _ h => h) (Or.inr ⟨by rfl,rfl⟩) ?_ ?_
         rotate_left
         ·simp only [Act.put,List.setIfInBounds_toArray,List.set_cons_zero,List.set_cons_succ,i64_w,i32_w]
          rfl
         refine pure_ (i:=39) (N:=some 49) (v:=undef) (a':=?_) q49_ rfl rfl (any_of HT_.out (by kernel_rfl)) (fun _ _ _ h => h) (Or.inr ⟨by rfl,rfl⟩) ?_ ?_
         rotate_left
         ·simp only [Act.put,List.setIfInBounds_toArray,List.set_cons_zero,List.set_cons_succ,i64_w,i32_w]
          rfl
         refine pure_ (i:=40) (N:=some 50) (v:=undef) (a':=?_) q50_ rfl rfl (any_of HT_.out (by kernel_rfl)) (fun _ _ _ h => h) (Or.inr ⟨by rfl,rfl⟩) ?_ ?_
         rotate_left
         ·simp only [Act.put,List.setIfInBounds_toArray,List.set_cons_zero,List.set_cons_succ,i64_w,i32_w]
          rfl
         refine pure_ (i:=41) (N:=some 51) (v:=undef) (a':=?_) q51_ rfl rfl (any_of HT_.out (by kernel_rfl)) (fun _ _ _ h => h) (Or.inr ⟨by rfl,rfl⟩) ?_ ?_
         rotate_left
         ·simp only [Act.put,List.setIfInBounds_toArray,List.set_cons_zero,List.set_cons_succ,i64_w,i32_w]
          rfl
         refine pure_ (i:=42) (N:=some 52) (v:=undef) (a':=?_) q52_ rfl rfl (any_of HT_.out (by kernel_rfl)) (fun _ _ _ h => h) (Or.inr ⟨by rfl,rfl⟩) ?_ ?_
         rotate_left
         ·simp only [Act.put,List.setIfInBounds_toArray,List.set_cons_zero,List.set_cons_succ,i64_w,i32_w]
          rfl
         refine pure_ (i:=43) (N:=some 53) (v:=undef) (a':=?_) q44_ rfl rfl (any_of HT_.out (by kernel_rfl)) (fun _ _ _ h => h) (Or.inr ⟨by rfl,rfl⟩) ?_ ?_
         rotate_left
         ·simp only [Act.put,List.setIfInBounds_toArray,List.set_cons_zero,List.set_cons_succ,i64_w,i32_w]
          rfl
         refine pure_ (i:=44) (N:=some 54) (v:=undef) (a':=?_) q45_ rfl rfl (any_of HT_.out (by kernel_rfl)) (fun _ _ _ h => h) (Or.inr ⟨by rfl,rfl⟩) ?_ ?_
         rotate_left
         ·simp only [Act.put,List.setIfInBounds_toArray,List.set_cons_zero,List.set_cons_succ,i64_w,i32_w]
          rfl
         refine pure_ (i:=45) (N:=some 55) (v:=undef) (a':=?_) q46_ rfl rfl (any_of HT_.out (by kernel_rfl)) (fun _ _ _ h => h) (Or.inr ⟨by rfl,rfl⟩) ?_ ?_
         rotate_left
         ·simp only [Act.put,List.setIfInBounds_toArray,List.set_cons_zero,List.set_cons_succ,i64_w,i32_w]
          rfl
         refine pure_ (i:=46) (N:=some 56) (v:=?_) (a':=?_) q47_ rfl rfl (any_of HT_.out (by kernel_rfl)) (fun _ _ _ h => h) (Or.inl ⟨by rfl,?_⟩) ?_ ?_
         rotate_left
         ·intro w';go_simp;with_reducible rfl
         rotate_left
         ·simp only [Act.put,List.setIfInBounds_toArray,List.set_cons_zero,List.set_cons_succ,i64_w,i32_w]
          rfl
         refine pure_ (i:=47) (N:=some 57) (v:=?_) (a':=?_) q48_ rfl rfl (any_of HT_.out (by kernel_rfl)) (fun _ _ _ h => h) (Or.inl ⟨by rfl,?_⟩) ?_ ?_
         rotate_left
         ·intro w';go_simp;with_reducible rfl
         rotate_left
         ·simp only [Act.put,List.setIfInBounds_toArray,List.set_cons_zero,List.set_cons_succ,i64_w,i32_w]
          rfl
         refine done_ (done_of HT_.out (by kernel_rfl)) ?_
         try go_wp2
         go_roundg k1
         case measure => have:=HK1.out;omega
         case rel => exact ⟨(wrap64 (x3_1 + 1)),(by first|rfl|(simp;done)|(simp [*];done)),H',⟨by have:=HK1.out;omega⟩,⟨by repeat (first|(with_reducible first|exact HB.out|apply below_alloc|apply pw_below_drewN|apply below_drew1)|exact HB.out)⟩⟩
       ·replace c9:=Bool.eq_false_iff.mpr c9
        subst c9
        have H1 : (some false) = some r:=by rw [if_neg (show ¬ (false = true) by decide)] at H;exact H
        clear H;have H:=H1;clear H1;obtain rfl:=Option.some.inj H
        try go_wp2
        have n0_:=Aside0.mk (below_drew1 HB.out)
        clear HB;have HB:=n0_;clear n0_;have p187 : 0 ≤ (x3_1 : Int):=of_decide_eq_true (by first|(with_reducible assumption)|assumption)
        have q187 : x3_1 < (l0.length : Int):=of_decide_eq_true (by first|(with_reducible assumption)|assumption)
        obtain ⟨ad187,A187_2,c187_2,e187,hx187_0,hx187_1,hx187_2,hx187_3,hx187_4,hx187_5,hx187_6,hl187_2,hi187_2⟩:=at_T94 HR0.out x3_1 p187 q187
        have hw187_6:=hx187_6;have hw187_5:=hx187_5;have hw187_4:=hx187_4;have hw187_3:=hx187_3;have hw187_2:=hx187_2;have hw187_1:=hx187_1;have hw187_0:=hx187_0;cases e187
        replace hx187_0:=(HB.out.cell (World.block_lt_of_cell? w _ hx187_0)).trans hx187_0
        replace hx187_1:=(HB.out.cell (World.block_lt_of_cell? w _ hx187_1)).trans hx187_1
        replace hx187_2:=(HB.out.cell (World.block_lt_of_cell? w _ hx187_2)).trans hx187_2
        replace hx187_3:=(HB.out.cell (World.block_lt_of_cell? w _ hx187_3)).trans hx187_3
        replace hx187_4:=(HB.out.cell (World.block_lt_of_cell? w _ hx187_4)).trans hx187_4
        replace hx187_5:=(HB.out.cell (World.block_lt_of_cell? w _ hx187_5)).trans hx187_5
        replace hx187_6:=(HB.out.cell (World.block_lt_of_cell? w _ hx187_6)).trans hx187_6
        have HR187_2:=Aside0.mk hi187_2;have HC187_2:=Aside0.mk hl187_2;clear hi187_2 hl187_2;replace p187:=eq_true p187
        replace q187:=eq_true q187
        have p189 : 0 ≤ (x3_1 : Int):=of_decide_eq_true (by first|(with_reducible assumption)|assumption)
        have q189 : x3_1 < (l0.length : Int):=of_decide_eq_true (by first|(with_reducible assumption)|assumption)
        obtain ⟨ad189,A189_2,c189_2,e189,hx189_0,hx189_1,hx189_2,hx189_3,hx189_4,hx189_5,hx189_6,hl189_2,hi189_2⟩:=at_T94 HR0.out x3_1 p189 q189
        have hw189_6:=hx189_6;have hw189_5:=hx189_5;have hw189_4:=hx189_4;have hw189_3:=hx189_3;have hw189_2:=hx189_2;have hw189_1:=hx189_1;have hw189_0:=hx189_0;obtain rfl : ad187 = ad189:=(by injection e189)
        replace hx189_0:=(HB.out.cell (World.block_lt_of_cell? w _ hx189_0)).trans hx189_0
        replace hx189_1:=(HB.out.cell (World.block_lt_of_cell? w _ hx189_1)).trans hx189_1
        replace hx189_2:=(HB.out.cell (World.block_lt_of_cell? w _ hx189_2)).trans hx189_2
        replace hx189_3:=(HB.out.cell (World.block_lt_of_cell? w _ hx189_3)).trans hx189_3
        replace hx189_4:=(HB.out.cell (World.block_lt_of_cell? w _ hx189_4)).trans hx189_4
        replace hx189_5:=(HB.out.cell (World.block_lt_of_cell? w _ hx189_5)).trans hx189_5
        replace hx189_6:=(HB.out.cell (World.block_lt_of_cell? w _ hx189_6)).trans hx189_6
        have HR189_2:=Aside0.mk hi189_2;have HC189_2:=Aside0.mk hl189_2;clear hi189_2 hl189_2;replace p189:=eq_true p189
        replace q189:=eq_true q189
        have p190 : 0 ≤ (x3_1 : Int):=of_decide_eq_true (by first|(with_reducible assumption)|assumption)
        have q190 : x3_1 < (l0.length : Int):=of_decide_eq_true (by first|(with_reducible assumption)|assumption)
        obtain ⟨ad190,A190_2,c190_2,e190,hx190_0,hx190_1,hx190_2,hx190_3,hx190_4,hx190_5,hx190_6,hl190_2,hi190_2⟩:=at_T94 HR0.out x3_1 p190 q190
        have hw190_6:=hx190_6;have hw190_5:=hx190_5;have hw190_4:=hx190_4;have hw190_3:=hx190_3;have hw190_2:=hx190_2;have hw190_1:=hx190_1;have hw190_0:=hx190_0;obtain rfl : ad187 = ad190:=(by injection e190)
        replace hx190_0:=(HB.out.cell (World.block_lt_of_cell? w _ hx190_0)).trans hx190_0
        replace hx190_1:=(HB.out.cell (World.block_lt_of_cell? w _ hx190_1)).trans hx190_1
        replace hx190_2:=(HB.out.cell (World.block_lt_of_cell? w _ hx190_2)).trans hx190_2
        replace hx190_3:=(HB.out.cell (World.block_lt_of_cell? w _ hx190_3)).trans hx190_3
        replace hx190_4:=(HB.out.cell (World.block_lt_of_cell? w _ hx190_4)).trans hx190_4
        replace hx190_5:=(HB.out.cell (World.block_lt_of_cell? w _ hx190_5)).trans hx190_5
        replace hx190_6:=(HB.out.cell (World.block_lt_of_cell? w _ hx190_6)).trans hx190_6
        have HR190_2:=Aside0.mk hi190_2;have HC190_2:=Aside0.mk hl190_2;clear hi190_2 hl190_2;replace p190:=eq_true p190
        replace q190:=eq_true q190
        have ea_:=Option.some.inj (hx189_2.symm.trans hx190_2)
        injection ea_ with ea_ en_ ec_
        subst ea_
        subst ec_
        clear en_;have p192 : 0 ≤ (x3_1 : Int):=of_decide_eq_true (by first|(with_reducible assumption)|assumption)
        have q192 : x3_1 < (l0.length : Int):=of_decide_eq_true (by first|(with_reducible assumption)|assumption)
        obtain ⟨ad192,A192_2,c192_2,e192,hx192_0,hx192_1,hx192_2,hx192_3,hx192_4,hx192_5,hx192_6,hl192_2,hi192_2⟩:=at_T94 HR0.out x3_1 p192 q192
        have hw192_6:=hx192_6;have hw192_5:=hx192_5;have hw192_4:=hx192_4;have hw192_3:=hx192_3;have hw192_2:=hx192_2;have hw192_1:=hx192_1;have hw192_0:=hx192_0;obtain rfl : ad187 = ad192:=(by injection e192)
        replace hx192_0:=(HB.out.cell (World.block_lt_of_cell? w _ hx192_0)).trans hx192_0
        replace hx192_1:=(HB.out.cell (World.block_lt_of_cell? w _ hx192_1)).trans hx192_1
        replace hx192_2:=(HB.out.cell (World.block_lt_of_cell? w _ hx192_2)).trans hx192_2
        replace hx192_3:=(HB.out.cell (World.block_lt_of_cell? w _ hx192_3)).trans hx192_3
        replace hx192_4:=(HB.out.cell (World.block_lt_of_cell? w _ hx192_4)).trans hx192_4
        replace hx192_5:=(HB.out.cell (World.block_lt_of_cell? w _ hx192_5)).trans hx192_5
        replace hx192_6:=(HB.out.cell (World.block_lt_of_cell? w _ hx192_6)).trans hx192_6
        have HR192_2:=Aside0.mk hi192_2;have HC192_2:=Aside0.mk hl192_2;clear hi192_2 hl192_2;replace p192:=eq_true p192
        replace q192:=eq_true q192
        refine start_ (n:=48) (S:=fun w' => w'.cell? (ad187.add ((x3_1).toNat * 7)) = some (.int .i64 ((rd_T94 l0 x3_1).f0)) ∧ w'.cell? ⟨(ad187.add ((x3_1).toNat * 7)).block,(ad187.add ((x3_1).toNat * 7)).off + 1,none⟩ = some (.int .i64 ((rd_T94 l0 x3_1).f1.f0)) ∧ w'.cell? ⟨(ad187.add ((x3_1).toNat * 7)).block,(ad187.add ((x3_1).toNat * 7)).off + 2,none⟩ = some (.slice A187_2 ((rd_T94 l0 x3_1).f1.f1).length c187_2) ∧ w'.cell? ⟨(ad187.add ((x3_1).toNat * 7)).block,(ad187.add ((x3_1).toNat * 7)).off + 3,none⟩ = some (.int .i64 ((rd_T94 l0 x3_1).f1.f2.f0)) ∧ w'.cell? ⟨(ad187.add ((x3_1).toNat * 7)).block,(ad187.add ((x3_1).toNat * 7)).off + 4,none⟩ = some (.int .i64 ((rd_T94 l0 x3_1).f1.f2.f1)) ∧ w'.cell? ⟨(ad187.add ((x3_1).toNat * 7)).block,(ad187.add ((x3_1).toNat * 7)).off + 5,none⟩ = some (.int .i64 ((rd_T94 l0 x3_1).f1.f2.f2)) ∧ w'.cell? ⟨(ad187.add ((x3_1).toNat * 7)).block,(ad187.add ((x3_1).toNat * 7)).off + 6,none⟩ = some (.int .i64 ((rd_T94 l0 x3_1).f2)) ∧ w'.cell? (ad187.add ((x3_1).toNat * 7)) = some (.int .i64 ((rd_T94 l0 x3_1).f0)) ∧ w'.cell? ⟨(ad187.add ((x3_1).toNat * 7)).block,(ad187.add ((x3_1).toNat * 7)).off + 1,none⟩ = some (.int .i64 ((rd_T94 l0 x3_1).f1.f0)) ∧ w'.cell? ⟨(ad187.add ((x3_1).toNat * 7)).block,(ad187.add ((x3_1).toNat * 7)).off + 2,none⟩ = some (.slice A189_2 ((rd_T94 l0 x3_1).f1.f1).length c189_2) ∧ w'.cell? ⟨(ad187.add ((x3_1).toNat * 7)).block,(ad187.add ((x3_1).toNat * 7)).off + 3,none⟩ = some (.int .i64 ((rd_T94 l0 x3_1).f1.f2.f0)) ∧ w'.cell? ⟨(ad187.add ((x3_1).toNat * 7)).block,(ad187.add ((x3_1).toNat * 7)).off + 4,none⟩ = some (.int .i64 ((rd_T94 l0 x3_1).f1.f2.f1)) ∧ w'.cell? ⟨(ad187.add ((x3_1).toNat * 7)).block,(ad187.add ((x3_1).toNat * 7)).off + 5,none⟩ = some (.int .i64 ((rd_T94 l0 x3_1).f1.f2.f2)) ∧ w'.cell? ⟨(ad187.add ((x3_1).toNat * 7)).block,(ad187.add ((x3_1).toNat * 7)).off + 6,none⟩ = some (.int .i64 ((rd_T94 l0 x3_1).f2)) ∧ w'.cell? (ad187.add ((x3_1).toNat * 7)) = some (.int .i64 ((rd_T94 l0 x3_1).f0)) ∧ w'.cell? ⟨(ad187.add ((x3_1).toNat * 7)).block,(ad187.add ((x3_1).toNat * 7)).off + 1,none⟩ = some (.int .i64 ((rd_T94 l0 x3_1).f1.f0)) ∧ w'.cell? ⟨(ad187.add ((x3_1).toNat * 7)).block,(ad187.add ((x3_1).toNat * 7)).off + 2,none⟩ = some (.slice A189_2 ((rd_T94 l0 x3_1).f1.f1).length c189_2) ∧ w'.cell? ⟨(ad187.add ((x3_1).toNat * 7)).block,(ad187.add ((x3_1).toNat * 7)).off + 3,none⟩ = some (.int .i64 ((rd_T94 l0 x3_1).f1.f2.f0)) ∧ w'.cell? ⟨(ad187.add ((x3_1).toNat * 7)).block,(ad187.add ((x3_1).toNat * 7)).off + 4,none⟩ = some (.int .i64 ((rd_T94 l0 x3_1).f1.f2.f1)) ∧ w'.cell? ⟨(ad187.add ((x3_1).toNat * 7)).block,(ad187.add ((x3_1).toNat * 7)).off + 5,none⟩ = some (.int .i64 ((rd_T94 l0 x3_1).f1.f2.f2)) ∧ w'.cell? ⟨(ad187.add ((x3_1).toNat * 7)).block,(ad187.add ((x3_1).toNat * 7)).off + 6,none⟩ = some (.int .i64 ((rd_T94 l0 x3_1).f2)) ∧ w'.cell? (ad187.add ((x3_1).toNat * 7)) = some (.int .i64 ((rd_T94 l0 x3_1).f0)) ∧ w'.cell? ⟨(ad187.add ((x3_1).toNat * 7)).block,(ad187.add ((x3_1).toNat * 7)).off + 1,none⟩ = some (.int .i64 ((rd_T94 l0 x3_1).f1.f0)) ∧ w'.cell? ⟨(ad187.add ((x3_1).toNat * 7)).block,(ad187.add ((x3_1).toNat * 7)).off + 2,none⟩ = some (.slice A192_2 ((rd_T94 l0 x3_1).f1.f1).length c192_2) ∧ w'.cell? ⟨(ad187.add ((x3_1).toNat * 7)).block,(ad187.add ((x3_1).toNat * 7)).off + 3,none⟩ = some (.int .i64 ((rd_T94 l0 x3_1).f1.f2.f0)) ∧ w'.cell? ⟨(ad187.add ((x3_1).toNat * 7)).block,(ad187.add ((x3_1).toNat * 7)).off + 4,none⟩ = some (.int .i64 ((rd_T94 l0 x3_1).f1.f2.f1)) ∧ w'.cell? ⟨(ad187.add ((x3_1).toNat * 7)).block,(ad187.add ((x3_1).toNat * 7)).off + 5,none⟩ = some (.int .i64 ((rd_T94 l0 x3_1).f1.f2.f2)) ∧ w'.cell? ⟨(ad187.add ((x3_1).toNat * 7)).block,(ad187.add ((x3_1).toNat * 7)).off + 6,none⟩ = some (.int .i64 ((rd_T94 l0 x3_1).f2))) (ds:=[]) q0_ (by kernel_rfl) rfl rfl ⟨((HB.out.cell (World.block_lt_of_cell? w _ hw187_0)).trans hw187_0),((HB.out.cell (World.block_lt_of_cell? w _ hw187_1)).trans hw187_1),((HB.out.cell (World.block_lt_of_cell? w _ hw187_2)).trans hw187_2),((HB.out.cell (World.block_lt_of_cell? w _ hw187_3)).trans hw187_3),((HB.out.cell (World.block_lt_of_cell? w _ hw187_4)).trans hw187_4),((HB.out.cell (World.block_lt_of_cell? w _ hw187_5)).trans hw187_5),((HB.out.cell (World.block_lt_of_cell? w _ hw187_6)).trans hw187_6),((HB.out.cell (World.block_lt_of_cell? w _ hw189_0)).trans hw189_0),((HB.out.cell (World.block_lt_of_cell? w _ hw189_1)).trans hw189_1),((HB.out.cell (World.block_lt_of_cell? w _ hw189_2)).trans hw189_2),((HB.out.cell (World.block_lt_of_cell? w _ hw189_3)).trans hw189_3),((HB.out.cell (World.block_lt_of_cell? w _ hw189_4)).trans hw189_4),((HB.out.cell (World.block_lt_of_cell? w _ hw189_5)).trans hw189_5),((HB.out.cell (World.block_lt_of_cell? w _ hw189_6)).trans hw189_6),((HB.out.cell (World.block_lt_of_cell? w _ hw190_0)).trans hw190_0),((HB.out.cell (World.block_lt_of_cell? w _ hw190_1)).trans hw190_1),((HB.out.cell (World.block_lt_of_cell? w _ hw190_2)).trans hw190_2),((HB.out.cell (World.block_lt_of_cell? w _ hw190_3)).trans hw190_3),((HB.out.cell (World.block_lt_of_cell? w _ hw190_4)).trans hw190_4),((HB.out.cell (World.block_lt_of_cell? w _ hw190_5)).trans hw190_5),((HB.out.cell (World.block_lt_of_cell? w _ hw190_6)).trans hw190_6),((HB.out.cell (World.block_lt_of_cell? w _ hw192_0)).trans hw192_0),((HB.out.cell (World.block_lt_of_cell? w _ hw192_1)).trans hw192_1),((HB.out.cell (World.block_lt_of_cell? w _ hw192_2)).trans hw192_2),((HB.out.cell (World.block_lt_of_cell? w _ hw192_3)).trans hw192_3),((HB.out.cell (World.block_lt_of_cell? w _ hw192_4)).trans hw192_4),((HB.out.cell (World.block_lt_of_cell? w _ hw192_5)).trans hw192_5),((HB.out.cell (World.block_lt_of_cell? w _ hw192_6)).trans hw192_6)⟩ (fun hHeld => ?_);refine with_tabW spec_IsStore.tab4 spec_IsStore.bits4 (fun HT_ HW_ => ?_)
        generalize wr.drew = w24 at HB HR187_2 HR189_2 HR190_2 HR192_2 hx187_0 hx187_1 hx187_2 hx187_3 hx187_4 hx187_5 hx187_6 hx189_0 hx189_1 hx189_2 hx189_3 hx189_4 hx189_5 hx189_6 hx190_0 hx190_1 hx190_2 hx190_3 hx190_4 hx190_5 hx190_6 hx192_0 hx192_1 hx192_2 hx192_3 hx192_4 hx192_5 hx192_6 hHeld ⊢
        refine pure_ (i:=0) (N:=some 10) (v:=?_) (a':=?_) q1_ rfl rfl (any_of HT_.out (by kernel_rfl)) (fun _ _ _ h => h) (Or.inl ⟨by rfl,?_⟩) ?_ ?_
        rotate_left
        ·intro w';go_simp;with_reducible rfl
        rotate_left
        ·simp only [Act.put,List.setIfInBounds_toArray,List.set_cons_zero,List.set_cons_succ,i64_w,i32_w]
         rfl
        refine pure_ (i:=1) (N:=some 11) (v:=?_) (a':=?_) q2_ rfl rfl (any_of HT_.out (by kernel_rfl)) (fun _ _ _ h => h) (Or.inl ⟨by rfl,?_⟩) ?_ ?_
        rotate_left
        ·intro w';go_simp;with_reducible rfl
        rotate_left
        ·simp only [Act.put,List.setIfInBounds_toArray,List.set_cons_zero,List.set_cons_succ,i64_w,i32_w]
         rfl
        refine pure_ (i:=2) (N:=some 12) (v:=?_) (a':=?_) q3_ rfl rfl (any_of HT_.out (by kernel_rfl)) (fun _ _ _ h => h) (Or.inl ⟨by rfl,?_⟩) ?_ ?_
        rotate_left
        ·intro w';go_simp;with_reducible rfl
        rotate_left
        ·simp only [Act.put,List.setIfInBounds_toArray,List.set_cons_zero,List.set_cons_succ,i64_w,i32_w]
         rfl
        refine pure_ (i:=3) (N:=some 13) (v:=?_) (a':=?_) q4_ rfl rfl (any_of HT_.out (by kernel_rfl)) (fun _ _ _ h => h) (Or.inl ⟨by rfl,?_⟩) ?_ ?_
        rotate_left
        ·intro w';go_simp;with_reducible rfl
        rotate_left
        ·simp only [Act.put,List.setIfInBounds_toArray,List.set_cons_zero,List.set_cons_succ,i64_w,i32_w]
         rfl
        refine take_ (i:=4) (N:=some 14) (v:=?_) (a':=?_) q5_ rfl rfl (take_ofW HT_.out HW_.out (by kernel_rfl)) (fun _ _ _ h => h) (Or.inl ⟨by rfl,?_⟩) hHeld ?_ ?_
        rotate_left
        ·rintro w' ⟨s0,s1,s2,s3,s4,s5,s6,s7,s8,s9,s10,s11,s12,s13,s14,s15,s16,s17,s18,s19,s20,s21,s22,s23,s24,s25,s26,s27⟩
         go_simp;with_reducible rfl
        rotate_left
        ·simp only [Act.put,List.setIfInBounds_toArray,List.set_cons_zero,List.set_cons_succ,i64_w,i32_w]
         rfl
        refine one_ (i:=5) (N:=some 15) q6_ rfl rfl (one_of HT_.out (by kernel_rfl)) (by decide) (fun K hK => ?_)
        refine goes_ Try.func69 (by kernel_rfl) rfl #[.agg #[.int .i64 ((rd_T94 l0 x3_1).f1.f0),.slice A187_2 ((rd_T94 l0 x3_1).f1.f1).length c187_2,.int .i64 ((rd_T94 l0 x3_1).f1.f2.f0),.int .i64 ((rd_T94 l0 x3_1).f1.f2.f1),.int .i64 ((rd_T94 l0 x3_1).f1.f2.f2)]] (by rfl) rfl rfl (by (try simp only [List.map_toArray,List.map_cons,List.map_nil]);first|done|rfl|(simp only [List.length_drop,List.length_take];rfl)) ?_
        with_reducible refine (spec_IsResource.calls k1 ((rd_T94 l0 x3_1).f1.f0) _ _ ((rd_T94 l0 x3_1).f1.f1) ((rd_T94 l0 x3_1).f1.f2.f0) ((rd_T94 l0 x3_1).f1.f2.f1) ((rd_T94 l0 x3_1).f1.f2.f2) true _ ?side1 ?side2 A4.out).mono ?_
        (case side1 => repeat (first|exact (Kd.C_below HR187_2.out HB.out)|(with_reducible refine Kd.C_alloc ?_ _)|(with_reducible refine Kd.C_drewN ?_ _)|(with_reducible refine Kd.C_drew ?_)))
        (case side2 => exact HC187_2.out)
        rintro e w25 ⟨rfl,hb⟩
        refine ⟨_,rfl,?_⟩
        have n0_:=Aside0.mk (below_step (by repeat (first|(with_reducible first|exact HB.out|apply below_alloc|apply pw_below_drewN|apply below_drew1)|exact HB.out)) hb)
        clear HB;have HB:=n0_;clear n0_;(try clear hb);refine hK.out _ _ ⟨((HB.out.cell (World.block_lt_of_cell? w _ hw187_0)).trans hw187_0),((HB.out.cell (World.block_lt_of_cell? w _ hw187_1)).trans hw187_1),((HB.out.cell (World.block_lt_of_cell? w _ hw187_2)).trans hw187_2),((HB.out.cell (World.block_lt_of_cell? w _ hw187_3)).trans hw187_3),((HB.out.cell (World.block_lt_of_cell? w _ hw187_4)).trans hw187_4),((HB.out.cell (World.block_lt_of_cell? w _ hw187_5)).trans hw187_5),((HB.out.cell (World.block_lt_of_cell? w _ hw187_6)).trans hw187_6),((HB.out.cell (World.block_lt_of_cell? w _ hw189_0)).trans hw189_0),((HB.out.cell (World.block_lt_of_cell? w _ hw189_1)).trans hw189_1),((HB.out.cell (World.block_lt_of_cell? w _ hw189_2)).trans hw189_2),((HB.out.cell (World.block_lt_of_cell? w _ hw189_3)).trans hw189_3),((HB.out.cell (World.block_lt_of_cell? w _ hw189_4)).trans hw189_4),((HB.out.cell (World.block_lt_of_cell? w _ hw189_5)).trans hw189_5),((HB.out.cell (World.block_lt_of_cell? w _ hw189_6)).trans hw189_6),((HB.out.cell (World.block_lt_of_cell? w _ hw190_0)).trans hw190_0),((HB.out.cell (World.block_lt_of_cell? w _ hw190_1)).trans hw190_1),((HB.out.cell (World.block_lt_of_cell? w _ hw190_2)).trans hw190_2),((HB.out.cell (World.block_lt_of_cell? w _ hw190_3)).trans hw190_3),((HB.out.cell (World.block_lt_of_cell? w _ hw190_4)).trans hw190_4),((HB.out.cell (World.block_lt_of_cell? w _ hw190_5)).trans hw190_5),((HB.out.cell (World.block_lt_of_cell? w _ hw190_6)).trans hw190_6),((HB.out.cell (World.block_lt_of_cell? w _ hw192_0)).trans hw192_0),((HB.out.cell (World.block_lt_of_cell? w _ hw192_1)).trans hw192_1),((HB.out.cell (World.block_lt_of_cell? w _ hw192_2)).trans hw192_2),((HB.out.cell (World.block_lt_of_cell? w _ hw192_3)).trans hw192_3),((HB.out.cell (World.block_lt_of_cell? w _ hw192_4)).trans hw192_4),((HB.out.cell (World.block_lt_of_cell? w _ hw192_5)).trans hw192_5),((HB.out.cell (World.block_lt_of_cell? w _ hw192_6)).trans hw192_6)⟩ (fun hHeld => ?_)
        clear hK K;refine norm_ (a':=?_) ?_ ?_
        rotate_left
        ·show Act.put _ (some 15) _ = _
         simp only [Act.put,List.setIfInBounds_toArray,List.set_cons_zero,List.set_cons_succ,i64_w,i32_w]
         rfl
        refine pure_ (i:=6) (N:=some 16) (v:=?_) (a':=?_) q7_ rfl rfl (any_of HT_.out (by kernel_rfl)) (fun _ _ _ h => h) (Or.inl ⟨by rfl,?_⟩) ?_ ?_
        rotate_left
        ·intro w';go_simp;with_reducible rfl
        rotate_left
        ·simp only [Act.put,List.setIfInBounds_toArray,List.set_cons_zero,List.set_cons_succ,i64_w,i32_w]
         rfl
        refine pure_ (i:=7) (N:=some 17) (v:=?_) (a':=?_) q8_ rfl rfl (any_of HT_.out (by kernel_rfl)) (fun _ _ _ h => h) (Or.inl ⟨by rfl,?_⟩) ?_ ?_
        rotate_left
        ·intro w';go_simp;with_reducible rfl
        rotate_left
        ·simp only [Act.put,List.setIfInBounds_toArray,List.set_cons_zero,List.set_cons_succ,i64_w,i32_w]
         rfl
        refine pure_ (i:=8) (N:=some 18) (v:=?_) (a':=?_) q9_ rfl rfl (any_of HT_.out (by kernel_rfl)) (fun _ _ _ h => h) (Or.inl ⟨by rfl,?_⟩) ?_ ?_
        rotate_left
        ·intro w';go_simp;with_reducible rfl
        rotate_left
        ·simp only [Act.put,List.setIfInBounds_toArray,List.set_cons_zero,List.set_cons_succ,i64_w,i32_w]
         rfl
        refine pure_ (i:=9) (N:=some 19) (v:=?_) (a':=?_) q10_ rfl rfl (any_of HT_.out (by kernel_rfl)) (fun _ _ _ h => h) (Or.inl ⟨by rfl,?_⟩) ?_ ?_
        rotate_left
        ·intro w';go_simp;with_reducible rfl
        rotate_left
        ·simp only [Act.put,List.setIfInBounds_toArray,List.set_cons_zero,List.set_cons_succ,i64_w,i32_w]
         rfl
        refine pure_ (i:=10) (N:=some 20) (v:=?_) (a':=?_) q11_ rfl rfl (any_of HT_.out (by kernel_rfl)) (fun _ _ _ h => h) (Or.inl ⟨by rfl,?_⟩) ?_ ?_
        rotate_left
        ·intro w';go_simp;with_reducible rfl
        rotate_left
        ·simp only [Act.put,List.setIfInBounds_toArray,List.set_cons_zero,List.set_cons_succ,i64_w,i32_w]
         rfl
        refine pure_ (i:=11) (N:=some 21) (v:=?_) (a':=?_) q12_ rfl rfl (any_of HT_.out (by kernel_rfl)) (fun _ _ _ h => h) (Or.inl ⟨by rfl,?_⟩) ?_ ?_
        rotate_left
        ·intro w';go_simp;with_reducible rfl
        rotate_left
        ·simp only [Act.put,List.setIfInBounds_toArray,List.set_cons_zero,List.set_cons_succ,i64_w,i32_w]
         rfl
        refine pure_ (i:=13) (N:=some 23) (v:=?_) (a':=?_) q13_ rfl rfl (any_of HT_.out (by kernel_rfl)) (fun _ _ _ h => h) (Or.inl ⟨by rfl,?_⟩) ?_ ?_
        rotate_left
        ·intro w';go_simp;with_reducible rfl
        rotate_left
        ·simp only [Act.put,List.setIfInBounds_toArray,List.set_cons_zero,List.set_cons_succ,i64_w,i32_w]
         rfl
        refine pure_ (i:=14) (N:=some 24) (v:=?_) (a':=?_) q14_ rfl rfl (any_of HT_.out (by kernel_rfl)) (fun _ _ _ h => h) (Or.inl ⟨by rfl,?_⟩) ?_ ?_
        rotate_left
        ·intro w';go_simp;with_reducible rfl
        rotate_left
        ·simp only [Act.put,List.setIfInBounds_toArray,List.set_cons_zero,List.set_cons_succ,i64_w,i32_w]
         rfl
        refine pure_ (i:=15) (N:=some 25) (v:=?_) (a':=?_) q15_ rfl rfl (any_of HT_.out (by kernel_rfl)) (fun _ _ _ h => h) (Or.inl ⟨by rfl,?_⟩) ?_ ?_
        rotate_left
        ·intro w';go_simp;with_reducible rfl
        rotate_left
        ·simp only [Act.put,List.setIfInBounds_toArray,List.set_cons_zero,List.set_cons_succ,i64_w,i32_w]
         rfl
        refine pure_ (i:=16) (N:=some 26) (v:=?_) (a':=?_) q16_ rfl rfl (any_of HT_.out (by kernel_rfl)) (fun _ _ _ h => h) (Or.inl ⟨by rfl,?_⟩) ?_ ?_
        rotate_left
        ·intro w';go_simp;with_reducible rfl
        rotate_left
        ·simp only [Act.put,List.setIfInBounds_toArray,List.set_cons_zero,List.set_cons_succ,i64_w,i32_w]
         rfl
        refine take_ (i:=12) (N:=some 22) (v:=?_) (a':=?_) q17_ rfl rfl (take_ofW HT_.out HW_.out (by kernel_rfl)) (fun _ _ _ h => h) (Or.inl ⟨by rfl,?_⟩) hHeld ?_ ?_
        rotate_left
        ·rintro w' ⟨s0,s1,s2,s3,s4,s5,s6,s7,s8,s9,s10,s11,s12,s13,s14,s15,s16,s17,s18,s19,s20,s21,s22,s23,s24,s25,s26,s27⟩
         go_simp;with_reducible rfl
        rotate_left
        ·simp only [Act.put,List.setIfInBounds_toArray,List.set_cons_zero,List.set_cons_succ,i64_w,i32_w]
         rfl
        refine take_ (i:=17) (N:=some 27) (v:=?_) (a':=?_) q18_ rfl rfl (take_ofW HT_.out HW_.out (by kernel_rfl)) (fun _ _ _ h => h) (Or.inl ⟨by rfl,?_⟩) hHeld ?_ ?_
        rotate_left
        ·rintro w' ⟨s0,s1,s2,s3,s4,s5,s6,s7,s8,s9,s10,s11,s12,s13,s14,s15,s16,s17,s18,s19,s20,s21,s22,s23,s24,s25,s26,s27⟩
         go_simp;with_reducible rfl
        rotate_left
        ·simp only [Act.put,List.setIfInBounds_toArray,List.set_cons_zero,List.set_cons_succ,i64_w,i32_w]
         rfl
        refine one_ (i:=18) (N:=some 28) q19_ rfl rfl (one_of HT_.out (by kernel_rfl)) (by decide) (fun K hK => ?_)
        refine goes_ Try.func70 (by kernel_rfl) rfl #[.agg #[.int .i64 ((rd_T94 l0 x3_1).f1.f0),.slice A187_2 ((rd_T94 l0 x3_1).f1.f1).length c187_2,.int .i64 ((rd_T94 l0 x3_1).f1.f2.f0),.int .i64 ((rd_T94 l0 x3_1).f1.f2.f1),.int .i64 ((rd_T94 l0 x3_1).f1.f2.f2)]] (by rfl) rfl rfl (by (try simp only [List.map_toArray,List.map_cons,List.map_nil]);first|done|rfl|(simp only [List.length_drop,List.length_take];rfl)) ?_
        with_reducible refine (spec_DigestOf.calls k1 ((rd_T94 l0 x3_1).f1.f0) _ _ ((rd_T94 l0 x3_1).f1.f1) ((rd_T94 l0 x3_1).f1.f2.f0) ((rd_T94 l0 x3_1).f1.f2.f1) ((rd_T94 l0 x3_1).f1.f2.f2) t191 _ ?side1 ?side2 A6.out).mono ?_
        (case side1 => repeat (first|exact (Kd.C_below HR187_2.out HB.out)|(with_reducible refine Kd.C_alloc ?_ _)|(with_reducible refine Kd.C_drewN ?_ _)|(with_reducible refine Kd.C_drew ?_)))
        (case side2 => exact HC187_2.out)
        rintro e w26 ⟨rfl,hb⟩
        refine ⟨_,rfl,?_⟩
        have n0_:=Aside0.mk (below_step (by repeat (first|(with_reducible first|exact HB.out|apply below_alloc|apply pw_below_drewN|apply below_drew1)|exact HB.out)) hb)
        clear HB;have HB:=n0_;clear n0_;(try clear hb);refine hK.out _ _ ⟨((HB.out.cell (World.block_lt_of_cell? w _ hw187_0)).trans hw187_0),((HB.out.cell (World.block_lt_of_cell? w _ hw187_1)).trans hw187_1),((HB.out.cell (World.block_lt_of_cell? w _ hw187_2)).trans hw187_2),((HB.out.cell (World.block_lt_of_cell? w _ hw187_3)).trans hw187_3),((HB.out.cell (World.block_lt_of_cell? w _ hw187_4)).trans hw187_4),((HB.out.cell (World.block_lt_of_cell? w _ hw187_5)).trans hw187_5),((HB.out.cell (World.block_lt_of_cell? w _ hw187_6)).trans hw187_6),((HB.out.cell (World.block_lt_of_cell? w _ hw189_0)).trans hw189_0),((HB.out.cell (World.block_lt_of_cell? w _ hw189_1)).trans hw189_1),((HB.out.cell (World.block_lt_of_cell? w _ hw189_2)).trans hw189_2),((HB.out.cell (World.block_lt_of_cell? w _ hw189_3)).trans hw189_3),((HB.out.cell (World.block_lt_of_cell? w _ hw189_4)).trans hw189_4),((HB.out.cell (World.block_lt_of_cell? w _ hw189_5)).trans hw189_5),((HB.out.cell (World.block_lt_of_cell? w _ hw189_6)).trans hw189_6),((HB.out.cell (World.block_lt_of_cell? w _ hw190_0)).trans hw190_0),((HB.out.cell (World.block_lt_of_cell? w _ hw190_1)).trans hw190_1),((HB.out.cell (World.block_lt_of_cell? w _ hw190_2)).trans hw190_2),((HB.out.cell (World.block_lt_of_cell? w _ hw190_3)).trans hw190_3),((HB.out.cell (World.block_lt_of_cell? w _ hw190_4)).trans hw190_4),((HB.out.cell (World.block_lt_of_cell? w _ hw190_5)).trans hw190_5),((HB.out.cell (World.block_lt_of_cell? w _ hw190_6)).trans hw190_6),((HB.out.cell (World.block_lt_of_cell? w _ hw192_0)).trans hw192_0),((HB.out.cell (World.block_lt_of_cell? w _ hw192_1)).trans hw192_1),((HB.out.cell (World.block_lt_of_cell? w _ hw192_2)).trans hw192_2),((HB.out.cell (World.block_lt_of_cell? w _ hw192_3)).trans hw192_3),((HB.out.cell (World.block_lt_of_cell? w _ hw192_4)).trans hw192_4),((HB.out.cell (World.block_lt_of_cell? w _ hw192_5)).trans hw192_5),((HB.out.cell (World.block_lt_of_cell? w _ hw192_6)).trans hw192_6)⟩ (fun hHeld => ?_)
        clear hK K;refine norm_ (a':=?_) ?_ ?_
        rotate_left
        ·show Act.put _ (some 28) _ = _
         simp only [Act.put,List.setIfInBounds_toArray,List.set_cons_zero,List.set_cons_succ,i64_w,i32_w]
         rfl
        refine pure_ (i:=19) (N:=some 29) (v:=?_) (a':=?_) q20_ rfl rfl (any_of HT_.out (by kernel_rfl)) (fun _ _ _ h => h) (Or.inl ⟨by rfl,?_⟩) ?_ ?_
        rotate_left
        ·intro w';go_simp;with_reducible rfl
        rotate_left
        ·simp only [Act.put,List.setIfInBounds_toArray,List.set_cons_zero,List.set_cons_succ,i64_w,i32_w]
         rfl
        refine pure_ (i:=20) (N:=some 30) (v:=?_) (a':=?_) q21_ rfl rfl (any_of HT_.out (by kernel_rfl)) (fun _ _ _ h => h) (Or.inl ⟨by rfl,?_⟩) ?_ ?_
        rotate_left
        ·intro w';go_simp;with_reducible rfl
        rotate_left
        ·simp only [Act.put,List.setIfInBounds_toArray,List.set_cons_zero,List.set_cons_succ,i64_w,i32_w]
         rfl
        refine pure_ (i:=21) (N:=some 31) (v:=?_) (a':=?_) q22_ rfl rfl (any_of HT_.out (by kernel_rfl)) (fun _ _ _ h => h) (Or.inl ⟨by rfl,?_⟩) ?_ ?_
        rotate_left
        ·intro w';go_simp;with_reducible rfl
        rotate_left
        ·simp only [Act.put,List.setIfInBounds_toArray,List.set_cons_zero,List.set_cons_succ,i64_w,i32_w]
         rfl
        refine pure_ (i:=22) (N:=some 32) (v:=?_) (a':=?_) q23_ rfl rfl (any_of HT_.out (by kernel_rfl)) (fun _ _ _ h => h) (Or.inl ⟨by rfl,?_⟩) ?_ ?_
        rotate_left
        ·intro w';go_simp;with_reducible rfl
        rotate_left
        ·simp only [Act.put,List.setIfInBounds_toArray,List.set_cons_zero,List.set_cons_succ,i64_w,i32_w]
         rfl
        refine pure_ (i:=23) (N:=some 33) (v:=?_) (a':=?_) q24_ rfl rfl (any_of HT_.out (by kernel_rfl)) (fun _ _ _ h => h) (Or.inl ⟨by rfl,?_⟩) ?_ ?_
        rotate_left
        ·intro w';go_simp;with_reducible rfl
        rotate_left
        ·simp only [Act.put,List.setIfInBounds_toArray,List.set_cons_zero,List.set_cons_succ,i64_w,i32_w]
         rfl
        refine pure_ (i:=24) (N:=some 34) (v:=?_) (a':=?_) q25_ rfl rfl (any_of HT_.out (by kernel_rfl)) (fun _ _ _ h => h) (Or.inl ⟨by rfl,?_⟩) ?_ ?_
        rotate_left
        ·intro w';go_simp;with_reducible rfl
        rotate_left
        ·simp only [Act.put,List.setIfInBounds_toArray,List.set_cons_zero,List.set_cons_succ,i64_w,i32_w]
         rfl
        refine pure_ (i:=25) (N:=some 35) (v:=?_) (a':=?_) q26_ rfl rfl (any_of HT_.out (by kernel_rfl)) (fun _ _ _ h => h) (Or.inl ⟨by rfl,?_⟩) ?_ ?_
        rotate_left
        ·intro w';go_simp;with_reducible rfl
        rotate_left
        ·simp only [Act.put,List.setIfInBounds_toArray,List.set_cons_zero,List.set_cons_succ,i64_w,i32_w]
         rfl
        refine take_ (i:=26) (N:=some 36) (v:=?_) (a':=?_) q27_ rfl rfl (take_ofW HT_.out HW_.out (by kernel_rfl)) (fun _ _ _ h => h) (Or.inl ⟨by rfl,?_⟩) hHeld ?_ ?_
        rotate_left
        ·rintro w' ⟨s0,s1,s2,s3,s4,s5,s6,s7,s8,s9,s10,s11,s12,s13,s14,s15,s16,s17,s18,s19,s20,s21,s22,s23,s24,s25,s26,s27⟩
         go_simp;with_reducible rfl
        rotate_left
        ·simp only [Act.put,List.setIfInBounds_toArray,List.set_cons_zero,List.set_cons_succ,i64_w,i32_w]
         rfl
        refine one_ (i:=27) (N:=some 37) q28_ rfl rfl (one_of HT_.out (by kernel_rfl)) (by decide) (fun K hK => ?_)
        refine goes_ Try.func60 (by kernel_rfl) rfl #[.int .i64 ((rd_T94 l0 x3_1).f2),.int .i64 1,.int .i64 1000] (by rfl) rfl rfl (by (try simp only [List.map_toArray,List.map_cons,List.map_nil]);first|done|rfl|(simp only [List.length_drop,List.length_take];rfl)) ?_
        with_reducible refine (spec_l1In.calls ((rd_T94 l0 x3_1).f2) 1 1000 false _ A8.out).mono ?_
        rintro e w' ⟨rfl,⟨nd,rfl⟩⟩
        refine ⟨_,rfl,?_⟩
        refine hK.out _ _ ⟨((HB.out.cell (World.block_lt_of_cell? w _ hw187_0)).trans hw187_0),((HB.out.cell (World.block_lt_of_cell? w _ hw187_1)).trans hw187_1),((HB.out.cell (World.block_lt_of_cell? w _ hw187_2)).trans hw187_2),((HB.out.cell (World.block_lt_of_cell? w _ hw187_3)).trans hw187_3),((HB.out.cell (World.block_lt_of_cell? w _ hw187_4)).trans hw187_4),((HB.out.cell (World.block_lt_of_cell? w _ hw187_5)).trans hw187_5),((HB.out.cell (World.block_lt_of_cell? w _ hw187_6)).trans hw187_6),((HB.out.cell (World.block_lt_of_cell? w _ hw189_0)).trans hw189_0),((HB.out.cell (World.block_lt_of_cell? w _ hw189_1)).trans hw189_1),((HB.out.cell (World.block_lt_of_cell? w _ hw189_2)).trans hw189_2),((HB.out.cell (World.block_lt_of_cell? w _ hw189_3)).trans hw189_3),((HB.out.cell (World.block_lt_of_cell? w _ hw189_4)).trans hw189_4),((HB.out.cell (World.block_lt_of_cell? w _ hw189_5)).trans hw189_5),((HB.out.cell (World.block_lt_of_cell? w _ hw189_6)).trans hw189_6),((HB.out.cell (World.block_lt_of_cell? w _ hw190_0)).trans hw190_0),((HB.out.cell (World.block_lt_of_cell? w _ hw190_1)).trans hw190_1),((HB.out.cell (World.block_lt_of_cell? w _ hw190_2)).trans hw190_2),((HB.out.cell (World.block_lt_of_cell? w _ hw190_3)).trans hw190_3),((HB.out.cell (World.block_lt_of_cell? w _ hw190_4)).trans hw190_4),((HB.out.cell (World.block_lt_of_cell? w _ hw190_5)).trans hw190_5),((HB.out.cell (World.block_lt_of_cell? w _ hw190_6)).trans hw190_6),((HB.out.cell (World.block_lt_of_cell? w _ hw192_0)).trans hw192_0),((HB.out.cell (World.block_lt_of_cell? w _ hw192_1)).trans hw192_1),((HB.out.cell (World.block_lt_of_cell? w _ hw192_2)).trans hw192_2),((HB.out.cell (World.block_lt_of_cell? w _ hw192_3)).trans hw192_3),((HB.out.cell (World.block_lt_of_cell? w _ hw192_4)).trans hw192_4),((HB.out.cell (World.block_lt_of_cell? w _ hw192_5)).trans hw192_5),((HB.out.cell (World.block_lt_of_cell? w _ hw192_6)).trans hw192_6)⟩ (fun hHeld => ?_)
        clear hK K;refine norm_ (a':=?_) ?_ ?_
        rotate_left
        ·show Act.put _ (some 37) _ = _
         simp only [Act.put,List.setIfInBounds_toArray,List.set_cons_zero,List.set_cons_succ,i64_w,i32_w]
         rfl
        refine pure_ (i:=28) (N:=some 38) (v:=?_) (a':=?_) q29_ rfl rfl (any_of HT_.out (by kernel_rfl)) (fun _ _ _ h => h) (Or.inl ⟨by rfl,?_⟩) ?_ ?_
        rotate_left
        ·intro w';go_simp;with_reducible rfl
        rotate_left
        ·simp only [Act.put,List.setIfInBounds_toArray,List.set_cons_zero,List.set_cons_succ,i64_w,i32_w]
         rfl
        refine pure_ (i:=29) (N:=some 39) (v:=?_) (a':=?_) q30_ rfl rfl (any_of HT_.out (by kernel_rfl)) (fun _ _ _ h => h) (Or.inl ⟨by rfl,?_⟩) ?_ ?_
        rotate_left
        ·intro w';go_simp;with_reducible rfl
        rotate_left
        ·simp only [Act.put,List.setIfInBounds_toArray,List.set_cons_zero,List.set_cons_succ,i64_w,i32_w]
         rfl
        refine pure_ (i:=30) (N:=some 40) (v:=?_) (a':=?_) q31_ rfl rfl (any_of HT_.out (by kernel_rfl)) (fun _ _ _ h => h) (Or.inl ⟨by rfl,?_⟩) ?_ ?_
        rotate_left
        ·intro w';go_simp;with_reducible rfl
        rotate_left
        ·simp only [Act.put,List.setIfInBounds_toArray,List.set_cons_zero,List.set_cons_succ,i64_w,i32_w]
         rfl
        refine pure_ (i:=31) (N:=some 41) (v:=undef) (a':=?_) q32_ rfl rfl (any_of HT_.out (by kernel_rfl)) (fun _ _ _ h => h) (Or.inr ⟨by rfl,rfl⟩) ?_ ?_
        rotate_left
        ·simp only [Act.put,List.setIfInBounds_toArray,List.set_cons_zero,List.set_cons_succ,i64_w,i32_w]
         rfl
        refine pure_ (i:=32) (N:=some 42) (v:=undef) (a':=?_) q33_ rfl rfl (any_of HT_.out (by kernel_rfl)) (fun _ _ _ h => h) (Or.inr ⟨by rfl,rfl⟩) ?_ ?_
        rotate_left
        ·simp only [Act.put,List.setIfInBounds_toArray,List.set_cons_zero,List.set_cons_succ,i64_w,i32_w]
         rfl
        refine pure_ (i:=33) (N:=some 43) (v:=undef) (a':=?_) q34_ rfl rfl (any_of HT_.out (by kernel_rfl)) (fun _ _ _ h => h) (Or.inr ⟨by rfl,rfl⟩) ?_ ?_
        rotate_left
        ·simp only [Act.put,List.setIfInBounds_toArray,List.set_cons_zero,List.set_cons_succ,i64_w,i32_w]
         rfl
        refine pure_ (i:=34) (N:=some 44) (v:=undef) (a':=?_) q35_ rfl rfl (any_of HT_.out (by kernel_rfl)) (fun _ _ _ h => h) (Or.inr ⟨by rfl,rfl⟩) ?_ ?_
        rotate_left
        ·simp only [Act.put,List.setIfInBounds_toArray,List.set_cons_zero,List.set_cons_succ,i64_w,i32_w]
         rfl
        refine pure_ (i:=35) (N:=some 45) (v:=undef) (a':=?_) q36_ rfl rfl (any_of HT_.out (by kernel_rfl)) (fun _ _ _ h => h) (Or.inr ⟨by rfl,rfl⟩) ?_ ?_
        rotate_left
        ·simp only [Act.put,List.setIfInBounds_toArray,List.set_cons_zero,List.set_cons_succ,i64_w,i32_w]
         rfl
        refine pure_ (i:=36) (N:=some 46) (v:=undef) (a':=?_) q37_ rfl rfl (any_of HT_.out (by kernel_rfl)) (fun _ _ _ h => h) (Or.inr ⟨by rfl,rfl⟩) ?_ ?_
        rotate_left
        ·simp only [Act.put,List.setIfInBounds_toArray,List.set_cons_zero,List.set_cons_succ,i64_w,i32_w]
         rfl
        refine pure_ (i:=37) (N:=some 47) (v:=undef) (a':=?_) q38_ rfl rfl (any_of HT_.out (by kernel_rfl)) (fun _ _ _ h => h) (Or.inr ⟨by rfl,rfl⟩) ?_ ?_
        rotate_left
        ·simp only [Act.put,List.setIfInBounds_toArray,List.set_cons_zero,List.set_cons_succ,i64_w,i32_w]
         rfl
        refine pure_ (i:=38) (N:=some 48) (v:=undef) (a':=?_) q39_ rfl rfl (any_of HT_.out (by kernel_rfl)) (fun _ _ _ h => h) (Or.inr ⟨by rfl,rfl⟩) ?_ ?_
        rotate_left
        ·simp only [Act.put,List.setIfInBounds_toArray,List.set_cons_zero,List.set_cons_succ,i64_w,i32_w]
         rfl
        refine pure_ (i:=39) (N:=some 49) (v:=undef) (a':=?_) q49_ rfl rfl (any_of HT_.out (by kernel_rfl)) (fun _ _ _ h => h) (Or.inr ⟨by rfl,rfl⟩) ?_ ?_
        rotate_left
        ·simp only [Act.put,List.setIfInBounds_toArray,List.set_cons_zero,List.set_cons_succ,i64_w,i32_w]
         rfl
        refine pure_ (i:=40) (N:=some 50) (v:=undef) (a':=?_) q50_ rfl rfl (any_of HT_.out (by kernel_rfl)) (fun _ _ _ h => h) (Or.inr ⟨by rfl,rfl⟩) ?_ ?_
        rotate_left
        ·simp only [Act.put,List.setIfInBounds_toArray,List.set_cons_zero,List.set_cons_succ,i64_w,i32_w]
         rfl
        refine pure_ (i:=41) (N:=some 51) (v:=undef) (a':=?_) q51_ rfl rfl (any_of HT_.out (by kernel_rfl)) (fun _ _ _ h => h) (Or.inr ⟨by rfl,rfl⟩) ?_ ?_
        rotate_left
        ·simp only [Act.put,List.setIfInBounds_toArray,List.set_cons_zero,List.set_cons_succ,i64_w,i32_w]
         rfl
        refine pure_ (i:=42) (N:=some 52) (v:=undef) (a':=?_) q52_ rfl rfl (any_of HT_.out (by kernel_rfl)) (fun _ _ _ h => h) (Or.inr ⟨by rfl,rfl⟩) ?_ ?_
        rotate_left
        ·simp only [Act.put,List.setIfInBounds_toArray,List.set_cons_zero,List.set_cons_succ,i64_w,i32_w]
         rfl
        refine pure_ (i:=43) (N:=some 53) (v:=undef) (a':=?_) q44_ rfl rfl (any_of HT_.out (by kernel_rfl)) (fun _ _ _ h => h) (Or.inr ⟨by rfl,rfl⟩) ?_ ?_
        rotate_left
        ·simp only [Act.put,List.setIfInBounds_toArray,List.set_cons_zero,List.set_cons_succ,i64_w,i32_w]
         rfl
        refine pure_ (i:=44) (N:=some 54) (v:=undef) (a':=?_) q45_ rfl rfl (any_of HT_.out (by kernel_rfl)) (fun _ _ _ h => h) (Or.inr ⟨by rfl,rfl⟩) ?_ ?_
        rotate_left
        ·simp only [Act.put,List.setIfInBounds_toArray,List.set_cons_zero,List.set_cons_succ,i64_w,i32_w]
         rfl
        refine pure_ (i:=45) (N:=some 55) (v:=undef) (a':=?_) q46_ rfl rfl (any_of HT_.out (by kernel_rfl)) (fun _ _ _ h => h) (Or.inr ⟨by rfl,rfl⟩) ?_ ?_
        rotate_left
        ·simp only [Act.put,List.setIfInBounds_toArray,List.set_cons_zero,List.set_cons_succ,i64_w,i32_w]
         rfl
        refine pure_ (i:=46) (N:=some 56) (v:=undef) (a':=?_) q47_ rfl rfl (any_of HT_.out (by kernel_rfl)) (fun _ _ _ h => h) (Or.inr ⟨by rfl,rfl⟩) ?_ ?_
        rotate_left
        ·simp only [Act.put,List.setIfInBounds_toArray,List.set_cons_zero,List.set_cons_succ,i64_w,i32_w]
         rfl
        refine pure_ (i:=47) (N:=some 57) (v:=?_) (a':=?_) q48_ rfl rfl (any_of HT_.out (by kernel_rfl)) (fun _ _ _ h => h) (Or.inl ⟨by rfl,?_⟩) ?_ ?_
        rotate_left
        ·intro w';go_simp;with_reducible rfl
        rotate_left
        ·simp only [Act.put,List.setIfInBounds_toArray,List.set_cons_zero,List.set_cons_succ,i64_w,i32_w]
         rfl
        refine done_ (done_of HT_.out (by kernel_rfl)) ?_
        try go_wp2
        go_ret
        exact ⟨by first|rfl|(simp [errW_none,errW_some] <;> rfl)|(simp [*,errW_none,errW_some] <;> rfl),by repeat (first|(with_reducible first|exact HB.out|apply below_alloc|apply pw_below_drewN|apply below_drew1)|exact HB.out)⟩
      ·rw [if_neg c7] at H
       have c7b0 : (((rd_T94 l0 x3_1).f0) == t191) = false:=beq_eq_false_iff_ne.mpr c7
       have c7b1 : (((rd_T94 l0 x3_1).f0) != t191) = true:=bne_iff_ne.mpr c7
       obtain rfl:=Option.some.inj H
       try go_wp2
       have n0_:=Aside0.mk (below_drew1 HB.out)
       clear HB;have HB:=n0_;clear n0_;have p187 : 0 ≤ (x3_1 : Int):=of_decide_eq_true (by first|(with_reducible assumption)|assumption)
       have q187 : x3_1 < (l0.length : Int):=of_decide_eq_true (by first|(with_reducible assumption)|assumption)
       obtain ⟨ad187,A187_2,c187_2,e187,hx187_0,hx187_1,hx187_2,hx187_3,hx187_4,hx187_5,hx187_6,hl187_2,hi187_2⟩:=at_T94 HR0.out x3_1 p187 q187
       have hw187_6:=hx187_6;have hw187_5:=hx187_5;have hw187_4:=hx187_4;have hw187_3:=hx187_3;have hw187_2:=hx187_2;have hw187_1:=hx187_1;have hw187_0:=hx187_0;cases e187
       replace hx187_0:=(HB.out.cell (World.block_lt_of_cell? w _ hx187_0)).trans hx187_0
       replace hx187_1:=(HB.out.cell (World.block_lt_of_cell? w _ hx187_1)).trans hx187_1
       replace hx187_2:=(HB.out.cell (World.block_lt_of_cell? w _ hx187_2)).trans hx187_2
       replace hx187_3:=(HB.out.cell (World.block_lt_of_cell? w _ hx187_3)).trans hx187_3
       replace hx187_4:=(HB.out.cell (World.block_lt_of_cell? w _ hx187_4)).trans hx187_4
       replace hx187_5:=(HB.out.cell (World.block_lt_of_cell? w _ hx187_5)).trans hx187_5
       replace hx187_6:=(HB.out.cell (World.block_lt_of_cell? w _ hx187_6)).trans hx187_6
       have HR187_2:=Aside0.mk hi187_2;have HC187_2:=Aside0.mk hl187_2;clear hi187_2 hl187_2;replace p187:=eq_true p187
       replace q187:=eq_true q187
       have p189 : 0 ≤ (x3_1 : Int):=of_decide_eq_true (by first|(with_reducible assumption)|assumption)
       have q189 : x3_1 < (l0.length : Int):=of_decide_eq_true (by first|(with_reducible assumption)|assumption)
       obtain ⟨ad189,A189_2,c189_2,e189,hx189_0,hx189_1,hx189_2,hx189_3,hx189_4,hx189_5,hx189_6,hl189_2,hi189_2⟩:=at_T94 HR0.out x3_1 p189 q189
       have hw189_6:=hx189_6;have hw189_5:=hx189_5;have hw189_4:=hx189_4;have hw189_3:=hx189_3;have hw189_2:=hx189_2;have hw189_1:=hx189_1;have hw189_0:=hx189_0;obtain rfl : ad187 = ad189:=(by injection e189)
       replace hx189_0:=(HB.out.cell (World.block_lt_of_cell? w _ hx189_0)).trans hx189_0
       replace hx189_1:=(HB.out.cell (World.block_lt_of_cell? w _ hx189_1)).trans hx189_1
       replace hx189_2:=(HB.out.cell (World.block_lt_of_cell? w _ hx189_2)).trans hx189_2
       replace hx189_3:=(HB.out.cell (World.block_lt_of_cell? w _ hx189_3)).trans hx189_3
       replace hx189_4:=(HB.out.cell (World.block_lt_of_cell? w _ hx189_4)).trans hx189_4
       replace hx189_5:=(HB.out.cell (World.block_lt_of_cell? w _ hx189_5)).trans hx189_5
       replace hx189_6:=(HB.out.cell (World.block_lt_of_cell? w _ hx189_6)).trans hx189_6
       have HR189_2:=Aside0.mk hi189_2;have HC189_2:=Aside0.mk hl189_2;clear hi189_2 hl189_2;replace p189:=eq_true p189
       replace q189:=eq_true q189
       have p190 : 0 ≤ (x3_1 : Int):=of_decide_eq_true (by first|(with_reducible assumption)|assumption)
       have q190 : x3_1 < (l0.length : Int):=of_decide_eq_true (by first|(with_reducible assumption)|assumption)
       obtain ⟨ad190,A190_2,c190_2,e190,hx190_0,hx190_1,hx190_2,hx190_3,hx190_4,hx190_5,hx190_6,hl190_2,hi190_2⟩:=at_T94 HR0.out x3_1 p190 q190
       have hw190_6:=hx190_6;have hw190_5:=hx190_5;have hw190_4:=hx190_4;have hw190_3:=hx190_3;have hw190_2:=hx190_2;have hw190_1:=hx190_1;have hw190_0:=hx190_0;obtain rfl : ad187 = ad190:=(by injection e190)
       replace hx190_0:=(HB.out.cell (World.block_lt_of_cell? w _ hx190_0)).trans hx190_0
       replace hx190_1:=(HB.out.cell (World.block_lt_of_cell? w _ hx190_1)).trans hx190_1
       replace hx190_2:=(HB.out.cell (World.block_lt_of_cell? w _ hx190_2)).trans hx190_2
       replace hx190_3:=(HB.out.cell (World.block_lt_of_cell? w _ hx190_3)).trans hx190_3
       replace hx190_4:=(HB.out.cell (World.block_lt_of_cell? w _ hx190_4)).trans hx190_4
       replace hx190_5:=(HB.out.cell (World.block_lt_of_cell? w _ hx190_5)).trans hx190_5
       replace hx190_6:=(HB.out.cell (World.block_lt_of_cell? w _ hx190_6)).trans hx190_6
       have HR190_2:=Aside0.mk hi190_2;have HC190_2:=Aside0.mk hl190_2;clear hi190_2 hl190_2;replace p190:=eq_true p190
       replace q190:=eq_true q190
       have ea_:=Option.some.inj (hx189_2.symm.trans hx190_2)
       injection ea_ with ea_ en_ ec_
       subst ea_
       subst ec_
       clear en_;refine start_ (n:=48) (S:=fun w' => w'.cell? (ad187.add ((x3_1).toNat * 7)) = some (.int .i64 ((rd_T94 l0 x3_1).f0)) ∧ w'.cell? ⟨(ad187.add ((x3_1).toNat * 7)).block,(ad187.add ((x3_1).toNat * 7)).off + 1,none⟩ = some (.int .i64 ((rd_T94 l0 x3_1).f1.f0)) ∧ w'.cell? ⟨(ad187.add ((x3_1).toNat * 7)).block,(ad187.add ((x3_1).toNat * 7)).off + 2,none⟩ = some (.slice A187_2 ((rd_T94 l0 x3_1).f1.f1).length c187_2) ∧ w'.cell? ⟨(ad187.add ((x3_1).toNat * 7)).block,(ad187.add ((x3_1).toNat * 7)).off + 3,none⟩ = some (.int .i64 ((rd_T94 l0 x3_1).f1.f2.f0)) ∧ w'.cell? ⟨(ad187.add ((x3_1).toNat * 7)).block,(ad187.add ((x3_1).toNat * 7)).off + 4,none⟩ = some (.int .i64 ((rd_T94 l0 x3_1).f1.f2.f1)) ∧ w'.cell? ⟨(ad187.add ((x3_1).toNat * 7)).block,(ad187.add ((x3_1).toNat * 7)).off + 5,none⟩ = some (.int .i64 ((rd_T94 l0 x3_1).f1.f2.f2)) ∧ w'.cell? ⟨(ad187.add ((x3_1).toNat * 7)).block,(ad187.add ((x3_1).toNat * 7)).off + 6,none⟩ = some (.int .i64 ((rd_T94 l0 x3_1).f2)) ∧ w'.cell? (ad187.add ((x3_1).toNat * 7)) = some (.int .i64 ((rd_T94 l0 x3_1).f0)) ∧ w'.cell? ⟨(ad187.add ((x3_1).toNat * 7)).block,(ad187.add ((x3_1).toNat * 7)).off + 1,none⟩ = some (.int .i64 ((rd_T94 l0 x3_1).f1.f0)) ∧ w'.cell? ⟨(ad187.add ((x3_1).toNat * 7)).block,(ad187.add ((x3_1).toNat * 7)).off + 2,none⟩ = some (.slice A189_2 ((rd_T94 l0 x3_1).f1.f1).length c189_2) ∧ w'.cell? ⟨(ad187.add ((x3_1).toNat * 7)).block,(ad187.add ((x3_1).toNat * 7)).off + 3,none⟩ = some (.int .i64 ((rd_T94 l0 x3_1).f1.f2.f0)) ∧ w'.cell? ⟨(ad187.add ((x3_1).toNat * 7)).block,(ad187.add ((x3_1).toNat * 7)).off + 4,none⟩ = some (.int .i64 ((rd_T94 l0 x3_1).f1.f2.f1)) ∧ w'.cell? ⟨(ad187.add ((x3_1).toNat * 7)).block,(ad187.add ((x3_1).toNat * 7)).off + 5,none⟩ = some (.int .i64 ((rd_T94 l0 x3_1).f1.f2.f2)) ∧ w'.cell? ⟨(ad187.add ((x3_1).toNat * 7)).block,(ad187.add ((x3_1).toNat * 7)).off + 6,none⟩ = some (.int .i64 ((rd_T94 l0 x3_1).f2)) ∧ w'.cell? (ad187.add ((x3_1).toNat * 7)) = some (.int .i64 ((rd_T94 l0 x3_1).f0)) ∧ w'.cell? ⟨(ad187.add ((x3_1).toNat * 7)).block,(ad187.add ((x3_1).toNat * 7)).off + 1,none⟩ = some (.int .i64 ((rd_T94 l0 x3_1).f1.f0)) ∧ w'.cell? ⟨(ad187.add ((x3_1).toNat * 7)).block,(ad187.add ((x3_1).toNat * 7)).off + 2,none⟩ = some (.slice A189_2 ((rd_T94 l0 x3_1).f1.f1).length c189_2) ∧ w'.cell? ⟨(ad187.add ((x3_1).toNat * 7)).block,(ad187.add ((x3_1).toNat * 7)).off + 3,none⟩ = some (.int .i64 ((rd_T94 l0 x3_1).f1.f2.f0)) ∧ w'.cell? ⟨(ad187.add ((x3_1).toNat * 7)).block,(ad187.add ((x3_1).toNat * 7)).off + 4,none⟩ = some (.int .i64 ((rd_T94 l0 x3_1).f1.f2.f1)) ∧ w'.cell? ⟨(ad187.add ((x3_1).toNat * 7)).block,(ad187.add ((x3_1).toNat * 7)).off + 5,none⟩ = some (.int .i64 ((rd_T94 l0 x3_1).f1.f2.f2)) ∧ w'.cell? ⟨(ad187.add ((x3_1).toNat * 7)).block,(ad187.add ((x3_1).toNat * 7)).off + 6,none⟩ = some (.int .i64 ((rd_T94 l0 x3_1).f2))) (ds:=[]) q0_ (by kernel_rfl) rfl rfl ⟨((HB.out.cell (World.block_lt_of_cell? w _ hw187_0)).trans hw187_0),((HB.out.cell (World.block_lt_of_cell? w _ hw187_1)).trans hw187_1),((HB.out.cell (World.block_lt_of_cell? w _ hw187_2)).trans hw187_2),((HB.out.cell (World.block_lt_of_cell? w _ hw187_3)).trans hw187_3),((HB.out.cell (World.block_lt_of_cell? w _ hw187_4)).trans hw187_4),((HB.out.cell (World.block_lt_of_cell? w _ hw187_5)).trans hw187_5),((HB.out.cell (World.block_lt_of_cell? w _ hw187_6)).trans hw187_6),((HB.out.cell (World.block_lt_of_cell? w _ hw189_0)).trans hw189_0),((HB.out.cell (World.block_lt_of_cell? w _ hw189_1)).trans hw189_1),((HB.out.cell (World.block_lt_of_cell? w _ hw189_2)).trans hw189_2),((HB.out.cell (World.block_lt_of_cell? w _ hw189_3)).trans hw189_3),((HB.out.cell (World.block_lt_of_cell? w _ hw189_4)).trans hw189_4),((HB.out.cell (World.block_lt_of_cell? w _ hw189_5)).trans hw189_5),((HB.out.cell (World.block_lt_of_cell? w _ hw189_6)).trans hw189_6),((HB.out.cell (World.block_lt_of_cell? w _ hw190_0)).trans hw190_0),((HB.out.cell (World.block_lt_of_cell? w _ hw190_1)).trans hw190_1),((HB.out.cell (World.block_lt_of_cell? w _ hw190_2)).trans hw190_2),((HB.out.cell (World.block_lt_of_cell? w _ hw190_3)).trans hw190_3),((HB.out.cell (World.block_lt_of_cell? w _ hw190_4)).trans hw190_4),((HB.out.cell (World.block_lt_of_cell? w _ hw190_5)).trans hw190_5),((HB.out.cell (World.block_lt_of_cell? w _ hw190_6)).trans hw190_6)⟩ (fun hHeld => ?_);refine with_tabW spec_IsStore.tab4 spec_IsStore.bits4 (fun HT_ HW_ => ?_)
       generalize wr.drew = w27 at HB HR187_2 HR189_2 HR190_2 hx187_0 hx187_1 hx187_2 hx187_3 hx187_4 hx187_5 hx187_6 hx189_0 hx189_1 hx189_2 hx189_3 hx189_4 hx189_5 hx189_6 hx190_0 hx190_1 hx190_2 hx190_3 hx190_4 hx190_5 hx190_6 hHeld ⊢
       refine pure_ (i:=0) (N:=some 10) (v:=?_) (a':=?_) q1_ rfl rfl (any_of HT_.out (by kernel_rfl)) (fun _ _ _ h => h) (Or.inl ⟨by rfl,?_⟩) ?_ ?_
       rotate_left
       ·intro w';go_simp;with_reducible rfl
       rotate_left
       ·simp only [Act.put,List.setIfInBounds_toArray,List.set_cons_zero,List.set_cons_succ,i64_w,i32_w]
        rfl
       refine pure_ (i:=1) (N:=some 11) (v:=?_) (a':=?_) q2_ rfl rfl (any_of HT_.out (by kernel_rfl)) (fun _ _ _ h => h) (Or.inl ⟨by rfl,?_⟩) ?_ ?_
       rotate_left
       ·intro w';go_simp;with_reducible rfl
       rotate_left
       ·simp only [Act.put,List.setIfInBounds_toArray,List.set_cons_zero,List.set_cons_succ,i64_w,i32_w]
        rfl
       refine pure_ (i:=2) (N:=some 12) (v:=?_) (a':=?_) q3_ rfl rfl (any_of HT_.out (by kernel_rfl)) (fun _ _ _ h => h) (Or.inl ⟨by rfl,?_⟩) ?_ ?_
       rotate_left
       ·intro w';go_simp;with_reducible rfl
       rotate_left
       ·simp only [Act.put,List.setIfInBounds_toArray,List.set_cons_zero,List.set_cons_succ,i64_w,i32_w]
        rfl
       refine pure_ (i:=3) (N:=some 13) (v:=?_) (a':=?_) q4_ rfl rfl (any_of HT_.out (by kernel_rfl)) (fun _ _ _ h => h) (Or.inl ⟨by rfl,?_⟩) ?_ ?_
       rotate_left
       ·intro w';go_simp;with_reducible rfl
       rotate_left
       ·simp only [Act.put,List.setIfInBounds_toArray,List.set_cons_zero,List.set_cons_succ,i64_w,i32_w]
        rfl
       refine take_ (i:=4) (N:=some 14) (v:=?_) (a':=?_) q5_ rfl rfl (take_ofW HT_.out HW_.out (by kernel_rfl)) (fun _ _ _ h => h) (Or.inl ⟨by rfl,?_⟩) hHeld ?_ ?_
       rotate_left
       ·rintro w' ⟨s0,s1,s2,s3,s4,s5,s6,s7,s8,s9,s10,s11,s12,s13,s14,s15,s16,s17,s18,s19,s20⟩
        go_simp;with_reducible rfl
       rotate_left
       ·simp only [Act.put,List.setIfInBounds_toArray,List.set_cons_zero,List.set_cons_succ,i64_w,i32_w]
        rfl
       refine one_ (i:=5) (N:=some 15) q6_ rfl rfl (one_of HT_.out (by kernel_rfl)) (by decide) (fun K hK => ?_)
       refine goes_ Try.func69 (by kernel_rfl) rfl #[.agg #[.int .i64 ((rd_T94 l0 x3_1).f1.f0),.slice A187_2 ((rd_T94 l0 x3_1).f1.f1).length c187_2,.int .i64 ((rd_T94 l0 x3_1).f1.f2.f0),.int .i64 ((rd_T94 l0 x3_1).f1.f2.f1),.int .i64 ((rd_T94 l0 x3_1).f1.f2.f2)]] (by rfl) rfl rfl (by (try simp only [List.map_toArray,List.map_cons,List.map_nil]);first|done|rfl|(simp only [List.length_drop,List.length_take];rfl)) ?_
       with_reducible refine (spec_IsResource.calls k1 ((rd_T94 l0 x3_1).f1.f0) _ _ ((rd_T94 l0 x3_1).f1.f1) ((rd_T94 l0 x3_1).f1.f2.f0) ((rd_T94 l0 x3_1).f1.f2.f1) ((rd_T94 l0 x3_1).f1.f2.f2) true _ ?side1 ?side2 A4.out).mono ?_
       (case side1 => repeat (first|exact (Kd.C_below HR187_2.out HB.out)|(with_reducible refine Kd.C_alloc ?_ _)|(with_reducible refine Kd.C_drewN ?_ _)|(with_reducible refine Kd.C_drew ?_)))
       (case side2 => exact HC187_2.out)
       rintro e w28 ⟨rfl,hb⟩
       refine ⟨_,rfl,?_⟩
       have n0_:=Aside0.mk (below_step (by repeat (first|(with_reducible first|exact HB.out|apply below_alloc|apply pw_below_drewN|apply below_drew1)|exact HB.out)) hb)
       clear HB;have HB:=n0_;clear n0_;(try clear hb);refine hK.out _ _ ⟨((HB.out.cell (World.block_lt_of_cell? w _ hw187_0)).trans hw187_0),((HB.out.cell (World.block_lt_of_cell? w _ hw187_1)).trans hw187_1),((HB.out.cell (World.block_lt_of_cell? w _ hw187_2)).trans hw187_2),((HB.out.cell (World.block_lt_of_cell? w _ hw187_3)).trans hw187_3),((HB.out.cell (World.block_lt_of_cell? w _ hw187_4)).trans hw187_4),((HB.out.cell (World.block_lt_of_cell? w _ hw187_5)).trans hw187_5),((HB.out.cell (World.block_lt_of_cell? w _ hw187_6)).trans hw187_6),((HB.out.cell (World.block_lt_of_cell? w _ hw189_0)).trans hw189_0),((HB.out.cell (World.block_lt_of_cell? w _ hw189_1)).trans hw189_1),((HB.out.cell (World.block_lt_of_cell? w _ hw189_2)).trans hw189_2),((HB.out.cell (World.block_lt_of_cell? w _ hw189_3)).trans hw189_3),((HB.out.cell (World.block_lt_of_cell? w _ hw189_4)).trans hw189_4),((HB.out.cell (World.block_lt_of_cell? w _ hw189_5)).trans hw189_5),((HB.out.cell (World.block_lt_of_cell? w _ hw189_6)).trans hw189_6),((HB.out.cell (World.block_lt_of_cell? w _ hw190_0)).trans hw190_0),((HB.out.cell (World.block_lt_of_cell? w _ hw190_1)).trans hw190_1),((HB.out.cell (World.block_lt_of_cell? w _ hw190_2)).trans hw190_2),((HB.out.cell (World.block_lt_of_cell? w _ hw190_3)).trans hw190_3),((HB.out.cell (World.block_lt_of_cell? w _ hw190_4)).trans hw190_4),((HB.out.cell (World.block_lt_of_cell? w _ hw190_5)).trans hw190_5),((HB.out.cell (World.block_lt_of_cell? w _ hw190_6)).trans hw190_6)⟩ (fun hHeld => ?_)
       clear hK K;refine norm_ (a':=?_) ?_ ?_
       rotate_left
       ·show Act.put _ (some 15) _ = _
        simp only [Act.put,List.setIfInBounds_toArray,List.set_cons_zero,List.set_cons_succ,i64_w,i32_w]
        rfl
       refine pure_ (i:=6) (N:=some 16) (v:=?_) (a':=?_) q7_ rfl rfl (any_of HT_.out (by kernel_rfl)) (fun _ _ _ h => h) (Or.inl ⟨by rfl,?_⟩) ?_ ?_
       rotate_left
       ·intro w';go_simp;with_reducible rfl
       rotate_left
       ·simp only [Act.put,List.setIfInBounds_toArray,List.set_cons_zero,List.set_cons_succ,i64_w,i32_w]
        rfl
       refine pure_ (i:=7) (N:=some 17) (v:=?_) (a':=?_) q8_ rfl rfl (any_of HT_.out (by kernel_rfl)) (fun _ _ _ h => h) (Or.inl ⟨by rfl,?_⟩) ?_ ?_
       rotate_left
       ·intro w';go_simp;with_reducible rfl
       rotate_left
       ·simp only [Act.put,List.setIfInBounds_toArray,List.set_cons_zero,List.set_cons_succ,i64_w,i32_w]
        rfl
       refine pure_ (i:=8) (N:=some 18) (v:=?_) (a':=?_) q9_ rfl rfl (any_of HT_.out (by kernel_rfl)) (fun _ _ _ h => h) (Or.inl ⟨by rfl,?_⟩) ?_ ?_
       rotate_left
       ·intro w';go_simp;with_reducible rfl
       rotate_left
       ·simp only [Act.put,List.setIfInBounds_toArray,List.set_cons_zero,List.set_cons_succ,i64_w,i32_w]
        rfl
       refine pure_ (i:=9) (N:=some 19) (v:=?_) (a':=?_) q10_ rfl rfl (any_of HT_.out (by kernel_rfl)) (fun _ _ _ h => h) (Or.inl ⟨by rfl,?_⟩) ?_ ?_
       rotate_left
       ·intro w';go_simp;with_reducible rfl
       rotate_left
       ·simp only [Act.put,List.setIfInBounds_toArray,List.set_cons_zero,List.set_cons_succ,i64_w,i32_w]
        rfl
       refine pure_ (i:=10) (N:=some 20) (v:=?_) (a':=?_) q11_ rfl rfl (any_of HT_.out (by kernel_rfl)) (fun _ _ _ h => h) (Or.inl ⟨by rfl,?_⟩) ?_ ?_
       rotate_left
       ·intro w';go_simp;with_reducible rfl
       rotate_left
       ·simp only [Act.put,List.setIfInBounds_toArray,List.set_cons_zero,List.set_cons_succ,i64_w,i32_w]
        rfl
       refine pure_ (i:=11) (N:=some 21) (v:=?_) (a':=?_) q12_ rfl rfl (any_of HT_.out (by kernel_rfl)) (fun _ _ _ h => h) (Or.inl ⟨by rfl,?_⟩) ?_ ?_
       rotate_left
       ·intro w';go_simp;with_reducible rfl
       rotate_left
       ·simp only [Act.put,List.setIfInBounds_toArray,List.set_cons_zero,List.set_cons_succ,i64_w,i32_w]
        rfl
       refine pure_ (i:=13) (N:=some 23) (v:=?_) (a':=?_) q13_ rfl rfl (any_of HT_.out (by kernel_rfl)) (fun _ _ _ h => h) (Or.inl ⟨by rfl,?_⟩) ?_ ?_
       rotate_left
       ·intro w';go_simp;with_reducible rfl
       rotate_left
       ·simp only [Act.put,List.setIfInBounds_toArray,List.set_cons_zero,List.set_cons_succ,i64_w,i32_w]
        rfl
       refine pure_ (i:=14) (N:=some 24) (v:=?_) (a':=?_) q14_ rfl rfl (any_of HT_.out (by kernel_rfl)) (fun _ _ _ h => h) (Or.inl ⟨by rfl,?_⟩) ?_ ?_
       rotate_left
       ·intro w';go_simp;with_reducible rfl
       rotate_left
       ·simp only [Act.put,List.setIfInBounds_toArray,List.set_cons_zero,List.set_cons_succ,i64_w,i32_w]
        rfl
       refine pure_ (i:=15) (N:=some 25) (v:=?_) (a':=?_) q15_ rfl rfl (any_of HT_.out (by kernel_rfl)) (fun _ _ _ h => h) (Or.inl ⟨by rfl,?_⟩) ?_ ?_
       rotate_left
       ·intro w';go_simp;with_reducible rfl
       rotate_left
       ·simp only [Act.put,List.setIfInBounds_toArray,List.set_cons_zero,List.set_cons_succ,i64_w,i32_w]
        rfl
       refine pure_ (i:=16) (N:=some 26) (v:=?_) (a':=?_) q16_ rfl rfl (any_of HT_.out (by kernel_rfl)) (fun _ _ _ h => h) (Or.inl ⟨by rfl,?_⟩) ?_ ?_
       rotate_left
       ·intro w';go_simp;with_reducible rfl
       rotate_left
       ·simp only [Act.put,List.setIfInBounds_toArray,List.set_cons_zero,List.set_cons_succ,i64_w,i32_w]
        rfl
       refine take_ (i:=12) (N:=some 22) (v:=?_) (a':=?_) q17_ rfl rfl (take_ofW HT_.out HW_.out (by kernel_rfl)) (fun _ _ _ h => h) (Or.inl ⟨by rfl,?_⟩) hHeld ?_ ?_
       rotate_left
       ·rintro w' ⟨s0,s1,s2,s3,s4,s5,s6,s7,s8,s9,s10,s11,s12,s13,s14,s15,s16,s17,s18,s19,s20⟩
        go_simp;with_reducible rfl
       rotate_left
       ·simp only [Act.put,List.setIfInBounds_toArray,List.set_cons_zero,List.set_cons_succ,i64_w,i32_w]
        rfl
       refine take_ (i:=17) (N:=some 27) (v:=?_) (a':=?_) q18_ rfl rfl (take_ofW HT_.out HW_.out (by kernel_rfl)) (fun _ _ _ h => h) (Or.inl ⟨by rfl,?_⟩) hHeld ?_ ?_
       rotate_left
       ·rintro w' ⟨s0,s1,s2,s3,s4,s5,s6,s7,s8,s9,s10,s11,s12,s13,s14,s15,s16,s17,s18,s19,s20⟩
        go_simp;with_reducible rfl
       rotate_left
       ·simp only [Act.put,List.setIfInBounds_toArray,List.set_cons_zero,List.set_cons_succ,i64_w,i32_w]
        rfl
       refine one_ (i:=18) (N:=some 28) q19_ rfl rfl (one_of HT_.out (by kernel_rfl)) (by decide) (fun K hK => ?_)
       refine goes_ Try.func70 (by kernel_rfl) rfl #[.agg #[.int .i64 ((rd_T94 l0 x3_1).f1.f0),.slice A187_2 ((rd_T94 l0 x3_1).f1.f1).length c187_2,.int .i64 ((rd_T94 l0 x3_1).f1.f2.f0),.int .i64 ((rd_T94 l0 x3_1).f1.f2.f1),.int .i64 ((rd_T94 l0 x3_1).f1.f2.f2)]] (by rfl) rfl rfl (by (try simp only [List.map_toArray,List.map_cons,List.map_nil]);first|done|rfl|(simp only [List.length_drop,List.length_take];rfl)) ?_
       with_reducible refine (spec_DigestOf.calls k1 ((rd_T94 l0 x3_1).f1.f0) _ _ ((rd_T94 l0 x3_1).f1.f1) ((rd_T94 l0 x3_1).f1.f2.f0) ((rd_T94 l0 x3_1).f1.f2.f1) ((rd_T94 l0 x3_1).f1.f2.f2) t191 _ ?side1 ?side2 A6.out).mono ?_
       (case side1 => repeat (first|exact (Kd.C_below HR187_2.out HB.out)|(with_reducible refine Kd.C_alloc ?_ _)|(with_reducible refine Kd.C_drewN ?_ _)|(with_reducible refine Kd.C_drew ?_)))
       (case side2 => exact HC187_2.out)
       rintro e w29 ⟨rfl,hb⟩
       refine ⟨_,rfl,?_⟩
       have n0_:=Aside0.mk (below_step (by repeat (first|(with_reducible first|exact HB.out|apply below_alloc|apply pw_below_drewN|apply below_drew1)|exact HB.out)) hb)
       clear HB;have HB:=n0_;clear n0_;(try clear hb);refine hK.out _ _ ⟨((HB.out.cell (World.block_lt_of_cell? w _ hw187_0)).trans hw187_0),((HB.out.cell (World.block_lt_of_cell? w _ hw187_1)).trans hw187_1),((HB.out.cell (World.block_lt_of_cell? w _ hw187_2)).trans hw187_2),((HB.out.cell (World.block_lt_of_cell? w _ hw187_3)).trans hw187_3),((HB.out.cell (World.block_lt_of_cell? w _ hw187_4)).trans hw187_4),((HB.out.cell (World.block_lt_of_cell? w _ hw187_5)).trans hw187_5),((HB.out.cell (World.block_lt_of_cell? w _ hw187_6)).trans hw187_6),((HB.out.cell (World.block_lt_of_cell? w _ hw189_0)).trans hw189_0),((HB.out.cell (World.block_lt_of_cell? w _ hw189_1)).trans hw189_1),((HB.out.cell (World.block_lt_of_cell? w _ hw189_2)).trans hw189_2),((HB.out.cell (World.block_lt_of_cell? w _ hw189_3)).trans hw189_3),((HB.out.cell (World.block_lt_of_cell? w _ hw189_4)).trans hw189_4),((HB.out.cell (World.block_lt_of_cell? w _ hw189_5)).trans hw189_5),((HB.out.cell (World.block_lt_of_cell? w _ hw189_6)).trans hw189_6),((HB.out.cell (World.block_lt_of_cell? w _ hw190_0)).trans hw190_0),((HB.out.cell (World.block_lt_of_cell? w _ hw190_1)).trans hw190_1),((HB.out.cell (World.block_lt_of_cell? w _ hw190_2)).trans hw190_2),((HB.out.cell (World.block_lt_of_cell? w _ hw190_3)).trans hw190_3),((HB.out.cell (World.block_lt_of_cell? w _ hw190_4)).trans hw190_4),((HB.out.cell (World.block_lt_of_cell? w _ hw190_5)).trans hw190_5),((HB.out.cell (World.block_lt_of_cell? w _ hw190_6)).trans hw190_6)⟩ (fun hHeld => ?_)
       clear hK K;refine norm_ (a':=?_) ?_ ?_
       rotate_left
       ·show Act.put _ (some 28) _ = _
        simp only [Act.put,List.setIfInBounds_toArray,List.set_cons_zero,List.set_cons_succ,i64_w,i32_w]
        rfl
       refine pure_ (i:=19) (N:=some 29) (v:=?_) (a':=?_) q20_ rfl rfl (any_of HT_.out (by kernel_rfl)) (fun _ _ _ h => h) (Or.inl ⟨by rfl,?_⟩) ?_ ?_
       rotate_left
       ·intro w';go_simp;with_reducible rfl
       rotate_left
       ·simp only [Act.put,List.setIfInBounds_toArray,List.set_cons_zero,List.set_cons_succ,i64_w,i32_w]
        rfl
       refine pure_ (i:=20) (N:=some 30) (v:=?_) (a':=?_) q21_ rfl rfl (any_of HT_.out (by kernel_rfl)) (fun _ _ _ h => h) (Or.inl ⟨by rfl,?_⟩) ?_ ?_
       rotate_left
       ·intro w';go_simp;with_reducible rfl
       rotate_left
       ·simp only [Act.put,List.setIfInBounds_toArray,List.set_cons_zero,List.set_cons_succ,i64_w,i32_w]
        rfl
       refine pure_ (i:=21) (N:=some 31) (v:=?_) (a':=?_) q22_ rfl rfl (any_of HT_.out (by kernel_rfl)) (fun _ _ _ h => h) (Or.inl ⟨by rfl,?_⟩) ?_ ?_
       rotate_left
       ·intro w';go_simp;with_reducible rfl
       rotate_left
       ·simp only [Act.put,List.setIfInBounds_toArray,List.set_cons_zero,List.set_cons_succ,i64_w,i32_w]
        rfl
       refine pure_ (i:=22) (N:=some 32) (v:=undef) (a':=?_) q23_ rfl rfl (any_of HT_.out (by kernel_rfl)) (fun _ _ _ h => h) (Or.inr ⟨by rfl,rfl⟩) ?_ ?_
       rotate_left
       ·simp only [Act.put,List.setIfInBounds_toArray,List.set_cons_zero,List.set_cons_succ,i64_w,i32_w]
        rfl
       refine pure_ (i:=23) (N:=some 33) (v:=undef) (a':=?_) q24_ rfl rfl (any_of HT_.out (by kernel_rfl)) (fun _ _ _ h => h) (Or.inr ⟨by rfl,rfl⟩) ?_ ?_
       rotate_left
       ·simp only [Act.put,List.setIfInBounds_toArray,List.set_cons_zero,List.set_cons_succ,i64_w,i32_w]
        rfl
       refine pure_ (i:=24) (N:=some 34) (v:=undef) (a':=?_) q25_ rfl rfl (any_of HT_.out (by kernel_rfl)) (fun _ _ _ h => h) (Or.inr ⟨by rfl,rfl⟩) ?_ ?_
       rotate_left
       ·simp only [Act.put,List.setIfInBounds_toArray,List.set_cons_zero,List.set_cons_succ,i64_w,i32_w]
        rfl
       refine pure_ (i:=25) (N:=some 35) (v:=undef) (a':=?_) q26_ rfl rfl (any_of HT_.out (by kernel_rfl)) (fun _ _ _ h => h) (Or.inr ⟨by rfl,rfl⟩) ?_ ?_
       rotate_left
       ·simp only [Act.put,List.setIfInBounds_toArray,List.set_cons_zero,List.set_cons_succ,i64_w,i32_w]
        rfl
       refine pure_ (i:=26) (N:=some 36) (v:=undef) (a':=?_) q27_ rfl rfl (any_of HT_.out (by kernel_rfl)) (fun _ _ _ h => h) (Or.inr ⟨by rfl,rfl⟩) ?_ ?_
       rotate_left
       ·simp only [Act.put,List.setIfInBounds_toArray,List.set_cons_zero,List.set_cons_succ,i64_w,i32_w]
        rfl
       refine pure_ (i:=27) (N:=some 37) (v:=undef) (a':=?_) q28_ rfl rfl (any_of HT_.out (by kernel_rfl)) (fun _ _ _ h => h) (Or.inr ⟨by rfl,rfl⟩) ?_ ?_
       rotate_left
       ·simp only [Act.put,List.setIfInBounds_toArray,List.set_cons_zero,List.set_cons_succ,i64_w,i32_w]
        rfl
       refine pure_ (i:=28) (N:=some 38) (v:=undef) (a':=?_) q29_ rfl rfl (any_of HT_.out (by kernel_rfl)) (fun _ _ _ h => h) (Or.inr ⟨by rfl,rfl⟩) ?_ ?_
       rotate_left
       ·simp only [Act.put,List.setIfInBounds_toArray,List.set_cons_zero,List.set_cons_succ,i64_w,i32_w]
        rfl
       refine pure_ (i:=29) (N:=some 39) (v:=?_) (a':=?_) q30_ rfl rfl (any_of HT_.out (by kernel_rfl)) (fun _ _ _ h => h) (Or.inl ⟨by rfl,?_⟩) ?_ ?_
       rotate_left
       ·intro w';go_simp;with_reducible rfl
       rotate_left
       ·simp only [Act.put,List.setIfInBounds_toArray,List.set_cons_zero,List.set_cons_succ,i64_w,i32_w]
        rfl
       refine pure_ (i:=30) (N:=some 40) (v:=?_) (a':=?_) q31_ rfl rfl (any_of HT_.out (by kernel_rfl)) (fun _ _ _ h => h) (Or.inl ⟨by rfl,?_⟩) ?_ ?_
       rotate_left
       ·intro w';go_simp;with_reducible rfl
       rotate_left
       ·simp only [Act.put,List.setIfInBounds_toArray,List.set_cons_zero,List.set_cons_succ,i64_w,i32_w]
        rfl
       refine pure_ (i:=31) (N:=some 41) (v:=undef) (a':=?_) q32_ rfl rfl (any_of HT_.out (by kernel_rfl)) (fun _ _ _ h => h) (Or.inr ⟨by rfl,rfl⟩) ?_ ?_
       rotate_left
       ·simp only [Act.put,List.setIfInBounds_toArray,List.set_cons_zero,List.set_cons_succ,i64_w,i32_w]
        rfl
       refine pure_ (i:=32) (N:=some 42) (v:=undef) (a':=?_) q33_ rfl rfl (any_of HT_.out (by kernel_rfl)) (fun _ _ _ h => h) (Or.inr ⟨by rfl,rfl⟩) ?_ ?_
       rotate_left
       ·simp only [Act.put,List.setIfInBounds_toArray,List.set_cons_zero,List.set_cons_succ,i64_w,i32_w]
        rfl
       refine pure_ (i:=33) (N:=some 43) (v:=undef) (a':=?_) q34_ rfl rfl (any_of HT_.out (by kernel_rfl)) (fun _ _ _ h => h) (Or.inr ⟨by rfl,rfl⟩) ?_ ?_
       rotate_left
       ·simp only [Act.put,List.setIfInBounds_toArray,List.set_cons_zero,List.set_cons_succ,i64_w,i32_w]
        rfl
       refine pure_ (i:=34) (N:=some 44) (v:=undef) (a':=?_) q35_ rfl rfl (any_of HT_.out (by kernel_rfl)) (fun _ _ _ h => h) (Or.inr ⟨by rfl,rfl⟩) ?_ ?_
       rotate_left
       ·simp only [Act.put,List.setIfInBounds_toArray,List.set_cons_zero,List.set_cons_succ,i64_w,i32_w]
        rfl
       refine pure_ (i:=35) (N:=some 45) (v:=undef) (a':=?_) q36_ rfl rfl (any_of HT_.out (by kernel_rfl)) (fun _ _ _ h => h) (Or.inr ⟨by rfl,rfl⟩) ?_ ?_
       rotate_left
       ·simp only [Act.put,List.setIfInBounds_toArray,List.set_cons_zero,List.set_cons_succ,i64_w,i32_w]
        rfl
       refine pure_ (i:=36) (N:=some 46) (v:=undef) (a':=?_) q37_ rfl rfl (any_of HT_.out (by kernel_rfl)) (fun _ _ _ h => h) (Or.inr ⟨by rfl,rfl⟩) ?_ ?_
       rotate_left
       ·simp only [Act.put,List.setIfInBounds_toArray,List.set_cons_zero,List.set_cons_succ,i64_w,i32_w]
        rfl
       refine pure_ (i:=37) (N:=some 47) (v:=undef) (a':=?_) q38_ rfl rfl (any_of HT_.out (by kernel_rfl)) (fun _ _ _ h => h) (Or.inr ⟨by rfl,rfl⟩) ?_ ?_
       rotate_left
       ·simp only [Act.put,List.setIfInBounds_toArray,List.set_cons_zero,List.set_cons_succ,i64_w,i32_w]
        rfl
       refine pure_ (i:=38) (N:=some 48) (v:=undef) (a':=?_) q39_ rfl rfl (any_of HT_.out (by kernel_rfl)) (fun _ _ _ h => h) (Or.inr ⟨by rfl,rfl⟩) ?_ ?_
       rotate_left
       ·simp only [Act.put,List.setIfInBounds_toArray,List.set_cons_zero,List.set_cons_succ,i64_w,i32_w]
        rfl
       refine pure_ (i:=39) (N:=some 49) (v:=undef) (a':=?_) q49_ rfl rfl (any_of HT_.out (by kernel_rfl)) (fun _ _ _ h => h) (Or.inr ⟨by rfl,rfl⟩) ?_ ?_
       rotate_left
       ·simp only [Act.put,List.setIfInBounds_toArray,List.set_cons_zero,List.set_cons_succ,i64_w,i32_w]
        rfl
       refine pure_ (i:=40) (N:=some 50) (v:=undef) (a':=?_) q50_ rfl rfl (any_of HT_.out (by kernel_rfl)) (fun _ _ _ h => h) (Or.inr ⟨by rfl,rfl⟩) ?_ ?_
       rotate_left
       ·simp only [Act.put,List.setIfInBounds_toArray,List.set_cons_zero,List.set_cons_succ,i64_w,i32_w]
        rfl
       refine pure_ (i:=41) (N:=some 51) (v:=undef) (a':=?_) q51_ rfl rfl (any_of HT_.out (by kernel_rfl)) (fun _ _ _ h => h) (Or.inr ⟨by rfl,rfl⟩) ?_ ?_
       rotate_left
       ·simp only [Act.put,List.setIfInBounds_toArray,List.set_cons_zero,List.set_cons_succ,i64_w,i32_w]
        rfl
       refine pure_ (i:=42) (N:=some 52) (v:=undef) (a':=?_) q52_ rfl rfl (any_of HT_.out (by kernel_rfl)) (fun _ _ _ h => h) (Or.inr ⟨by rfl,rfl⟩) ?_ ?_
       rotate_left
       ·simp only [Act.put,List.setIfInBounds_toArray,List.set_cons_zero,List.set_cons_succ,i64_w,i32_w]
        rfl
       refine pure_ (i:=43) (N:=some 53) (v:=undef) (a':=?_) q44_ rfl rfl (any_of HT_.out (by kernel_rfl)) (fun _ _ _ h => h) (Or.inr ⟨by rfl,rfl⟩) ?_ ?_
       rotate_left
       ·simp only [Act.put,List.setIfInBounds_toArray,List.set_cons_zero,List.set_cons_succ,i64_w,i32_w]
        rfl
       refine pure_ (i:=44) (N:=some 54) (v:=undef) (a':=?_) q45_ rfl rfl (any_of HT_.out (by kernel_rfl)) (fun _ _ _ h => h) (Or.inr ⟨by rfl,rfl⟩) ?_ ?_
       rotate_left
       ·simp only [Act.put,List.setIfInBounds_toArray,List.set_cons_zero,List.set_cons_succ,i64_w,i32_w]
        rfl
       refine pure_ (i:=45) (N:=some 55) (v:=undef) (a':=?_) q46_ rfl rfl (any_of HT_.out (by kernel_rfl)) (fun _ _ _ h => h) (Or.inr ⟨by rfl,rfl⟩) ?_ ?_
       rotate_left
       ·simp only [Act.put,List.setIfInBounds_toArray,List.set_cons_zero,List.set_cons_succ,i64_w,i32_w]
        rfl
       refine pure_ (i:=46) (N:=some 56) (v:=undef) (a':=?_) q47_ rfl rfl (any_of HT_.out (by kernel_rfl)) (fun _ _ _ h => h) (Or.inr ⟨by rfl,rfl⟩) ?_ ?_
       rotate_left
       ·simp only [Act.put,List.setIfInBounds_toArray,List.set_cons_zero,List.set_cons_succ,i64_w,i32_w]
        rfl
       refine pure_ (i:=47) (N:=some 57) (v:=?_) (a':=?_) q48_ rfl rfl (any_of HT_.out (by kernel_rfl)) (fun _ _ _ h => h) (Or.inl ⟨by rfl,?_⟩) ?_ ?_
       rotate_left
       ·intro w';go_simp;with_reducible rfl
       rotate_left
       ·simp only [Act.put,List.setIfInBounds_toArray,List.set_cons_zero,List.set_cons_succ,i64_w,i32_w]
        rfl
       refine done_ (done_of HT_.out (by kernel_rfl)) ?_
       try go_wp2
       go_ret
       exact ⟨by first|rfl|(simp [errW_none,errW_some] <;> rfl)|(simp [*,errW_none,errW_some] <;> rfl),by repeat (first|(with_reducible first|exact HB.out|apply below_alloc|apply pw_below_drewN|apply below_drew1)|exact HB.out)⟩
     ·replace c5:=Bool.eq_false_iff.mpr c5
      subst c5
      have H1 : (some false) = some r:=by rw [if_neg (show ¬ (false = true) by decide)] at H;exact H
      clear H;have H:=H1;clear H1;obtain rfl:=Option.some.inj H
      try go_wp2
      have n0_:=Aside0.mk (below_drew1 HB.out)
      clear HB;have HB:=n0_;clear n0_;have p187 : 0 ≤ (x3_1 : Int):=of_decide_eq_true (by first|(with_reducible assumption)|assumption)
      have q187 : x3_1 < (l0.length : Int):=of_decide_eq_true (by first|(with_reducible assumption)|assumption)
      obtain ⟨ad187,A187_2,c187_2,e187,hx187_0,hx187_1,hx187_2,hx187_3,hx187_4,hx187_5,hx187_6,hl187_2,hi187_2⟩:=at_T94 HR0.out x3_1 p187 q187
      have hw187_6:=hx187_6;have hw187_5:=hx187_5;have hw187_4:=hx187_4;have hw187_3:=hx187_3;have hw187_2:=hx187_2;have hw187_1:=hx187_1;have hw187_0:=hx187_0;cases e187
      replace hx187_0:=(HB.out.cell (World.block_lt_of_cell? w _ hx187_0)).trans hx187_0
      replace hx187_1:=(HB.out.cell (World.block_lt_of_cell? w _ hx187_1)).trans hx187_1
      replace hx187_2:=(HB.out.cell (World.block_lt_of_cell? w _ hx187_2)).trans hx187_2
      replace hx187_3:=(HB.out.cell (World.block_lt_of_cell? w _ hx187_3)).trans hx187_3
      replace hx187_4:=(HB.out.cell (World.block_lt_of_cell? w _ hx187_4)).trans hx187_4
      replace hx187_5:=(HB.out.cell (World.block_lt_of_cell? w _ hx187_5)).trans hx187_5
      replace hx187_6:=(HB.out.cell (World.block_lt_of_cell? w _ hx187_6)).trans hx187_6
      have HR187_2:=Aside0.mk hi187_2;have HC187_2:=Aside0.mk hl187_2;clear hi187_2 hl187_2;replace p187:=eq_true p187
      replace q187:=eq_true q187
      refine start_ (n:=48) (S:=fun w' => w'.cell? (ad187.add ((x3_1).toNat * 7)) = some (.int .i64 ((rd_T94 l0 x3_1).f0)) ∧ w'.cell? ⟨(ad187.add ((x3_1).toNat * 7)).block,(ad187.add ((x3_1).toNat * 7)).off + 1,none⟩ = some (.int .i64 ((rd_T94 l0 x3_1).f1.f0)) ∧ w'.cell? ⟨(ad187.add ((x3_1).toNat * 7)).block,(ad187.add ((x3_1).toNat * 7)).off + 2,none⟩ = some (.slice A187_2 ((rd_T94 l0 x3_1).f1.f1).length c187_2) ∧ w'.cell? ⟨(ad187.add ((x3_1).toNat * 7)).block,(ad187.add ((x3_1).toNat * 7)).off + 3,none⟩ = some (.int .i64 ((rd_T94 l0 x3_1).f1.f2.f0)) ∧ w'.cell? ⟨(ad187.add ((x3_1).toNat * 7)).block,(ad187.add ((x3_1).toNat * 7)).off + 4,none⟩ = some (.int .i64 ((rd_T94 l0 x3_1).f1.f2.f1)) ∧ w'.cell? ⟨(ad187.add ((x3_1).toNat * 7)).block,(ad187.add ((x3_1).toNat * 7)).off + 5,none⟩ = some (.int .i64 ((rd_T94 l0 x3_1).f1.f2.f2)) ∧ w'.cell? ⟨(ad187.add ((x3_1).toNat * 7)).block,(ad187.add ((x3_1).toNat * 7)).off + 6,none⟩ = some (.int .i64 ((rd_T94 l0 x3_1).f2))) (ds:=[]) q0_ (by kernel_rfl) rfl rfl ⟨((HB.out.cell (World.block_lt_of_cell? w _ hw187_0)).trans hw187_0),((HB.out.cell (World.block_lt_of_cell? w _ hw187_1)).trans hw187_1),((HB.out.cell (World.block_lt_of_cell? w _ hw187_2)).trans hw187_2),((HB.out.cell (World.block_lt_of_cell? w _ hw187_3)).trans hw187_3),((HB.out.cell (World.block_lt_of_cell? w _ hw187_4)).trans hw187_4),((HB.out.cell (World.block_lt_of_cell? w _ hw187_5)).trans hw187_5),((HB.out.cell (World.block_lt_of_cell? w _ hw187_6)).trans hw187_6)⟩ (fun hHeld => ?_);refine with_tabW spec_IsStore.tab4 spec_IsStore.bits4 (fun HT_ HW_ => ?_)
      generalize wr.drew = w30 at HB HR187_2 hx187_0 hx187_1 hx187_2 hx187_3 hx187_4 hx187_5 hx187_6 hHeld ⊢
      refine pure_ (i:=0) (N:=some 10) (v:=?_) (a':=?_) q1_ rfl rfl (any_of HT_.out (by kernel_rfl)) (fun _ _ _ h => h) (Or.inl ⟨by rfl,?_⟩) ?_ ?_
      rotate_left
      ·intro w';go_simp;with_reducible rfl
      rotate_left
      ·simp only [Act.put,List.setIfInBounds_toArray,List.set_cons_zero,List.set_cons_succ,i64_w,i32_w]
       rfl
      refine pure_ (i:=1) (N:=some 11) (v:=?_) (a':=?_) q2_ rfl rfl (any_of HT_.out (by kernel_rfl)) (fun _ _ _ h => h) (Or.inl ⟨by rfl,?_⟩) ?_ ?_
      rotate_left
      ·intro w';go_simp;with_reducible rfl
      rotate_left
      ·simp only [Act.put,List.setIfInBounds_toArray,List.set_cons_zero,List.set_cons_succ,i64_w,i32_w]
       rfl
      refine pure_ (i:=2) (N:=some 12) (v:=?_) (a':=?_) q3_ rfl rfl (any_of HT_.out (by kernel_rfl)) (fun _ _ _ h => h) (Or.inl ⟨by rfl,?_⟩) ?_ ?_
      rotate_left
      ·intro w';go_simp;with_reducible rfl
      rotate_left
      ·simp only [Act.put,List.setIfInBounds_toArray,List.set_cons_zero,List.set_cons_succ,i64_w,i32_w]
       rfl
      refine pure_ (i:=3) (N:=some 13) (v:=?_) (a':=?_) q4_ rfl rfl (any_of HT_.out (by kernel_rfl)) (fun _ _ _ h => h) (Or.inl ⟨by rfl,?_⟩) ?_ ?_
      rotate_left
      ·intro w';go_simp;with_reducible rfl
      rotate_left
      ·simp only [Act.put,List.setIfInBounds_toArray,List.set_cons_zero,List.set_cons_succ,i64_w,i32_w]
       rfl
      refine take_ (i:=4) (N:=some 14) (v:=?_) (a':=?_) q5_ rfl rfl (take_ofW HT_.out HW_.out (by kernel_rfl)) (fun _ _ _ h => h) (Or.inl ⟨by rfl,?_⟩) hHeld ?_ ?_
      rotate_left
      ·rintro w' ⟨s0,s1,s2,s3,s4,s5,s6⟩
       go_simp;with_reducible rfl
      rotate_left
      ·simp only [Act.put,List.setIfInBounds_toArray,List.set_cons_zero,List.set_cons_succ,i64_w,i32_w]
       rfl
      refine one_ (i:=5) (N:=some 15) q6_ rfl rfl (one_of HT_.out (by kernel_rfl)) (by decide) (fun K hK => ?_)
      refine goes_ Try.func69 (by kernel_rfl) rfl #[.agg #[.int .i64 ((rd_T94 l0 x3_1).f1.f0),.slice A187_2 ((rd_T94 l0 x3_1).f1.f1).length c187_2,.int .i64 ((rd_T94 l0 x3_1).f1.f2.f0),.int .i64 ((rd_T94 l0 x3_1).f1.f2.f1),.int .i64 ((rd_T94 l0 x3_1).f1.f2.f2)]] (by rfl) rfl rfl (by (try simp only [List.map_toArray,List.map_cons,List.map_nil]);first|done|rfl|(simp only [List.length_drop,List.length_take];rfl)) ?_
      with_reducible refine (spec_IsResource.calls k1 ((rd_T94 l0 x3_1).f1.f0) _ _ ((rd_T94 l0 x3_1).f1.f1) ((rd_T94 l0 x3_1).f1.f2.f0) ((rd_T94 l0 x3_1).f1.f2.f1) ((rd_T94 l0 x3_1).f1.f2.f2) false _ ?side1 ?side2 A4.out).mono ?_
      (case side1 => repeat (first|exact (Kd.C_below HR187_2.out HB.out)|(with_reducible refine Kd.C_alloc ?_ _)|(with_reducible refine Kd.C_drewN ?_ _)|(with_reducible refine Kd.C_drew ?_)))
      (case side2 => exact HC187_2.out)
      rintro e w31 ⟨rfl,hb⟩
      refine ⟨_,rfl,?_⟩
      have n0_:=Aside0.mk (below_step (by repeat (first|(with_reducible first|exact HB.out|apply below_alloc|apply pw_below_drewN|apply below_drew1)|exact HB.out)) hb)
      clear HB;have HB:=n0_;clear n0_;(try clear hb);refine hK.out _ _ ⟨((HB.out.cell (World.block_lt_of_cell? w _ hw187_0)).trans hw187_0),((HB.out.cell (World.block_lt_of_cell? w _ hw187_1)).trans hw187_1),((HB.out.cell (World.block_lt_of_cell? w _ hw187_2)).trans hw187_2),((HB.out.cell (World.block_lt_of_cell? w _ hw187_3)).trans hw187_3),((HB.out.cell (World.block_lt_of_cell? w _ hw187_4)).trans hw187_4),((HB.out.cell (World.block_lt_of_cell? w _ hw187_5)).trans hw187_5),((HB.out.cell (World.block_lt_of_cell? w _ hw187_6)).trans hw187_6)⟩ (fun hHeld => ?_)
      clear hK K;refine norm_ (a':=?_) ?_ ?_
      rotate_left
      ·show Act.put _ (some 15) _ = _
       simp only [Act.put,List.setIfInBounds_toArray,List.set_cons_zero,List.set_cons_succ,i64_w,i32_w]
       rfl
      refine pure_ (i:=6) (N:=some 16) (v:=?_) (a':=?_) q7_ rfl rfl (any_of HT_.out (by kernel_rfl)) (fun _ _ _ h => h) (Or.inl ⟨by rfl,?_⟩) ?_ ?_
      rotate_left
      ·intro w';go_simp;with_reducible rfl
      rotate_left
      ·simp only [Act.put,List.setIfInBounds_toArray,List.set_cons_zero,List.set_cons_succ,i64_w,i32_w]
       rfl
      refine pure_ (i:=7) (N:=some 17) (v:=?_) (a':=?_) q8_ rfl rfl (any_of HT_.out (by kernel_rfl)) (fun _ _ _ h => h) (Or.inl ⟨by rfl,?_⟩) ?_ ?_
      rotate_left
      ·intro w';go_simp;with_reducible rfl
      rotate_left
      ·simp only [Act.put,List.setIfInBounds_toArray,List.set_cons_zero,List.set_cons_succ,i64_w,i32_w]
       rfl
      refine pure_ (i:=8) (N:=some 18) (v:=undef) (a':=?_) q9_ rfl rfl (any_of HT_.out (by kernel_rfl)) (fun _ _ _ h => h) (Or.inr ⟨by rfl,rfl⟩) ?_ ?_
      rotate_left
      ·simp only [Act.put,List.setIfInBounds_toArray,List.set_cons_zero,List.set_cons_succ,i64_w,i32_w]
       rfl
      refine pure_ (i:=9) (N:=some 19) (v:=undef) (a':=?_) q10_ rfl rfl (any_of HT_.out (by kernel_rfl)) (fun _ _ _ h => h) (Or.inr ⟨by rfl,rfl⟩) ?_ ?_
      rotate_left
      ·simp only [Act.put,List.setIfInBounds_toArray,List.set_cons_zero,List.set_cons_succ,i64_w,i32_w]
       rfl
      refine pure_ (i:=10) (N:=some 20) (v:=undef) (a':=?_) q11_ rfl rfl (any_of HT_.out (by kernel_rfl)) (fun _ _ _ h => h) (Or.inr ⟨by rfl,rfl⟩) ?_ ?_
      rotate_left
      ·simp only [Act.put,List.setIfInBounds_toArray,List.set_cons_zero,List.set_cons_succ,i64_w,i32_w]
       rfl
      refine pure_ (i:=11) (N:=some 21) (v:=undef) (a':=?_) q12_ rfl rfl (any_of HT_.out (by kernel_rfl)) (fun _ _ _ h => h) (Or.inr ⟨by rfl,rfl⟩) ?_ ?_
      rotate_left
      ·simp only [Act.put,List.setIfInBounds_toArray,List.set_cons_zero,List.set_cons_succ,i64_w,i32_w]
       rfl
      refine pure_ (i:=12) (N:=some 22) (v:=undef) (a':=?_) #[true,true,true,true,true,true,true,true,true,true,true,true,true,false,false,false,false,false,false,false,false,false,false,false,false,false,false,false,false,false,false,false,false,false,false,false,false,false,false,false,false,false,false,false,false,false,false,false] rfl rfl (any_of HT_.out (by kernel_rfl)) (fun _ _ _ h => h) (Or.inr ⟨by rfl,rfl⟩) ?_ ?_
      rotate_left
      ·simp only [Act.put,List.setIfInBounds_toArray,List.set_cons_zero,List.set_cons_succ,i64_w,i32_w]
       rfl
      refine pure_ (i:=13) (N:=some 23) (v:=undef) (a':=?_) #[true,true,true,true,true,true,true,true,true,true,true,true,true,true,false,false,false,false,false,false,false,false,false,false,false,false,false,false,false,false,false,false,false,false,false,false,false,false,false,false,false,false,false,false,false,false,false,false] rfl rfl (any_of HT_.out (by kernel_rfl)) (fun _ _ _ h => h) (Or.inr ⟨by rfl,rfl⟩) ?_ ?_
      rotate_left
      ·simp only [Act.put,List.setIfInBounds_toArray,List.set_cons_zero,List.set_cons_succ,i64_w,i32_w]
       rfl
      refine pure_ (i:=14) (N:=some 24) (v:=undef) (a':=?_) #[true,true,true,true,true,true,true,true,true,true,true,true,true,true,true,false,false,false,false,false,false,false,false,false,false,false,false,false,false,false,false,false,false,false,false,false,false,false,false,false,false,false,false,false,false,false,false,false] rfl rfl (any_of HT_.out (by kernel_rfl)) (fun _ _ _ h => h) (Or.inr ⟨by rfl,rfl⟩) ?_ ?_
      rotate_left
      ·simp only [Act.put,List.setIfInBounds_toArray,List.set_cons_zero,List.set_cons_succ,i64_w,i32_w]
       rfl
      refine pure_ (i:=15) (N:=some 25) (v:=undef) (a':=?_) #[true,true,true,true,true,true,true,true,true,true,true,true,true,true,true,true,false,false,false,false,false,false,false,false,false,false,false,false,false,false,false,false,false,false,false,false,false,false,false,false,false,false,false,false,false,false,false,false] rfl rfl (any_of HT_.out (by kernel_rfl)) (fun _ _ _ h => h) (Or.inr ⟨by rfl,rfl⟩) ?_ ?_
      rotate_left
      ·simp only [Act.put,List.setIfInBounds_toArray,List.set_cons_zero,List.set_cons_succ,i64_w,i32_w]
       rfl
      refine pure_ (i:=16) (N:=some 26) (v:=undef) (a':=?_) q17_ rfl rfl (any_of HT_.out (by kernel_rfl)) (fun _ _ _ h => h) (Or.inr ⟨by rfl,rfl⟩) ?_ ?_
      rotate_left
      ·simp only [Act.put,List.setIfInBounds_toArray,List.set_cons_zero,List.set_cons_succ,i64_w,i32_w]
       rfl
      refine pure_ (i:=17) (N:=some 27) (v:=undef) (a':=?_) q18_ rfl rfl (any_of HT_.out (by kernel_rfl)) (fun _ _ _ h => h) (Or.inr ⟨by rfl,rfl⟩) ?_ ?_
      rotate_left
      ·simp only [Act.put,List.setIfInBounds_toArray,List.set_cons_zero,List.set_cons_succ,i64_w,i32_w]
       rfl
      refine pure_ (i:=18) (N:=some 28) (v:=undef) (a':=?_) q19_ rfl rfl (any_of HT_.out (by kernel_rfl)) (fun _ _ _ h => h) (Or.inr ⟨by rfl,rfl⟩) ?_ ?_
      rotate_left
      ·simp only [Act.put,List.setIfInBounds_toArray,List.set_cons_zero,List.set_cons_succ,i64_w,i32_w]
       rfl
      refine pure_ (i:=19) (N:=some 29) (v:=undef) (a':=?_) q20_ rfl rfl (any_of HT_.out (by kernel_rfl)) (fun _ _ _ h => h) (Or.inr ⟨by rfl,rfl⟩) ?_ ?_
      rotate_left
      ·simp only [Act.put,List.setIfInBounds_toArray,List.set_cons_zero,List.set_cons_succ,i64_w,i32_w]
       rfl
      refine pure_ (i:=20) (N:=some 30) (v:=?_) (a':=?_) q21_ rfl rfl (any_of HT_.out (by kernel_rfl)) (fun _ _ _ h => h) (Or.inl ⟨by rfl,?_⟩) ?_ ?_
      rotate_left
      ·intro w';go_simp;with_reducible rfl
      rotate_left
      ·simp only [Act.put,List.setIfInBounds_toArray,List.set_cons_zero,List.set_cons_succ,i64_w,i32_w]
       rfl
      refine pure_ (i:=21) (N:=some 31) (v:=?_) (a':=?_) q22_ rfl rfl (any_of HT_.out (by kernel_rfl)) (fun _ _ _ h => h) (Or.inl ⟨by rfl,?_⟩) ?_ ?_
      rotate_left
      ·intro w';go_simp;with_reducible rfl
      rotate_left
      ·simp only [Act.put,List.setIfInBounds_toArray,List.set_cons_zero,List.set_cons_succ,i64_w,i32_w]
       rfl
      refine pure_ (i:=22) (N:=some 32) (v:=undef) (a':=?_) q23_ rfl rfl (any_of HT_.out (by kernel_rfl)) (fun _ _ _ h => h) (Or.inr ⟨by rfl,rfl⟩) ?_ ?_
      rotate_left
      ·simp only [Act.put,List.setIfInBounds_toArray,List.set_cons_zero,List.set_cons_succ,i64_w,i32_w]
       rfl
      refine pure_ (i:=23) (N:=some 33) (v:=undef) (a':=?_) q24_ rfl rfl (any_of HT_.out (by kernel_rfl)) (fun _ _ _ h => h) (Or.inr ⟨by rfl,rfl⟩) ?_ ?_
      rotate_left
      ·simp only [Act.put,List.setIfInBounds_toArray,List.set_cons_zero,List.set_cons_succ,i64_w,i32_w]
       rfl
      refine pure_ (i:=24) (N:=some 34) (v:=undef) (a':=?_) q25_ rfl rfl (any_of HT_.out (by kernel_rfl)) (fun _ _ _ h => h) (Or.inr ⟨by rfl,rfl⟩) ?_ ?_
      rotate_left
      ·simp only [Act.put,List.setIfInBounds_toArray,List.set_cons_zero,List.set_cons_succ,i64_w,i32_w]
       rfl
      refine pure_ (i:=25) (N:=some 35) (v:=undef) (a':=?_) q26_ rfl rfl (any_of HT_.out (by kernel_rfl)) (fun _ _ _ h => h) (Or.inr ⟨by rfl,rfl⟩) ?_ ?_
      rotate_left
      ·simp only [Act.put,List.setIfInBounds_toArray,List.set_cons_zero,List.set_cons_succ,i64_w,i32_w]
       rfl
      refine pure_ (i:=26) (N:=some 36) (v:=undef) (a':=?_) q27_ rfl rfl (any_of HT_.out (by kernel_rfl)) (fun _ _ _ h => h) (Or.inr ⟨by rfl,rfl⟩) ?_ ?_
      rotate_left
      ·simp only [Act.put,List.setIfInBounds_toArray,List.set_cons_zero,List.set_cons_succ,i64_w,i32_w]
       rfl
      refine pure_ (i:=27) (N:=some 37) (v:=undef) (a':=?_) q28_ rfl rfl (any_of HT_.out (by kernel_rfl)) (fun _ _ _ h => h) (Or.inr ⟨by rfl,rfl⟩) ?_ ?_
      rotate_left
      ·simp only [Act.put,List.setIfInBounds_toArray,List.set_cons_zero,List.set_cons_succ,i64_w,i32_w]
       rfl
      refine pure_ (i:=28) (N:=some 38) (v:=undef) (a':=?_) q29_ rfl rfl (any_of HT_.out (by kernel_rfl)) (fun _ _ _ h => h) (Or.inr ⟨by rfl,rfl⟩) ?_ ?_
      rotate_left
      ·simp only [Act.put,List.setIfInBounds_toArray,List.set_cons_zero,List.set_cons_succ,i64_w,i32_w]
       rfl
      refine pure_ (i:=29) (N:=some 39) (v:=?_) (a':=?_) q30_ rfl rfl (any_of HT_.out (by kernel_rfl)) (fun _ _ _ h => h) (Or.inl ⟨by rfl,?_⟩) ?_ ?_
      rotate_left
      ·intro w';go_simp;with_reducible rfl
      rotate_left
      ·simp only [Act.put,List.setIfInBounds_toArray,List.set_cons_zero,List.set_cons_succ,i64_w,i32_w]
       rfl
      refine pure_ (i:=30) (N:=some 40) (v:=?_) (a':=?_) q31_ rfl rfl (any_of HT_.out (by kernel_rfl)) (fun _ _ _ h => h) (Or.inl ⟨by rfl,?_⟩) ?_ ?_
      rotate_left
      ·intro w';go_simp;with_reducible rfl
      rotate_left
      ·simp only [Act.put,List.setIfInBounds_toArray,List.set_cons_zero,List.set_cons_succ,i64_w,i32_w]
       rfl
      refine pure_ (i:=31) (N:=some 41) (v:=undef) (a':=?_) q32_ rfl rfl (any_of HT_.out (by kernel_rfl)) (fun _ _ _ h => h) (Or.inr ⟨by rfl,rfl⟩) ?_ ?_
      rotate_left
      ·simp only [Act.put,List.setIfInBounds_toArray,List.set_cons_zero,List.set_cons_succ,i64_w,i32_w]
       rfl
      refine pure_ (i:=32) (N:=some 42) (v:=undef) (a':=?_) q33_ rfl rfl (any_of HT_.out (by kernel_rfl)) (fun _ _ _ h => h) (Or.inr ⟨by rfl,rfl⟩) ?_ ?_
      rotate_left
      ·simp only [Act.put,List.setIfInBounds_toArray,List.set_cons_zero,List.set_cons_succ,i64_w,i32_w]
       rfl
      refine pure_ (i:=33) (N:=some 43) (v:=undef) (a':=?_) q34_ rfl rfl (any_of HT_.out (by kernel_rfl)) (fun _ _ _ h => h) (Or.inr ⟨by rfl,rfl⟩) ?_ ?_
      rotate_left
      ·simp only [Act.put,List.setIfInBounds_toArray,List.set_cons_zero,List.set_cons_succ,i64_w,i32_w]
       rfl
      refine pure_ (i:=34) (N:=some 44) (v:=undef) (a':=?_) q35_ rfl rfl (any_of HT_.out (by kernel_rfl)) (fun _ _ _ h => h) (Or.inr ⟨by rfl,rfl⟩) ?_ ?_
      rotate_left
      ·simp only [Act.put,List.setIfInBounds_toArray,List.set_cons_zero,List.set_cons_succ,i64_w,i32_w]
       rfl
      refine pure_ (i:=35) (N:=some 45) (v:=undef) (a':=?_) q36_ rfl rfl (any_of HT_.out (by kernel_rfl)) (fun _ _ _ h => h) (Or.inr ⟨by rfl,rfl⟩) ?_ ?_
      rotate_left
      ·simp only [Act.put,List.setIfInBounds_toArray,List.set_cons_zero,List.set_cons_succ,i64_w,i32_w]
       rfl
      refine pure_ (i:=36) (N:=some 46) (v:=undef) (a':=?_) q37_ rfl rfl (any_of HT_.out (by kernel_rfl)) (fun _ _ _ h => h) (Or.inr ⟨by rfl,rfl⟩) ?_ ?_
      rotate_left
      ·simp only [Act.put,List.setIfInBounds_toArray,List.set_cons_zero,List.set_cons_succ,i64_w,i32_w]
       rfl
      refine pure_ (i:=37) (N:=some 47) (v:=undef) (a':=?_) q38_ rfl rfl (any_of HT_.out (by kernel_rfl)) (fun _ _ _ h => h) (Or.inr ⟨by rfl,rfl⟩) ?_ ?_
      rotate_left
      ·simp only [Act.put,List.setIfInBounds_toArray,List.set_cons_zero,List.set_cons_succ,i64_w,i32_w]
       rfl
      refine pure_ (i:=38) (N:=some 48) (v:=undef) (a':=?_) q39_ rfl rfl (any_of HT_.out (by kernel_rfl)) (fun _ _ _ h => h) (Or.inr ⟨by rfl,rfl⟩) ?_ ?_
      rotate_left
      ·simp only [Act.put,List.setIfInBounds_toArray,List.set_cons_zero,List.set_cons_succ,i64_w,i32_w]
       rfl
      refine pure_ (i:=39) (N:=some 49) (v:=undef) (a':=?_) q49_ rfl rfl (any_of HT_.out (by kernel_rfl)) (fun _ _ _ h => h) (Or.inr ⟨by rfl,rfl⟩) ?_ ?_
      rotate_left
      ·simp only [Act.put,List.setIfInBounds_toArray,List.set_cons_zero,List.set_cons_succ,i64_w,i32_w]
       rfl
      refine pure_ (i:=40) (N:=some 50) (v:=undef) (a':=?_) q50_ rfl rfl (any_of HT_.out (by kernel_rfl)) (fun _ _ _ h => h) (Or.inr ⟨by rfl,rfl⟩) ?_ ?_
      rotate_left
      ·simp only [Act.put,List.setIfInBounds_toArray,List.set_cons_zero,List.set_cons_succ,i64_w,i32_w]
       rfl
      refine pure_ (i:=41) (N:=some 51) (v:=undef) (a':=?_) q51_ rfl rfl (any_of HT_.out (by kernel_rfl)) (fun _ _ _ h => h) (Or.inr ⟨by rfl,rfl⟩) ?_ ?_
      rotate_left
      ·simp only [Act.put,List.setIfInBounds_toArray,List.set_cons_zero,List.set_cons_succ,i64_w,i32_w]
       rfl
      refine pure_ (i:=42) (N:=some 52) (v:=undef) (a':=?_) q52_ rfl rfl (any_of HT_.out (by kernel_rfl)) (fun _ _ _ h => h) (Or.inr ⟨by rfl,rfl⟩) ?_ ?_
      rotate_left
      ·simp only [Act.put,List.setIfInBounds_toArray,List.set_cons_zero,List.set_cons_succ,i64_w,i32_w]
       rfl
      refine pure_ (i:=43) (N:=some 53) (v:=undef) (a':=?_) q44_ rfl rfl (any_of HT_.out (by kernel_rfl)) (fun _ _ _ h => h) (Or.inr ⟨by rfl,rfl⟩) ?_ ?_
      rotate_left
      ·simp only [Act.put,List.setIfInBounds_toArray,List.set_cons_zero,List.set_cons_succ,i64_w,i32_w]
       rfl
      refine pure_ (i:=44) (N:=some 54) (v:=undef) (a':=?_) q45_ rfl rfl (any_of HT_.out (by kernel_rfl)) (fun _ _ _ h => h) (Or.inr ⟨by rfl,rfl⟩) ?_ ?_
      rotate_left
      ·simp only [Act.put,List.setIfInBounds_toArray,List.set_cons_zero,List.set_cons_succ,i64_w,i32_w]
       rfl
      refine pure_ (i:=45) (N:=some 55) (v:=undef) (a':=?_) q46_ rfl rfl (any_of HT_.out (by kernel_rfl)) (fun _ _ _ h => h) (Or.inr ⟨by rfl,rfl⟩) ?_ ?_
      rotate_left
      ·simp only [Act.put,List.setIfInBounds_toArray,List.set_cons_zero,List.set_cons_succ,i64_w,i32_w]
       rfl
      refine pure_ (i:=46) (N:=some 56) (v:=undef) (a':=?_) q47_ rfl rfl (any_of HT_.out (by kernel_rfl)) (fun _ _ _ h => h) (Or.inr ⟨by rfl,rfl⟩) ?_ ?_
      rotate_left
      ·simp only [Act.put,List.setIfInBounds_toArray,List.set_cons_zero,List.set_cons_succ,i64_w,i32_w]
       rfl
      refine pure_ (i:=47) (N:=some 57) (v:=?_) (a':=?_) q48_ rfl rfl (any_of HT_.out (by kernel_rfl)) (fun _ _ _ h => h) (Or.inl ⟨by rfl,?_⟩) ?_ ?_
      rotate_left
      ·intro w';go_simp;with_reducible rfl
      rotate_left
      ·simp only [Act.put,List.setIfInBounds_toArray,List.set_cons_zero,List.set_cons_succ,i64_w,i32_w]
       rfl
      refine done_ (done_of HT_.out (by kernel_rfl)) ?_
      try go_wp2
      go_ret
      exact ⟨by first|rfl|(simp [errW_none,errW_some] <;> rfl)|(simp [*,errW_none,errW_some] <;> rfl),by repeat (first|(with_reducible first|exact HB.out|apply below_alloc|apply pw_below_drewN|apply below_drew1)|exact HB.out)⟩
    ·rw [if_neg c3] at H
     exact absurd H (by simp)
   ·rw [if_neg c2] at H
    have c2b0 : decide (x3_1 < (l0.length : Int)) = false:=decide_eq_false c2
    clear c2;obtain rfl:=Option.some.inj H
    go_wp2
    go_ret
    exact ⟨by first|rfl|(simp [errW_none,errW_some] <;> rfl)|(simp [*,errW_none,errW_some] <;> rfl),by repeat (first|(with_reducible first|exact HB.out|apply below_alloc|apply pw_below_drewN|apply below_drew1)|exact HB.out)⟩
end Go.Proofs.Ytgcidlnhgpjdpad.QFnExactIsStore
