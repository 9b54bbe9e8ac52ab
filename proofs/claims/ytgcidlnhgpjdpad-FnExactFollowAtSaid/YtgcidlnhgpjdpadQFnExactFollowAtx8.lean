/- The Go functions that the law FnExactFollowAt comes to, each as a Lean function, with a proof that the call does what it says; written by a program of this session over the print of the kit. No conditions. -/
import Derived.Test.YtgcidlnhgpjdpadQFnExactFollowAtx0
import Derived.Test.YtgcidlnhgpjdpadQFnExactFollowAtx2
import Derived.Test.YtgcidlnhgpjdpadQFnExactFollowAtx3
import Derived.Test.YtgcidlnhgpjdpadQFnExactFollowAtx4
import Derived.Test.YtgcidlnhgpjdpadQFnExactFollowAtx5
import Derived.Test.YtgcidlnhgpjdpadQFnExactFollowAtx6
import Derived.Test.YtgcidlnhgpjdpadQFnExactFollowAtx7
namespace Go.Proofs.Ytgcidlnhgpjdpad.QFnExactFollowAt
open Go.RowKit Go.Proofs.YtgcidlnhgpjdpadW.PrintWords Go.Proofs.YtgcidlnhgpjdpadW.PrintLast Go.Proofs.YtgcidlnhgpjdpadW.PrintMore
attribute [local go_sem] max2_int min2_int max_two min_two max_three min_three max_four min_four   -- for this text's walks alone
set_option linter.unusedVariables false
set_option linter.unusedSimpArgs false
mutual
def laws_FnExactFollowAt.j0 : Nat → List (S80) → Int → List (S37) → List (S82) → List (S37) → Bool → Int → Int → Int → Int → List Int → Int → Int → Int → Int → List Int → Int → Int → Int → Option (Bool)
  | 0, _, _, _, _, _, _, _, _, _, _, _, _, _, _, _, _, _, _, _ => none
  | k + 1, x0, x2, x9, x10, x12, x51, x283000, x283001, x283002, x301000, x301001, x301002, x301003, x301004, x318000, x318001, x318002, x318003, x318004 => if x51 = true then (some false) else ((laws_toVersionS.f k x0).bind fun t320 => ((laws_eqVersionS.f k x10 t320).bind fun t323 => (if t323 = true then ((laws_markVersionS.f x10 1).bind fun t324 => (if t324 < 0 then (laws_FnExactFollowAt.j1 k x0 x2 x9 x12 true x283000 x283001 x283002 x301000 x301001 x301002 x301003 x301004 x318000 x318001 x318002 x318003 x318004) else ((laws_eqResource.f k x318000 x318001 x318002 x318003 x318004 x301000 x301001 x301002 x301003 x301004).bind fun t325 => (if t325 = true then ((laws_eqAddressS.f k x12 x9).bind fun t326 => (laws_FnExactFollowAt.j1 k x0 x2 x9 x12 (!t326) x283000 x283001 x283002 x301000 x301001 x301002 x301003 x301004 x318000 x318001 x318002 x318003 x318004)) else (laws_FnExactFollowAt.j1 k x0 x2 x9 x12 true x283000 x283001 x283002 x301000 x301001 x301002 x301003 x301004 x318000 x318001 x318002 x318003 x318004))))) else (some false))))
def laws_FnExactFollowAt.j1 : Nat → List (S80) → Int → List (S37) → List (S37) → Bool → Int → Int → Int → Int → List Int → Int → Int → Int → Int → List Int → Int → Int → Int → Option (Bool)
  | 0, _, _, _, _, _, _, _, _, _, _, _, _, _, _, _, _, _, _ => none
  | k + 1, x0, x2, x9, x12, x73, x283000, x283001, x283002, x301000, x301001, x301002, x301003, x301004, x318000, x318001, x318002, x318003, x318004 => if x73 = true then (some false) else ((laws_markResource.f k x318000 x318001 x318002 x318003 x318004 1).bind fun bt327 => ((laws_markAddressS.f k x12 bt327.1).bind fun bt329 => ((laws_heldResource.f k x318000 bt327.2 x318002 x318003 x318004 1).bind fun t331 => (if t331 < 0 then (some false) else ((laws_heldAddressS.f k bt329.2 t331).bind fun t332 => (if t332 < 0 then (some false) else (if t332 = bt329.1 then ((laws_toVersionS.f k x0).bind fun t333 => ((laws_toAddress.f x283000 x283001 x283002).bind fun bt336 => ((impl_FollowAt.f k t333 bt336.1 bt336.2.1 bt336.2.2 x2).bind fun bt339 => ((laws_eqResource.f k bt339.1 bt339.2.1 bt339.2.2.1 bt339.2.2.2.1 bt339.2.2.2.2.1 x301000 x301001 x301002 x301003 x301004).bind fun t350 => (if t350 = true then ((laws_eqAddressS.f k bt339.2.2.2.2.2 x9).bind fun t351 => (laws_FnExactFollowAt.j2 k bt329.2 bt329.1 (!t351) x318000 bt327.2 x318002 x318003 x318004)) else (laws_FnExactFollowAt.j2 k bt329.2 bt329.1 true x318000 bt327.2 x318002 x318003 x318004)))))) else (some false))))))))
def laws_FnExactFollowAt.j2 : Nat → List (S37) → Int → Bool → Int → List Int → Int → Int → Int → Option (Bool)
  | 0, _, _, _, _, _, _, _, _ => none
  | k + 1, x12, x14, x111, x318000, x318001, x318002, x318003, x318004 => if x111 = true then (some false) else ((laws_heldResource.f k x318000 x318001 x318002 x318003 x318004 1).bind fun t352 => (if t352 < 0 then (some false) else ((laws_heldAddressS.f k x12 t352).bind fun t353 => (if t353 < 0 then (some false) else (if t353 = x14 then (some true) else (some false))))))
end
def laws_FnExactFollowAt.f (k : Nat) (l0 : List (S80)) (a1_0 : Int) (a1_1 : Int) (a1_2 : Int) (a2 : Int) : Option (Bool) := (laws_szVersionS.f k l0 1048576).bind fun t283 => (if t283 < 0 then (some true) else ((laws_toVersionS.f k l0).bind fun t284 => ((laws_toAddress.f a1_0 a1_1 a1_2).bind fun bt287 => ((spec_FollowAt.f k t284 bt287.1 bt287.2.1 bt287.2.2 a2).bind fun bt290 => ((laws_toVersionS.f k l0).bind fun t301 => ((laws_toAddress.f a1_0 a1_1 a1_2).bind fun bt304 => ((impl_FollowAt.f k t301 bt304.1 bt304.2.1 bt304.2.2 a2).bind fun bt307 => ((laws_eqResource.f k bt307.1 bt307.2.1 bt307.2.2.1 bt307.2.2.2.1 bt307.2.2.2.2.1 bt290.1 bt290.2.1 bt290.2.2.1 bt290.2.2.2.1 bt290.2.2.2.2.1).bind fun t318 => (if t318 = true then ((laws_eqAddressS.f k bt307.2.2.2.2.2 bt290.2.2.2.2.2).bind fun t319 => (laws_FnExactFollowAt.j0 k l0 a2 bt290.2.2.2.2.2 t301 bt307.2.2.2.2.2 (!t319) a1_0 a1_1 a1_2 bt290.1 bt290.2.1 bt290.2.2.1 bt290.2.2.2.1 bt290.2.2.2.2.1 bt307.1 bt307.2.1 bt307.2.2.1 bt307.2.2.2.1 bt307.2.2.2.2.1)) else (laws_FnExactFollowAt.j0 k l0 a2 bt290.2.2.2.2.2 t301 bt307.2.2.2.2.2 true a1_0 a1_1 a1_2 bt290.1 bt290.2.1 bt290.2.2.1 bt290.2.2.2.1 bt290.2.2.2.2.1 bt307.1 bt307.2.1 bt307.2.2.1 bt307.2.2.2.1 bt307.2.2.2.2.1))))))))))
theorem laws_FnExactFollowAt.mono_l : ∀ k, (∀ y0 y1 y2 y3 y4 y5 y6 y7 y8 y9 y10 y11 y12 y13 y14 y15 y16 y17 y18, LeO (laws_FnExactFollowAt.j0 k y0 y1 y2 y3 y4 y5 y6 y7 y8 y9 y10 y11 y12 y13 y14 y15 y16 y17 y18) (laws_FnExactFollowAt.j0 (k + 1) y0 y1 y2 y3 y4 y5 y6 y7 y8 y9 y10 y11 y12 y13 y14 y15 y16 y17 y18)) ∧ (∀ y0 y1 y2 y3 y4 y5 y6 y7 y8 y9 y10 y11 y12 y13 y14 y15 y16 y17, LeO (laws_FnExactFollowAt.j1 k y0 y1 y2 y3 y4 y5 y6 y7 y8 y9 y10 y11 y12 y13 y14 y15 y16 y17) (laws_FnExactFollowAt.j1 (k + 1) y0 y1 y2 y3 y4 y5 y6 y7 y8 y9 y10 y11 y12 y13 y14 y15 y16 y17)) ∧ (∀ y0 y1 y2 y3 y4 y5 y6 y7, LeO (laws_FnExactFollowAt.j2 k y0 y1 y2 y3 y4 y5 y6 y7) (laws_FnExactFollowAt.j2 (k + 1) y0 y1 y2 y3 y4 y5 y6 y7))
  | 0 => ⟨fun _ _ _ _ _ _ _ _ _ _ _ _ _ _ _ _ _ _ _ r h => by simp [laws_FnExactFollowAt.j0] at h, fun _ _ _ _ _ _ _ _ _ _ _ _ _ _ _ _ _ _ r h => by simp [laws_FnExactFollowAt.j1] at h, fun _ _ _ _ _ _ _ _ r h => by simp [laws_FnExactFollowAt.j2] at h⟩
  | k + 1 => by
    obtain ⟨ih0, ih1, ih2⟩ := laws_FnExactFollowAt.mono_l k
    refine ⟨?_, ?_, ?_⟩
    · intro y0 y1 y2 y3 y4 y5 y6 y7 y8 y9 y10 y11 y12 y13 y14 y15 y16 y17 y18
      unfold laws_FnExactFollowAt.j0
      repeat' first
      | (with_reducible exact ih0 _ _ _ _ _ _ _ _ _ _ _ _ _ _ _ _ _ _ _)
      | (with_reducible exact ih1 _ _ _ _ _ _ _ _ _ _ _ _ _ _ _ _ _ _)
      | (with_reducible exact ih2 _ _ _ _ _ _ _ _)
      | (with_reducible exact impl_FollowAt.mono _ _ _ _ _ _)
      | (with_reducible exact laws_eqAddressS.mono _ _ _)
      | (with_reducible exact laws_eqResource.mono _ _ _ _ _ _ _ _ _ _ _)
      | (with_reducible exact laws_eqVersionS.mono _ _ _)
      | (with_reducible exact laws_heldAddressS.mono _ _ _)
      | (with_reducible exact laws_heldResource.mono _ _ _ _ _ _ _)
      | (with_reducible exact laws_markAddressS.mono _ _ _)
      | (with_reducible exact laws_markResource.mono _ _ _ _ _ _ _)
      | (with_reducible exact laws_szVersionS.mono _ _ _)
      | (with_reducible exact laws_toVersionS.mono _ _)
      | (with_reducible exact spec_FollowAt.mono _ _ _ _ _ _)
      | (with_reducible exact LeO.refl _)
      | (with_reducible exact LeO.none _)
      | (with_reducible refine LeO.ite ?_ ?_)
      | (with_reducible refine LeO.bind ?_ (fun _ => ?_))
      | exact ih0 _ _ _ _ _ _ _ _ _ _ _ _ _ _ _ _ _ _ _
      | exact ih1 _ _ _ _ _ _ _ _ _ _ _ _ _ _ _ _ _ _
      | exact ih2 _ _ _ _ _ _ _ _
      | exact impl_FollowAt.mono _ _ _ _ _ _
      | exact laws_eqAddressS.mono _ _ _
      | exact laws_eqResource.mono _ _ _ _ _ _ _ _ _ _ _
      | exact laws_eqVersionS.mono _ _ _
      | exact laws_heldAddressS.mono _ _ _
      | exact laws_heldResource.mono _ _ _ _ _ _ _
      | exact laws_markAddressS.mono _ _ _
      | exact laws_markResource.mono _ _ _ _ _ _ _
      | exact laws_szVersionS.mono _ _ _
      | exact laws_toVersionS.mono _ _
      | exact spec_FollowAt.mono _ _ _ _ _ _
      | exact LeO.none _
      | refine LeO.ite ?_ ?_
      | refine LeO.bind ?_ (fun _ => ?_)
    · intro y0 y1 y2 y3 y4 y5 y6 y7 y8 y9 y10 y11 y12 y13 y14 y15 y16 y17
      unfold laws_FnExactFollowAt.j1
      repeat' first
      | (with_reducible exact ih0 _ _ _ _ _ _ _ _ _ _ _ _ _ _ _ _ _ _ _)
      | (with_reducible exact ih1 _ _ _ _ _ _ _ _ _ _ _ _ _ _ _ _ _ _)
      | (with_reducible exact ih2 _ _ _ _ _ _ _ _)
      | (with_reducible exact impl_FollowAt.mono _ _ _ _ _ _)
      | (with_reducible exact laws_eqAddressS.mono _ _ _)
      | (with_reducible exact laws_eqResource.mono _ _ _ _ _ _ _ _ _ _ _)
      | (with_reducible exact laws_eqVersionS.mono _ _ _)
      | (with_reducible exact laws_heldAddressS.mono _ _ _)
      | (with_reducible exact laws_heldResource.mono _ _ _ _ _ _ _)
      | (with_reducible exact laws_markAddressS.mono _ _ _)
      | (with_reducible exact laws_markResource.mono _ _ _ _ _ _ _)
      | (with_reducible exact laws_szVersionS.mono _ _ _)
      | (with_reducible exact laws_toVersionS.mono _ _)
      | (with_reducible exact spec_FollowAt.mono _ _ _ _ _ _)
      | (with_reducible exact LeO.refl _)
      | (with_reducible exact LeO.none _)
      | (with_reducible refine LeO.ite ?_ ?_)
      | (with_reducible refine LeO.bind ?_ (fun _ => ?_))
      | exact ih0 _ _ _ _ _ _ _ _ _ _ _ _ _ _ _ _ _ _ _
      | exact ih1 _ _ _ _ _ _ _ _ _ _ _ _ _ _ _ _ _ _
      | exact ih2 _ _ _ _ _ _ _ _
      | exact impl_FollowAt.mono _ _ _ _ _ _
      | exact laws_eqAddressS.mono _ _ _
      | exact laws_eqResource.mono _ _ _ _ _ _ _ _ _ _ _
      | exact laws_eqVersionS.mono _ _ _
      | exact laws_heldAddressS.mono _ _ _
      | exact laws_heldResource.mono _ _ _ _ _ _ _
      | exact laws_markAddressS.mono _ _ _
      | exact laws_markResource.mono _ _ _ _ _ _ _
      | exact laws_szVersionS.mono _ _ _
      | exact laws_toVersionS.mono _ _
      | exact spec_FollowAt.mono _ _ _ _ _ _
      | exact LeO.none _
      | refine LeO.ite ?_ ?_
      | refine LeO.bind ?_ (fun _ => ?_)
    · intro y0 y1 y2 y3 y4 y5 y6 y7
      unfold laws_FnExactFollowAt.j2
      repeat' first
      | (with_reducible exact ih0 _ _ _ _ _ _ _ _ _ _ _ _ _ _ _ _ _ _ _)
      | (with_reducible exact ih1 _ _ _ _ _ _ _ _ _ _ _ _ _ _ _ _ _ _)
      | (with_reducible exact ih2 _ _ _ _ _ _ _ _)
      | (with_reducible exact impl_FollowAt.mono _ _ _ _ _ _)
      | (with_reducible exact laws_eqAddressS.mono _ _ _)
      | (with_reducible exact laws_eqResource.mono _ _ _ _ _ _ _ _ _ _ _)
      | (with_reducible exact laws_eqVersionS.mono _ _ _)
      | (with_reducible exact laws_heldAddressS.mono _ _ _)
      | (with_reducible exact laws_heldResource.mono _ _ _ _ _ _ _)
      | (with_reducible exact laws_markAddressS.mono _ _ _)
      | (with_reducible exact laws_markResource.mono _ _ _ _ _ _ _)
      | (with_reducible exact laws_szVersionS.mono _ _ _)
      | (with_reducible exact laws_toVersionS.mono _ _)
      | (with_reducible exact spec_FollowAt.mono _ _ _ _ _ _)
      | (with_reducible exact LeO.refl _)
      | (with_reducible exact LeO.none _)
      | (with_reducible refine LeO.ite ?_ ?_)
      | (with_reducible refine LeO.bind ?_ (fun _ => ?_))
      | exact ih0 _ _ _ _ _ _ _ _ _ _ _ _ _ _ _ _ _ _ _
      | exact ih1 _ _ _ _ _ _ _ _ _ _ _ _ _ _ _ _ _ _
      | exact ih2 _ _ _ _ _ _ _ _
      | exact impl_FollowAt.mono _ _ _ _ _ _
      | exact laws_eqAddressS.mono _ _ _
      | exact laws_eqResource.mono _ _ _ _ _ _ _ _ _ _ _
      | exact laws_eqVersionS.mono _ _ _
      | exact laws_heldAddressS.mono _ _ _
      | exact laws_heldResource.mono _ _ _ _ _ _ _
      | exact laws_markAddressS.mono _ _ _
      | exact laws_markResource.mono _ _ _ _ _ _ _
      | exact laws_szVersionS.mono _ _ _
      | exact laws_toVersionS.mono _ _
      | exact spec_FollowAt.mono _ _ _ _ _ _
      | exact LeO.none _
      | refine LeO.ite ?_ ?_
      | refine LeO.bind ?_ (fun _ => ?_)
theorem laws_FnExactFollowAt.mono : ∀ a0 a1 a2 a3 a4 k, LeO (laws_FnExactFollowAt.f k a0 a1 a2 a3 a4) (laws_FnExactFollowAt.f (k + 1) a0 a1 a2 a3 a4) := by
  intro a0 a1 a2 a3 a4 k
  obtain ⟨ih0, ih1, ih2⟩ := laws_FnExactFollowAt.mono_l k
  unfold laws_FnExactFollowAt.f
  repeat' first
      | (with_reducible exact ih0 _ _ _ _ _ _ _ _ _ _ _ _ _ _ _ _ _ _ _)
      | (with_reducible exact ih1 _ _ _ _ _ _ _ _ _ _ _ _ _ _ _ _ _ _)
      | (with_reducible exact ih2 _ _ _ _ _ _ _ _)
      | (with_reducible exact impl_FollowAt.mono _ _ _ _ _ _)
      | (with_reducible exact laws_eqAddressS.mono _ _ _)
      | (with_reducible exact laws_eqResource.mono _ _ _ _ _ _ _ _ _ _ _)
      | (with_reducible exact laws_eqVersionS.mono _ _ _)
      | (with_reducible exact laws_heldAddressS.mono _ _ _)
      | (with_reducible exact laws_heldResource.mono _ _ _ _ _ _ _)
      | (with_reducible exact laws_markAddressS.mono _ _ _)
      | (with_reducible exact laws_markResource.mono _ _ _ _ _ _ _)
      | (with_reducible exact laws_szVersionS.mono _ _ _)
      | (with_reducible exact laws_toVersionS.mono _ _)
      | (with_reducible exact spec_FollowAt.mono _ _ _ _ _ _)
      | (with_reducible exact LeO.refl _)
      | (with_reducible exact LeO.none _)
      | (with_reducible refine LeO.ite ?_ ?_)
      | (with_reducible refine LeO.bind ?_ (fun _ => ?_))
      | exact ih0 _ _ _ _ _ _ _ _ _ _ _ _ _ _ _ _ _ _ _
      | exact ih1 _ _ _ _ _ _ _ _ _ _ _ _ _ _ _ _ _ _
      | exact ih2 _ _ _ _ _ _ _ _
      | exact impl_FollowAt.mono _ _ _ _ _ _
      | exact laws_eqAddressS.mono _ _ _
      | exact laws_eqResource.mono _ _ _ _ _ _ _ _ _ _ _
      | exact laws_eqVersionS.mono _ _ _
      | exact laws_heldAddressS.mono _ _ _
      | exact laws_heldResource.mono _ _ _ _ _ _ _
      | exact laws_markAddressS.mono _ _ _
      | exact laws_markResource.mono _ _ _ _ _ _ _
      | exact laws_szVersionS.mono _ _ _
      | exact laws_toVersionS.mono _ _
      | exact spec_FollowAt.mono _ _ _ _ _ _
      | exact LeO.none _
      | refine LeO.ite ?_ ?_
      | refine LeO.bind ?_ (fun _ => ?_)
def laws_FnExactFollowAt.T5 : Bool × List (List Nat × List Nat) := (true, [([], []), ([0], [0]), ([], []), ([2, 1], [2]), ([], []), ([1, 3, 4, 3], [1, 3, 4]), ([5], [5]), ([6], [6]), ([6], [6]), ([], []), ([9, 7, 5, 0, 1, 2, 3, 4, 5, 6, 7, 9], [7, 9]), ([8, 10, 0, 1, 2, 3, 4, 5, 6, 7, 8, 9, 10], [8])])
def laws_FnExactFollowAt.B5 : List Nat := [0, 1, 0, 7, 0, 31, 63, 127, 127, 0, 767, 2047]
theorem laws_FnExactFollowAt.tab5 : rtab .any (opsOf Try.f8 5) = laws_FnExactFollowAt.T5 := by kernel_rfl
theorem laws_FnExactFollowAt.bits5 : waitsOk laws_FnExactFollowAt.T5.2 laws_FnExactFollowAt.B5 = true := by kernel_rfl
def laws_FnExactFollowAt.T28 : Bool × List (List Nat × List Nat) := (true, [([], []), ([0], [0]), ([], []), ([2, 1], [2]), ([], []), ([1, 3, 4, 3], [1, 3, 4]), ([5], [5]), ([6], [6]), ([6], [6]), ([], []), ([9, 7, 5, 0, 1, 2, 3, 4, 5, 6, 7, 9], [7, 9]), ([8, 10, 0, 1, 2, 3, 4, 5, 6, 7, 8, 9, 10], [8])])
def laws_FnExactFollowAt.B28 : List Nat := [0, 1, 0, 7, 0, 31, 63, 127, 127, 0, 767, 2047]
theorem laws_FnExactFollowAt.tab28 : rtab .any (opsOf Try.f8 28) = laws_FnExactFollowAt.T28 := by kernel_rfl
theorem laws_FnExactFollowAt.bits28 : waitsOk laws_FnExactFollowAt.T28.2 laws_FnExactFollowAt.B28 = true := by kernel_rfl
set_option maxHeartbeats 8000000 in
set_option maxRecDepth 100000 in
theorem laws_FnExactFollowAt.calls (k : Nat) (A0 : Option Addr) (c0 : Nat) (l0 : List (S80)) (a1_0 : Int) (a1_1 : Int) (a1_2 : Int) (a2 : Int) (r : Bool) (w : World) (hr0 : Kd.C k80 w A0 l0.length l0) (hc0 : l0.length ≤ c0) (hT0 : r = true) (h : laws_FnExactFollowAt.f k l0 a1_0 a1_1 a1_2 a2 = some r) :
  Calls Try.prog 8 #[.slice A0 l0.length c0,.agg #[.int .i64 a1_0,.int .i64 a1_1,.int .i64 a1_2],.int .i64 a2] w fun e w' => e = .returned (.bool r) ∧ Below w.heap.size w w':=by
 have hu35:=Try.underlying35
 have hu39:=Try.underlying39
 have HR0:=Aside0.mk hr0;have HC0:=Aside0.mk hc0;clear hr0 hc0;have HB:=Aside0.mk (Below.refl w.heap.size w)
 have HTRUE:=Aside0.mk hT0;clear hT0;have H : ((laws_szVersionS.f k l0 1048576).bind fun t283 => (if t283 < 0 then (some true) else ((laws_toVersionS.f k l0).bind fun t284 => ((laws_toAddress.f a1_0 a1_1 a1_2).bind fun bt287 => ((spec_FollowAt.f k t284 bt287.1 bt287.2.1 bt287.2.2 a2).bind fun bt290 => ((laws_toVersionS.f k l0).bind fun t301 => ((laws_toAddress.f a1_0 a1_1 a1_2).bind fun bt304 => ((impl_FollowAt.f k t301 bt304.1 bt304.2.1 bt304.2.2 a2).bind fun bt307 => ((laws_eqResource.f k bt307.1 bt307.2.1 bt307.2.2.1 bt307.2.2.2.1 bt307.2.2.2.2.1 bt290.1 bt290.2.1 bt290.2.2.1 bt290.2.2.2.1 bt290.2.2.2.2.1).bind fun t318 => (if t318 = true then ((laws_eqAddressS.f k bt307.2.2.2.2.2 bt290.2.2.2.2.2).bind fun t319 => (laws_FnExactFollowAt.j0 k l0 a2 bt290.2.2.2.2.2 t301 bt307.2.2.2.2.2 (!t319) a1_0 a1_1 a1_2 bt290.1 bt290.2.1 bt290.2.2.1 bt290.2.2.2.1 bt290.2.2.2.2.1 bt307.1 bt307.2.1 bt307.2.2.1 bt307.2.2.2.1 bt307.2.2.2.2.1)) else (laws_FnExactFollowAt.j0 k l0 a2 bt290.2.2.2.2.2 t301 bt307.2.2.2.2.2 true a1_0 a1_1 a1_2 bt290.1 bt290.2.1 bt290.2.2.1 bt290.2.2.2.1 bt290.2.2.2.2.1 bt307.1 bt307.2.1 bt307.2.2.1 bt307.2.2.2.1 bt307.2.2.2.2.1))))))))))) = some r:=h
 clear h;replace H:=Option.bind_eq_some_iff.mp H
 obtain ⟨t283,A40,H⟩:=H;replace H : (if t283 < 0 then (some true) else ((laws_toVersionS.f k l0).bind fun t284 => ((laws_toAddress.f a1_0 a1_1 a1_2).bind fun bt287 => ((spec_FollowAt.f k t284 bt287.1 bt287.2.1 bt287.2.2 a2).bind fun bt290 => ((laws_toVersionS.f k l0).bind fun t301 => ((laws_toAddress.f a1_0 a1_1 a1_2).bind fun bt304 => ((impl_FollowAt.f k t301 bt304.1 bt304.2.1 bt304.2.2 a2).bind fun bt307 => ((laws_eqResource.f k bt307.1 bt307.2.1 bt307.2.2.1 bt307.2.2.2.1 bt307.2.2.2.2.1 bt290.1 bt290.2.1 bt290.2.2.1 bt290.2.2.2.1 bt290.2.2.2.2.1).bind fun t318 => (if t318 = true then ((laws_eqAddressS.f k bt307.2.2.2.2.2 bt290.2.2.2.2.2).bind fun t319 => (laws_FnExactFollowAt.j0 k l0 a2 bt290.2.2.2.2.2 t301 bt307.2.2.2.2.2 (!t319) a1_0 a1_1 a1_2 bt290.1 bt290.2.1 bt290.2.2.1 bt290.2.2.2.1 bt290.2.2.2.2.1 bt307.1 bt307.2.1 bt307.2.2.1 bt307.2.2.2.1 bt307.2.2.2.2.1)) else (laws_FnExactFollowAt.j0 k l0 a2 bt290.2.2.2.2.2 t301 bt307.2.2.2.2.2 true a1_0 a1_1 a1_2 bt290.1 bt290.2.1 bt290.2.2.1 bt290.2.2.2.1 bt290.2.2.2.2.1 bt307.1 bt307.2.1 bt307.2.2.1 bt307.2.2.2.1 bt307.2.2.2.2.1)))))))))) = some r:=H
 have A4:=Aside0.mk A40;clear A40;by_cases c5 : t283 < 0
 ·rw [if_pos c5] at H
  have c5b0 : decide (t283 < 0) = true:=decide_eq_true c5
  clear c5;obtain rfl:=Option.some.inj H
  go_enter Try.func8,Try.ntmps8
  go_wp2_with (first|((with_reducible refine gate_dst (N:=4) rfl ?_);refine box_event ?hg (N:=4) ?hd (cs:=#[.int .i64 a1_0,.int .i64 a1_1,.int .i64 a1_2]) (t:=35) ?hr ?_;(case hd => rfl);(case hg => rfl);(case hr => first|(go_simp;done)|(go_simp;rfl));intro gb282 hg w6 hbox hb;have n0_:=Aside0.mk (below_step (by repeat (first|(with_reducible first|exact HB.out|apply below_alloc|apply pw_below_drewN|apply below_drew1)|exact HB.out)) hb);have n1_:=Aside0.mk (hbox);have n2_:=Aside0.mk ((by rw [hg];exact (below_size (by repeat (first|(with_reducible first|exact HB.out|apply below_alloc|apply pw_below_drewN|apply below_drew1)|exact HB.out))) : w.heap.size ≤ gb282));have n3_:=Aside0.mk ((by rw [hg];exact (below_size (by repeat (first|(with_reducible first|exact HB.out|apply below_alloc|apply pw_below_drewN|apply below_drew1)|exact HB.out))) : w.heap.size ≤ gb282));clear HB;have HB:=n0_;have BK282:=n1_;have GW282:=n2_;have GE282:=n3_;clear n0_ n1_ n2_ n3_;clear hb hbox hg)|((with_reducible refine gate_callee (f:=16) rfl ?_);refine goesL_ (some 20) rfl rfl Try.func16 (by kernel_rfl) rfl #[.slice A0 l0.length c0,.int .i64 1048576] rfl (by (try simp only [List.map_toArray,List.map_cons,List.map_nil]);first|done|rfl|(simp only [List.length_drop,List.length_take];rfl)) ?_;(with_reducible refine (laws_szVersionS.calls k _ _ l0 1048576 t283 _ ?side1 ?side2 A4.out).mono ?_);(case side1 => repeat (first|exact (Kd.C_below HR0.out HB.out)|(with_reducible refine Kd.C_alloc ?_ _)|(with_reducible refine Kd.C_drewN ?_ _)|(with_reducible refine Kd.C_drew ?_)));(case side2 => exact HC0.out);rintro e w7 ⟨rfl,hb⟩;refine ⟨_,rfl,?_⟩;have n0_:=Aside0.mk (blk_below (g:=gb282) (o:=.cells #[.int .i64 a1_0,.int .i64 a1_1,.int .i64 a1_2] 35 (0,0)) (by (with_reducible repeat (first|refine blk_drewN ?_ _|refine blk_drew ?_|refine blk_alloc ?_ _));exact BK282.out) hb);have n1_:=Aside0.mk (below_step (by repeat (first|(with_reducible first|exact HB.out|apply below_alloc|apply pw_below_drewN|apply below_drew1|refine below_set ?_ GE282.out)|exact HB.out)) hb);clear BK282;clear HB;have BK282:=n0_;have HB:=n1_;clear n0_ n1_;(try clear hb);(try clear hk)))
  go_ret
  exact ⟨by first|rfl|(simp [errW_none,errW_some] <;> rfl)|(simp [*,errW_none,errW_some] <;> rfl),by repeat (first|(with_reducible first|exact HB.out|apply below_alloc|apply pw_below_drewN|apply below_drew1|refine below_set ?_ GE282.out)|exact HB.out)⟩
 ·rw [if_neg c5] at H
  have c5b0 : decide (t283 < 0) = false:=decide_eq_false c5
  clear c5;replace H:=Option.bind_eq_some_iff.mp H
  obtain ⟨t284,A80,H⟩:=H;replace H : ((laws_toAddress.f a1_0 a1_1 a1_2).bind fun bt287 => ((spec_FollowAt.f k t284 bt287.1 bt287.2.1 bt287.2.2 a2).bind fun bt290 => ((laws_toVersionS.f k l0).bind fun t301 => ((laws_toAddress.f a1_0 a1_1 a1_2).bind fun bt304 => ((impl_FollowAt.f k t301 bt304.1 bt304.2.1 bt304.2.2 a2).bind fun bt307 => ((laws_eqResource.f k bt307.1 bt307.2.1 bt307.2.2.1 bt307.2.2.2.1 bt307.2.2.2.2.1 bt290.1 bt290.2.1 bt290.2.2.1 bt290.2.2.2.1 bt290.2.2.2.2.1).bind fun t318 => (if t318 = true then ((laws_eqAddressS.f k bt307.2.2.2.2.2 bt290.2.2.2.2.2).bind fun t319 => (laws_FnExactFollowAt.j0 k l0 a2 bt290.2.2.2.2.2 t301 bt307.2.2.2.2.2 (!t319) a1_0 a1_1 a1_2 bt290.1 bt290.2.1 bt290.2.2.1 bt290.2.2.2.1 bt290.2.2.2.2.1 bt307.1 bt307.2.1 bt307.2.2.1 bt307.2.2.2.1 bt307.2.2.2.2.1)) else (laws_FnExactFollowAt.j0 k l0 a2 bt290.2.2.2.2.2 t301 bt307.2.2.2.2.2 true a1_0 a1_1 a1_2 bt290.1 bt290.2.1 bt290.2.2.1 bt290.2.2.2.1 bt290.2.2.2.2.1 bt307.1 bt307.2.1 bt307.2.2.1 bt307.2.2.2.1 bt307.2.2.2.2.1)))))))) = some r:=H
  have A8:=Aside0.mk A80;clear A80;replace H:=Option.bind_eq_some_iff.mp H
  obtain ⟨⟨t287,t288,t289⟩,A90,H⟩:=H
  replace H : ((spec_FollowAt.f k t284 t287 t288 t289 a2).bind fun bt290 => ((laws_toVersionS.f k l0).bind fun t301 => ((laws_toAddress.f a1_0 a1_1 a1_2).bind fun bt304 => ((impl_FollowAt.f k t301 bt304.1 bt304.2.1 bt304.2.2 a2).bind fun bt307 => ((laws_eqResource.f k bt307.1 bt307.2.1 bt307.2.2.1 bt307.2.2.2.1 bt307.2.2.2.2.1 bt290.1 bt290.2.1 bt290.2.2.1 bt290.2.2.2.1 bt290.2.2.2.2.1).bind fun t318 => (if t318 = true then ((laws_eqAddressS.f k bt307.2.2.2.2.2 bt290.2.2.2.2.2).bind fun t319 => (laws_FnExactFollowAt.j0 k l0 a2 bt290.2.2.2.2.2 t301 bt307.2.2.2.2.2 (!t319) a1_0 a1_1 a1_2 bt290.1 bt290.2.1 bt290.2.2.1 bt290.2.2.2.1 bt290.2.2.2.2.1 bt307.1 bt307.2.1 bt307.2.2.1 bt307.2.2.2.1 bt307.2.2.2.2.1)) else (laws_FnExactFollowAt.j0 k l0 a2 bt290.2.2.2.2.2 t301 bt307.2.2.2.2.2 true a1_0 a1_1 a1_2 bt290.1 bt290.2.1 bt290.2.2.1 bt290.2.2.2.1 bt290.2.2.2.2.1 bt307.1 bt307.2.1 bt307.2.2.1 bt307.2.2.2.1 bt307.2.2.2.2.1))))))) = some r:=H
  have A9:=Aside0.mk A90;clear A90;replace H:=Option.bind_eq_some_iff.mp H
  obtain ⟨⟨t290,t291,t294,t295,t296,t297⟩,A100,H⟩:=H
  replace H : ((laws_toVersionS.f k l0).bind fun t301 => ((laws_toAddress.f a1_0 a1_1 a1_2).bind fun bt304 => ((impl_FollowAt.f k t301 bt304.1 bt304.2.1 bt304.2.2 a2).bind fun bt307 => ((laws_eqResource.f k bt307.1 bt307.2.1 bt307.2.2.1 bt307.2.2.2.1 bt307.2.2.2.2.1 t290 t291 t294 t295 t296).bind fun t318 => (if t318 = true then ((laws_eqAddressS.f k bt307.2.2.2.2.2 t297).bind fun t319 => (laws_FnExactFollowAt.j0 k l0 a2 t297 t301 bt307.2.2.2.2.2 (!t319) a1_0 a1_1 a1_2 t290 t291 t294 t295 t296 bt307.1 bt307.2.1 bt307.2.2.1 bt307.2.2.2.1 bt307.2.2.2.2.1)) else (laws_FnExactFollowAt.j0 k l0 a2 t297 t301 bt307.2.2.2.2.2 true a1_0 a1_1 a1_2 t290 t291 t294 t295 t296 bt307.1 bt307.2.1 bt307.2.2.1 bt307.2.2.2.1 bt307.2.2.2.2.1)))))) = some r:=H
  have A10:=Aside0.mk A100;clear A100;replace H:=Option.bind_eq_some_iff.mp H
  obtain ⟨t301,A110,H⟩:=H;replace H : ((laws_toAddress.f a1_0 a1_1 a1_2).bind fun bt304 => ((impl_FollowAt.f k t301 bt304.1 bt304.2.1 bt304.2.2 a2).bind fun bt307 => ((laws_eqResource.f k bt307.1 bt307.2.1 bt307.2.2.1 bt307.2.2.2.1 bt307.2.2.2.2.1 t290 t291 t294 t295 t296).bind fun t318 => (if t318 = true then ((laws_eqAddressS.f k bt307.2.2.2.2.2 t297).bind fun t319 => (laws_FnExactFollowAt.j0 k l0 a2 t297 t301 bt307.2.2.2.2.2 (!t319) a1_0 a1_1 a1_2 t290 t291 t294 t295 t296 bt307.1 bt307.2.1 bt307.2.2.1 bt307.2.2.2.1 bt307.2.2.2.2.1)) else (laws_FnExactFollowAt.j0 k l0 a2 t297 t301 bt307.2.2.2.2.2 true a1_0 a1_1 a1_2 t290 t291 t294 t295 t296 bt307.1 bt307.2.1 bt307.2.2.1 bt307.2.2.2.1 bt307.2.2.2.2.1))))) = some r:=H
  have A11:=Aside0.mk A110;clear A110;replace H:=Option.bind_eq_some_iff.mp H
  obtain ⟨⟨t304,t305,t306⟩,A120,H⟩:=H
  replace H : ((impl_FollowAt.f k t301 t304 t305 t306 a2).bind fun bt307 => ((laws_eqResource.f k bt307.1 bt307.2.1 bt307.2.2.1 bt307.2.2.2.1 bt307.2.2.2.2.1 t290 t291 t294 t295 t296).bind fun t318 => (if t318 = true then ((laws_eqAddressS.f k bt307.2.2.2.2.2 t297).bind fun t319 => (laws_FnExactFollowAt.j0 k l0 a2 t297 t301 bt307.2.2.2.2.2 (!t319) a1_0 a1_1 a1_2 t290 t291 t294 t295 t296 bt307.1 bt307.2.1 bt307.2.2.1 bt307.2.2.2.1 bt307.2.2.2.2.1)) else (laws_FnExactFollowAt.j0 k l0 a2 t297 t301 bt307.2.2.2.2.2 true a1_0 a1_1 a1_2 t290 t291 t294 t295 t296 bt307.1 bt307.2.1 bt307.2.2.1 bt307.2.2.2.1 bt307.2.2.2.2.1)))) = some r:=H
  have A12:=Aside0.mk A120;clear A120;replace H:=Option.bind_eq_some_iff.mp H
  obtain ⟨⟨t307,t308,t311,t312,t313,t314⟩,A130,H⟩:=H
  replace H : ((laws_eqResource.f k t307 t308 t311 t312 t313 t290 t291 t294 t295 t296).bind fun t318 => (if t318 = true then ((laws_eqAddressS.f k t314 t297).bind fun t319 => (laws_FnExactFollowAt.j0 k l0 a2 t297 t301 t314 (!t319) a1_0 a1_1 a1_2 t290 t291 t294 t295 t296 t307 t308 t311 t312 t313)) else (laws_FnExactFollowAt.j0 k l0 a2 t297 t301 t314 true a1_0 a1_1 a1_2 t290 t291 t294 t295 t296 t307 t308 t311 t312 t313))) = some r:=H
  have A13:=Aside0.mk A130;clear A130;have HC14:=Aside0.mk H;clear H;go_enter Try.func8,Try.ntmps8
  try go_wp2_with (first|((with_reducible refine gate_dst (N:=4) rfl ?_);refine box_event ?hg (N:=4) ?hd (cs:=#[.int .i64 a1_0,.int .i64 a1_1,.int .i64 a1_2]) (t:=35) ?hr ?_;(case hd => rfl);(case hg => rfl);(case hr => first|(go_simp;done)|(go_simp;rfl));intro gb282 hg w15 hbox hb;have n0_:=Aside0.mk (below_step (by repeat (first|(with_reducible first|exact HB.out|apply below_alloc|apply pw_below_drewN|apply below_drew1)|exact HB.out)) hb);have n1_:=Aside0.mk (hbox);have n2_:=Aside0.mk ((by rw [hg];exact (below_size (by repeat (first|(with_reducible first|exact HB.out|apply below_alloc|apply pw_below_drewN|apply below_drew1)|exact HB.out))) : w.heap.size ≤ gb282));have n3_:=Aside0.mk ((by rw [hg];exact (below_size (by repeat (first|(with_reducible first|exact HB.out|apply below_alloc|apply pw_below_drewN|apply below_drew1)|exact HB.out))) : w.heap.size ≤ gb282));clear HB;have HB:=n0_;have BK282:=n1_;have GW282:=n2_;have GE282:=n3_;clear n0_ n1_ n2_ n3_;clear hb hbox hg)|((with_reducible refine gate_callee (f:=16) rfl ?_);refine goesL_ (some 20) rfl rfl Try.func16 (by kernel_rfl) rfl #[.slice A0 l0.length c0,.int .i64 1048576] rfl (by (try simp only [List.map_toArray,List.map_cons,List.map_nil]);first|done|rfl|(simp only [List.length_drop,List.length_take];rfl)) ?_;(with_reducible refine (laws_szVersionS.calls k _ _ l0 1048576 t283 _ ?side1 ?side2 A4.out).mono ?_);(case side1 => repeat (first|exact (Kd.C_below HR0.out HB.out)|(with_reducible refine Kd.C_alloc ?_ _)|(with_reducible refine Kd.C_drewN ?_ _)|(with_reducible refine Kd.C_drew ?_)));(case side2 => exact HC0.out);rintro e w16 ⟨rfl,hb⟩;refine ⟨_,rfl,?_⟩;have n0_:=Aside0.mk (blk_below (g:=gb282) (o:=.cells #[.int .i64 a1_0,.int .i64 a1_1,.int .i64 a1_2] 35 (0,0)) (by (with_reducible repeat (first|refine blk_drewN ?_ _|refine blk_drew ?_|refine blk_alloc ?_ _));exact BK282.out) hb);have n1_:=Aside0.mk (below_step (by repeat (first|(with_reducible first|exact HB.out|apply below_alloc|apply pw_below_drewN|apply below_drew1|refine below_set ?_ GE282.out)|exact HB.out)) hb);clear BK282;clear HB;have BK282:=n0_;have HB:=n1_;clear n0_ n1_;(try clear hb);(try clear hk)))
  have n0_:=Aside0.mk (blk_drew BK282.out)
  have n1_:=Aside0.mk (below_drew1 HB.out)
  clear BK282;clear HB;have BK282:=n0_;have HB:=n1_;clear n0_ n1_;refine start_ (n:=12) (S:=fun w' => w'.cell? ⟨gb282,0,none⟩ = some (.int .i64 a1_0) ∧ w'.cell? ⟨gb282,1,none⟩ = some (.int .i64 a1_1) ∧ w'.cell? ⟨gb282,2,none⟩ = some (.int .i64 a1_2)) (ds:=[]) #[false,false,false,false,false,false,false,false,false,false,false,false] (by kernel_rfl) rfl rfl ⟨(blk_cell BK282.out 0).trans rfl,(blk_cell BK282.out 1).trans rfl,(blk_cell BK282.out 2).trans rfl⟩ (fun hHeld => ?_);refine with_tabW laws_FnExactFollowAt.tab5 laws_FnExactFollowAt.bits5 (fun HT_ HW_ => ?_)
  generalize w16.drew = w17 at BK282 HB hHeld ⊢
  refine pure_ (i:=0) (N:=some 24) (v:=?_) (a':=?_) #[true,false,false,false,false,false,false,false,false,false,false,false] rfl rfl (any_of HT_.out (by kernel_rfl)) (fun _ _ _ h => h) (Or.inl ⟨by rfl,?_⟩) ?_ ?_
  rotate_left
  ·intro w';go_simp;with_reducible rfl
  rotate_left
  ·simp only [Act.put,List.setIfInBounds_toArray,List.set_cons_zero,List.set_cons_succ,i64_w,i32_w]
   rfl
  refine pure_ (i:=4) (N:=some 28) (v:=?_) (a':=?_) #[true,false,false,false,true,false,false,false,false,false,false,false] rfl rfl (any_of HT_.out (by kernel_rfl)) (fun _ _ _ h => h) (Or.inl ⟨by rfl,?_⟩) ?_ ?_
  rotate_left
  ·intro w';go_simp;with_reducible rfl
  rotate_left
  ·simp only [Act.put,List.setIfInBounds_toArray,List.set_cons_zero,List.set_cons_succ,i64_w,i32_w]
   rfl
  refine take_ (i:=2) (N:=some 26) (v:=?_) (a':=?_) #[true,false,true,false,true,false,false,false,false,false,false,false] rfl rfl (take_ofW HT_.out HW_.out (by kernel_rfl)) (fun _ _ _ h => h) (Or.inl ⟨by rfl,?_⟩) hHeld ?_ ?_
  rotate_left
  ·rintro w' ⟨s0,s1,s2⟩
   go_simp;with_reducible rfl
  rotate_left
  ·simp only [Act.put,List.setIfInBounds_toArray,List.set_cons_zero,List.set_cons_succ,i64_w,i32_w]
   rfl
  refine join_ (σ:=Value × Value × Value × Nat) 2 #[true,true,true,true,true,true,true,true,true,true,false,false] (fun s_ => [(25,s_.1),(27,.agg #[.int .i64 t287,.int .i64 t288,.int .i64 t289]),(29,.tuple #[.agg #[.int .i64 t290,s_.2.1,.int .i64 t294,.int .i64 t295,.int .i64 t296],s_.2.2.1]),(8,.pointer (some ⟨s_.2.2.2,0,none⟩)),(23,.tuple #[.agg #[.int .i64 t290,s_.2.1,.int .i64 t294,.int .i64 t295,.int .i64 t296],s_.2.2.1]),(30,.agg #[.int .i64 t290,s_.2.1,.int .i64 t294,.int .i64 t295,.int .i64 t296]),(31,s_.2.2.1)]) (fun s_ w' => (w'.cell? ⟨gb282,0,none⟩ = some (.int .i64 a1_0) ∧ w'.cell? ⟨gb282,1,none⟩ = some (.int .i64 a1_1) ∧ w'.cell? ⟨gb282,2,none⟩ = some (.int .i64 a1_2)) ∧ (Kd.S k82 82 w' w.heap.size (fun k_ => some k_ ≠ (s_.2.1 : Value).ownBlock) s_.1 t284) ∧ (Kd.R (Kd.int .i64) 3 w' w.heap.size (fun _ => True) s_.2.1 t291) ∧ (Kd.R k37 37 w' w.heap.size (fun _ => True) s_.2.2.1 t297) ∧ (w'.heap[gb282]? = some (.cells #[.int .i64 a1_0,.int .i64 a1_1,.int .i64 a1_2] 35 (0,0))) ∧ (w'.heap[s_.2.2.2]? = some (.cells #[.int .i64 0,.slice none 0 0,.int .i64 0,.int .i64 0,.int .i64 0] 39 (0,0))) ∧ (w.heap.size ≤ s_.2.2.2) ∧ (w.heap.size ≤ s_.2.2.2) ∧ (gb282 ≠ s_.2.2.2) ∧ (s_.2.2.2 ≠ gb282) ∧ (Below w.heap.size w w')) ?_ ?_
  rotate_left
  ·intro hCont;refine two_ (i:=1) (j:=9) (Ni:=some 25) (Nj:=some 8) #[true,true,true,false,true,false,false,false,false,false,false,false] #[true,false,true,false,true,false,false,false,false,true,false,false] rfl rfl rfl rfl (two_of HT_.out (by kernel_rfl)) (by decide) (by decide) (fun K hK => ?_) (fun K hK => ?_)
   ·skip;refine goes_ Try.func18 (by kernel_rfl) rfl #[.slice A0 l0.length c0] (by rfl) rfl rfl (by (try simp only [List.map_toArray,List.map_cons,List.map_nil]);first|done|rfl|(simp only [List.length_drop,List.length_take];rfl)) ?_
    with_reducible refine (laws_toVersionS.calls k _ _ l0 t284 _ ?side1 ?side2 A8.out).mono ?_
    (case side1 => repeat (first|exact (Kd.C_below HR0.out HB.out)|(with_reducible refine Kd.C_alloc ?_ _)|(with_reducible refine Kd.C_drewN ?_ _)|(with_reducible refine Kd.C_drew ?_)))
    (case side2 => exact HC0.out)
    rintro e w18 ⟨v285,rfl,ho0,hb⟩
    refine ⟨_,rfl,?_⟩
    have n0_:=Aside0.mk (Kd.S_lower ho0 (below_size (by repeat (first|(with_reducible first|exact HB.out|apply below_alloc|apply pw_below_drewN|apply below_drew1|refine below_set ?_ GE282.out)|exact HB.out))))
    have n1_:=Aside0.mk (blk_below (g:=gb282) (o:=.cells #[.int .i64 a1_0,.int .i64 a1_1,.int .i64 a1_2] 35 (0,0)) (by (with_reducible repeat (first|refine blk_drewN ?_ _|refine blk_drew ?_|refine blk_alloc ?_ _));exact BK282.out) hb)
    have n2_:=Aside0.mk (below_step (by repeat (first|(with_reducible first|exact HB.out|apply below_alloc|apply pw_below_drewN|apply below_drew1|refine below_set ?_ GE282.out)|exact HB.out)) hb)
    clear BK282;clear HB;have HO286:=n0_;have BK282:=n1_;have HB:=n2_;clear n0_ n1_ n2_;(try clear hb);(try clear hk);(try clear ho0);refine hK.out _ _ ⟨(blk_cell BK282.out 0).trans rfl,(blk_cell BK282.out 1).trans rfl,(blk_cell BK282.out 2).trans rfl⟩ (fun hHeld => ?_)
    clear hK K;refine norm_ (a':=?_) ?_ ?_
    rotate_left
    ·show Act.put _ (some 25) _ = _
     simp only [Act.put,List.setIfInBounds_toArray,List.set_cons_zero,List.set_cons_succ,i64_w,i32_w]
     rfl
    refine two_ (i:=3) (j:=9) (Ni:=some 27) (Nj:=some 8) #[true,true,true,true,true,false,false,false,false,false,false,false] #[true,true,true,false,true,false,false,false,false,true,false,false] rfl rfl rfl rfl (two_of HT_.out (by kernel_rfl)) (by decide) (by decide) (fun K hK => ?_) (fun K hK => ?_)
    ·skip;refine goes_ Try.func19 (by kernel_rfl) rfl #[.agg #[.int .i64 a1_0,.int .i64 a1_1,.int .i64 a1_2]] (by rfl) rfl rfl (by (try simp only [List.map_toArray,List.map_cons,List.map_nil]);first|done|rfl|(simp only [List.length_drop,List.length_take];rfl)) ?_
     with_reducible refine (laws_toAddress.calls a1_0 a1_1 a1_2 t287 t288 t289 _ A9.out).mono ?_
     rintro e w19 ⟨rfl,hb⟩
     refine ⟨_,rfl,?_⟩
     have n0_:=Aside0.mk (Kd.S_below (by (with_reducible repeat (first|apply Kd.S_alloc|apply Kd.S_drewN|apply Kd.S_drew));exact HO286.out) hb)
     have n1_:=Aside0.mk (blk_below (g:=gb282) (o:=.cells #[.int .i64 a1_0,.int .i64 a1_1,.int .i64 a1_2] 35 (0,0)) (by (with_reducible repeat (first|refine blk_drewN ?_ _|refine blk_drew ?_|refine blk_alloc ?_ _));exact BK282.out) hb)
     have n2_:=Aside0.mk (below_step (by repeat (first|(with_reducible first|exact HB.out|apply below_alloc|apply pw_below_drewN|apply below_drew1|refine below_set ?_ GE282.out)|exact HB.out)) hb)
     clear HO286;clear BK282;clear HB;have HO286:=n0_;have BK282:=n1_;have HB:=n2_;clear n0_ n1_ n2_;(try clear hb);(try clear hk);obtain ⟨Ao20,co20,eo20⟩:=Kd.S_slice HO286.out
     (first|subst eo20|(injection eo20 with f1_ f2_ f3_;have f4_:=f1_.symm;have f5_:=f3_.symm;clear f1_ f2_ f3_;subst f4_;subst f5_))
     refine hK.out _ _ ⟨(blk_cell BK282.out 0).trans rfl,(blk_cell BK282.out 1).trans rfl,(blk_cell BK282.out 2).trans rfl⟩ (fun hHeld => ?_)
     clear hK K;refine norm_ (a':=?_) ?_ ?_
     rotate_left
     ·show Act.put _ (some 27) _ = _
      simp only [Act.put,List.setIfInBounds_toArray,List.set_cons_zero,List.set_cons_succ,i64_w,i32_w]
      rfl
     refine two_ (i:=5) (j:=9) (Ni:=some 29) (Nj:=some 8) #[true,true,true,true,true,true,false,false,false,false,false,false] #[true,true,true,true,true,false,false,false,false,true,false,false] rfl rfl rfl rfl (two_of HT_.out (by kernel_rfl)) (by decide) (by decide) (fun K hK => ?_) (fun K hK => ?_)
     ·skip;refine goes_ Try.func36 (by kernel_rfl) rfl #[.slice Ao20 t284.length co20,.agg #[.int .i64 t287,.int .i64 t288,.int .i64 t289],.int .i64 a2] (by rfl) rfl rfl (by (try simp only [List.map_toArray,List.map_cons,List.map_nil]);first|done|rfl|(simp only [List.length_drop,List.length_take];rfl)) ?_
      with_reducible refine (spec_FollowAt.calls k _ _ t284 t287 t288 t289 a2 t290 t291 t294 t295 t296 t297 _ ?side1 ?side2 A10.out).mono ?_
      (case side1 => repeat (first|exact (Kd.S_reads' HO286.out).2.2|(with_reducible refine Kd.C_alloc ?_ _)|(with_reducible refine Kd.C_drewN ?_ _)|(with_reducible refine Kd.C_drew ?_)))
      (case side2 => exact (Kd.S_reads' HO286.out).2.1)
      rintro e w21 ⟨v292,v298,rfl,ho0,ho1,hb⟩
      refine ⟨_,rfl,?_⟩
      have n0_:=Aside0.mk (Kd.S_elder' (by (with_reducible repeat (first|apply Kd.S_alloc|apply Kd.S_drewN|apply Kd.S_drew));exact HO286.out) (Kd.R_base ho0) hb)
      have n1_:=Aside0.mk (Kd.R_lower ho0 (below_size (by repeat (first|(with_reducible first|exact HB.out|apply below_alloc|apply pw_below_drewN|apply below_drew1|refine below_set ?_ GE282.out)|exact HB.out))))
      have n2_:=Aside0.mk (Kd.R_lower ho1 (below_size (by repeat (first|(with_reducible first|exact HB.out|apply below_alloc|apply pw_below_drewN|apply below_drew1|refine below_set ?_ GE282.out)|exact HB.out))))
      have n3_:=Aside0.mk (blk_below (g:=gb282) (o:=.cells #[.int .i64 a1_0,.int .i64 a1_1,.int .i64 a1_2] 35 (0,0)) (by (with_reducible repeat (first|refine blk_drewN ?_ _|refine blk_drew ?_|refine blk_alloc ?_ _));exact BK282.out) hb)
      have n4_:=Aside0.mk (below_step (by repeat (first|(with_reducible first|exact HB.out|apply below_alloc|apply pw_below_drewN|apply below_drew1|refine below_set ?_ GE282.out)|exact HB.out)) hb)
      clear HO286;clear BK282;clear HB;have HO286:=n0_;have HO293:=n1_;have HO299:=n2_;have BK282:=n3_;have HB:=n4_;clear n0_ n1_ n2_ n3_ n4_;(try clear hb);(try clear hk);(try clear ho0);(try clear ho1);refine hK.out _ _ ⟨(blk_cell BK282.out 0).trans rfl,(blk_cell BK282.out 1).trans rfl,(blk_cell BK282.out 2).trans rfl⟩ (fun hHeld => ?_)
      clear hK K;refine norm_ (a':=?_) ?_ ?_
      rotate_left
      ·show Act.put _ (some 29) _ = _
       simp only [Act.put,List.setIfInBounds_toArray,List.set_cons_zero,List.set_cons_succ,i64_w,i32_w]
       rfl
      refine pure_ (i:=6) (N:=some 23) (v:=?_) (a':=?_) #[true,true,true,true,true,true,true,false,false,false,false,false] rfl rfl (any_of HT_.out (by kernel_rfl)) (fun _ _ _ h => h) (Or.inl ⟨by rfl,?_⟩) ?_ ?_
      rotate_left
      ·intro w';go_simp;with_reducible rfl
      rotate_left
      ·simp only [Act.put,List.setIfInBounds_toArray,List.set_cons_zero,List.set_cons_succ,i64_w,i32_w]
       rfl
      refine pure_ (i:=7) (N:=some 30) (v:=?_) (a':=?_) #[true,true,true,true,true,true,true,true,false,false,false,false] rfl rfl (any_of HT_.out (by kernel_rfl)) (fun _ _ _ h => h) (Or.inl ⟨by rfl,?_⟩) ?_ ?_
      rotate_left
      ·intro w';go_simp;with_reducible rfl
      rotate_left
      ·simp only [Act.put,List.setIfInBounds_toArray,List.set_cons_zero,List.set_cons_succ,i64_w,i32_w]
       rfl
      refine pure_ (i:=8) (N:=some 31) (v:=?_) (a':=?_) #[true,true,true,true,true,true,true,true,true,false,false,false] rfl rfl (any_of HT_.out (by kernel_rfl)) (fun _ _ _ h => h) (Or.inl ⟨by rfl,?_⟩) ?_ ?_
      rotate_left
      ·intro w';go_simp;with_reducible rfl
      rotate_left
      ·simp only [Act.put,List.setIfInBounds_toArray,List.set_cons_zero,List.set_cons_succ,i64_w,i32_w]
       rfl
      refine one_ (i:=9) (N:=some 8) #[true,true,true,true,true,true,true,true,true,true,false,false] rfl rfl (one_of HT_.out (by kernel_rfl)) (by decide) (fun K hK => ?_)
      refine box_step ?hg (N:=8) ?hd (cs:=#[.int .i64 0,.slice none 0 0,.int .i64 0,.int .i64 0,.int .i64 0]) (t:=39) ?hr ?_;(case hd => rfl);(case hg => rfl);(case hr => first|(go_simp;done)|(go_simp;rfl))
      intro gb300 hg w22 hbox hb;have n0_:=Aside0.mk (Kd.S_below (by (with_reducible repeat (first|apply Kd.S_alloc|apply Kd.S_drewN|apply Kd.S_drew));exact HO286.out) hb)
      have n1_:=Aside0.mk (Kd.R_below (by (with_reducible repeat (first|apply Kd.R_alloc|apply Kd.R_drewN|apply Kd.R_drew));exact HO293.out) hb)
      have n2_:=Aside0.mk (Kd.R_below (by (with_reducible repeat (first|apply Kd.R_alloc|apply Kd.R_drewN|apply Kd.R_drew));exact HO299.out) hb)
      have n3_:=Aside0.mk (blk_below (g:=gb282) (o:=.cells #[.int .i64 a1_0,.int .i64 a1_1,.int .i64 a1_2] 35 (0,0)) (by (with_reducible repeat (first|refine blk_drewN ?_ _|refine blk_drew ?_|refine blk_alloc ?_ _));exact BK282.out) hb)
      have n4_:=Aside0.mk (below_step (by repeat (first|(with_reducible first|exact HB.out|apply below_alloc|apply pw_below_drewN|apply below_drew1|refine below_set ?_ GE282.out)|exact HB.out)) hb)
      have n5_:=Aside0.mk (hbox)
      have n6_:=Aside0.mk ((by rw [hg];exact (below_size (by repeat (first|(with_reducible first|exact HB.out|apply below_alloc|apply pw_below_drewN|apply below_drew1|refine below_set ?_ GE282.out)|exact HB.out))) : w.heap.size ≤ gb300))
      have n7_:=Aside0.mk ((by rw [hg];exact (below_size (by repeat (first|(with_reducible first|exact HB.out|apply below_alloc|apply pw_below_drewN|apply below_drew1|refine below_set ?_ GE282.out)|exact HB.out))) : w.heap.size ≤ gb300))
      have n8_:=Aside0.mk ((by rw [hg];exact Nat.ne_of_lt (blk_lt (g:=gb282) (o:=.cells #[.int .i64 a1_0,.int .i64 a1_1,.int .i64 a1_2] 35 (0,0)) (by (with_reducible repeat (first|refine blk_drewN ?_ _|refine blk_drew ?_|refine blk_alloc ?_ _));exact BK282.out)) : gb282 ≠ gb300))
      have n9_:=Aside0.mk ((by rw [hg];exact Nat.ne_of_gt (blk_lt (g:=gb282) (o:=.cells #[.int .i64 a1_0,.int .i64 a1_1,.int .i64 a1_2] 35 (0,0)) (by (with_reducible repeat (first|refine blk_drewN ?_ _|refine blk_drew ?_|refine blk_alloc ?_ _));exact BK282.out)) : gb300 ≠ gb282))
      clear HO286;clear HO293;clear HO299;clear BK282;clear HB;have HO286:=n0_;have HO293:=n1_;have HO299:=n2_;have BK282:=n3_;have HB:=n4_;have BK300:=n5_;have GW300:=n6_;have GE300:=n7_;have NB282_300:=n8_;have NB300_282:=n9_;clear n0_ n1_ n2_ n3_ n4_ n5_ n6_ n7_ n8_ n9_;clear hb hbox hg;refine hK.out _ _ ⟨(blk_cell BK282.out 0).trans rfl,(blk_cell BK282.out 1).trans rfl,(blk_cell BK282.out 2).trans rfl⟩ (fun hHeld => ?_)
      clear hK K;refine norm_ (a':=?_) ?_ ?_
      rotate_left
      ·show Act.put _ (some 8) _ = _
       simp only [Act.put,List.setIfInBounds_toArray,List.set_cons_zero,List.set_cons_succ,i64_w,i32_w]
       rfl
      exact norm_ (by simp only [putAll,Act.put,List.setIfInBounds_toArray,List.set_cons_zero,List.set_cons_succ]) (hCont (.slice Ao20 t284.length co20,v292,v298,gb300) _ ⟨hHeld,(by (with_reducible repeat (first|apply Kd.S_alloc|apply Kd.S_drewN|apply Kd.S_drew));exact Kd.S_mono HO286.out (fun _ hk => hk.2)),(by (with_reducible repeat (first|apply Kd.R_alloc|apply Kd.R_drewN|apply Kd.R_drew));exact HO293.out),(by (with_reducible repeat (first|apply Kd.R_alloc|apply Kd.R_drewN|apply Kd.R_drew));exact HO299.out),(by (with_reducible repeat (first|refine blk_drewN ?_ _|refine blk_drew ?_|refine blk_alloc ?_ _));exact BK282.out),(by (with_reducible repeat (first|refine blk_drewN ?_ _|refine blk_drew ?_|refine blk_alloc ?_ _));exact BK300.out),GW300.out,GE300.out,NB282_300.out,NB300_282.out,(by repeat (first|(with_reducible first|exact HB.out|apply below_alloc|apply pw_below_drewN|apply below_drew1|refine below_set ?_ GE282.out|refine below_set ?_ GE300.out)|exact HB.out))⟩)
     ·skip;refine box_step ?hg (N:=8) ?hd (cs:=#[.int .i64 0,.slice none 0 0,.int .i64 0,.int .i64 0,.int .i64 0]) (t:=39) ?hr ?_;(case hd => rfl);(case hg => rfl);(case hr => first|(go_simp;done)|(go_simp;rfl))
      intro gb300 hg w20 hbox hb;have n0_:=Aside0.mk (Kd.S_below (by (with_reducible repeat (first|apply Kd.S_alloc|apply Kd.S_drewN|apply Kd.S_drew));exact HO286.out) hb)
      have n1_:=Aside0.mk (blk_below (g:=gb282) (o:=.cells #[.int .i64 a1_0,.int .i64 a1_1,.int .i64 a1_2] 35 (0,0)) (by (with_reducible repeat (first|refine blk_drewN ?_ _|refine blk_drew ?_|refine blk_alloc ?_ _));exact BK282.out) hb)
      have n2_:=Aside0.mk (below_step (by repeat (first|(with_reducible first|exact HB.out|apply below_alloc|apply pw_below_drewN|apply below_drew1|refine below_set ?_ GE282.out)|exact HB.out)) hb)
      have n3_:=Aside0.mk (hbox)
      have n4_:=Aside0.mk ((by rw [hg];exact (below_size (by repeat (first|(with_reducible first|exact HB.out|apply below_alloc|apply pw_below_drewN|apply below_drew1|refine below_set ?_ GE282.out)|exact HB.out))) : w.heap.size ≤ gb300))
      have n5_:=Aside0.mk ((by rw [hg];exact (below_size (by repeat (first|(with_reducible first|exact HB.out|apply below_alloc|apply pw_below_drewN|apply below_drew1|refine below_set ?_ GE282.out)|exact HB.out))) : w.heap.size ≤ gb300))
      have n6_:=Aside0.mk ((by rw [hg];exact Nat.ne_of_lt (blk_lt (g:=gb282) (o:=.cells #[.int .i64 a1_0,.int .i64 a1_1,.int .i64 a1_2] 35 (0,0)) (by (with_reducible repeat (first|refine blk_drewN ?_ _|refine blk_drew ?_|refine blk_alloc ?_ _));exact BK282.out)) : gb282 ≠ gb300))
      have n7_:=Aside0.mk ((by rw [hg];exact Nat.ne_of_gt (blk_lt (g:=gb282) (o:=.cells #[.int .i64 a1_0,.int .i64 a1_1,.int .i64 a1_2] 35 (0,0)) (by (with_reducible repeat (first|refine blk_drewN ?_ _|refine blk_drew ?_|refine blk_alloc ?_ _));exact BK282.out)) : gb300 ≠ gb282))
      clear HO286;clear BK282;clear HB;have HO286:=n0_;have BK282:=n1_;have HB:=n2_;have BK300:=n3_;have GW300:=n4_;have GE300:=n5_;have NB282_300:=n6_;have NB300_282:=n7_;clear n0_ n1_ n2_ n3_ n4_ n5_ n6_ n7_;clear hb hbox hg;obtain ⟨Ao21,co21,eo21⟩:=Kd.S_slice HO286.out
      (first|subst eo21|(injection eo21 with f1_ f2_ f3_;have f4_:=f1_.symm;have f5_:=f3_.symm;clear f1_ f2_ f3_;subst f4_;subst f5_))
      refine hK.out _ _ ⟨(blk_cell BK282.out 0).trans rfl,(blk_cell BK282.out 1).trans rfl,(blk_cell BK282.out 2).trans rfl⟩ (fun hHeld => ?_)
      clear hK K;refine norm_ (a':=?_) ?_ ?_
      rotate_left
      ·show Act.put _ (some 8) _ = _
       simp only [Act.put,List.setIfInBounds_toArray,List.set_cons_zero,List.set_cons_succ,i64_w,i32_w]
       rfl
      refine one_ (i:=5) (N:=some 29) #[true,true,true,true,true,true,false,false,false,true,false,false] rfl rfl (one_of HT_.out (by kernel_rfl)) (by decide) (fun K hK => ?_)
      refine goes_ Try.func36 (by kernel_rfl) rfl #[.slice Ao21 t284.length co21,.agg #[.int .i64 t287,.int .i64 t288,.int .i64 t289],.int .i64 a2] (by rfl) rfl rfl (by (try simp only [List.map_toArray,List.map_cons,List.map_nil]);first|done|rfl|(simp only [List.length_drop,List.length_take];rfl)) ?_
      with_reducible refine (spec_FollowAt.calls k _ _ t284 t287 t288 t289 a2 t290 t291 t294 t295 t296 t297 _ ?side1 ?side2 A10.out).mono ?_
      (case side1 => repeat (first|exact (Kd.S_reads' HO286.out).2.2|(with_reducible refine Kd.C_alloc ?_ _)|(with_reducible refine Kd.C_drewN ?_ _)|(with_reducible refine Kd.C_drew ?_)))
      (case side2 => exact (Kd.S_reads' HO286.out).2.1)
      rintro e w22 ⟨v292,v298,rfl,ho0,ho1,hb⟩
      refine ⟨_,rfl,?_⟩
      have n0_:=Aside0.mk (Kd.S_elder' (by (with_reducible repeat (first|apply Kd.S_alloc|apply Kd.S_drewN|apply Kd.S_drew));exact HO286.out) (Kd.R_base ho0) hb)
      have n1_:=Aside0.mk (Kd.R_lower ho0 (below_size (by repeat (first|(with_reducible first|exact HB.out|apply below_alloc|apply pw_below_drewN|apply below_drew1|refine below_set ?_ GE282.out|refine below_set ?_ GE300.out)|exact HB.out))))
      have n2_:=Aside0.mk (Kd.R_lower ho1 (below_size (by repeat (first|(with_reducible first|exact HB.out|apply below_alloc|apply pw_below_drewN|apply below_drew1|refine below_set ?_ GE282.out|refine below_set ?_ GE300.out)|exact HB.out))))
      have n3_:=Aside0.mk (blk_below (g:=gb282) (o:=.cells #[.int .i64 a1_0,.int .i64 a1_1,.int .i64 a1_2] 35 (0,0)) (by (with_reducible repeat (first|refine blk_drewN ?_ _|refine blk_drew ?_|refine blk_alloc ?_ _));exact BK282.out) hb)
      have n4_:=Aside0.mk (blk_below (g:=gb300) (o:=.cells #[.int .i64 0,.slice none 0 0,.int .i64 0,.int .i64 0,.int .i64 0] 39 (0,0)) (by (with_reducible repeat (first|refine blk_drewN ?_ _|refine blk_drew ?_|refine blk_alloc ?_ _));exact BK300.out) hb)
      have n5_:=Aside0.mk (below_step (by repeat (first|(with_reducible first|exact HB.out|apply below_alloc|apply pw_below_drewN|apply below_drew1|refine below_set ?_ GE282.out|refine below_set ?_ GE300.out)|exact HB.out)) hb)
      clear HO286;clear BK282;clear BK300;clear HB;have HO286:=n0_;have HO293:=n1_;have HO299:=n2_;have BK282:=n3_;have BK300:=n4_;have HB:=n5_;clear n0_ n1_ n2_ n3_ n4_ n5_;(try clear hb);(try clear hk);(try clear ho0);(try clear ho1);refine hK.out _ _ ⟨(blk_cell BK282.out 0).trans rfl,(blk_cell BK282.out 1).trans rfl,(blk_cell BK282.out 2).trans rfl⟩ (fun hHeld => ?_)
      clear hK K;refine norm_ (a':=?_) ?_ ?_
      rotate_left
      ·show Act.put _ (some 29) _ = _
       simp only [Act.put,List.setIfInBounds_toArray,List.set_cons_zero,List.set_cons_succ,i64_w,i32_w]
       rfl
      refine pure_ (i:=6) (N:=some 23) (v:=?_) (a':=?_) #[true,true,true,true,true,true,true,false,false,true,false,false] rfl rfl (any_of HT_.out (by kernel_rfl)) (fun _ _ _ h => h) (Or.inl ⟨by rfl,?_⟩) ?_ ?_
      rotate_left
      ·intro w';go_simp;with_reducible rfl
      rotate_left
      ·simp only [Act.put,List.setIfInBounds_toArray,List.set_cons_zero,List.set_cons_succ,i64_w,i32_w]
       rfl
      refine pure_ (i:=7) (N:=some 30) (v:=?_) (a':=?_) #[true,true,true,true,true,true,true,true,false,true,false,false] rfl rfl (any_of HT_.out (by kernel_rfl)) (fun _ _ _ h => h) (Or.inl ⟨by rfl,?_⟩) ?_ ?_
      rotate_left
      ·intro w';go_simp;with_reducible rfl
      rotate_left
      ·simp only [Act.put,List.setIfInBounds_toArray,List.set_cons_zero,List.set_cons_succ,i64_w,i32_w]
       rfl
      refine pure_ (i:=8) (N:=some 31) (v:=?_) (a':=?_) #[true,true,true,true,true,true,true,true,true,true,false,false] rfl rfl (any_of HT_.out (by kernel_rfl)) (fun _ _ _ h => h) (Or.inl ⟨by rfl,?_⟩) ?_ ?_
      rotate_left
      ·intro w';go_simp;with_reducible rfl
      rotate_left
      ·simp only [Act.put,List.setIfInBounds_toArray,List.set_cons_zero,List.set_cons_succ,i64_w,i32_w]
       rfl
      exact norm_ (by simp only [putAll,Act.put,List.setIfInBounds_toArray,List.set_cons_zero,List.set_cons_succ]) (hCont (.slice Ao21 t284.length co21,v292,v298,gb300) _ ⟨hHeld,(by (with_reducible repeat (first|apply Kd.S_alloc|apply Kd.S_drewN|apply Kd.S_drew));exact Kd.S_mono HO286.out (fun _ hk => hk.2)),(by (with_reducible repeat (first|apply Kd.R_alloc|apply Kd.R_drewN|apply Kd.R_drew));exact HO293.out),(by (with_reducible repeat (first|apply Kd.R_alloc|apply Kd.R_drewN|apply Kd.R_drew));exact HO299.out),(by (with_reducible repeat (first|refine blk_drewN ?_ _|refine blk_drew ?_|refine blk_alloc ?_ _));exact BK282.out),(by (with_reducible repeat (first|refine blk_drewN ?_ _|refine blk_drew ?_|refine blk_alloc ?_ _));exact BK300.out),GW300.out,GE300.out,NB282_300.out,NB300_282.out,(by repeat (first|(with_reducible first|exact HB.out|apply below_alloc|apply pw_below_drewN|apply below_drew1|refine below_set ?_ GE282.out|refine below_set ?_ GE300.out)|exact HB.out))⟩)
    ·skip;refine box_step ?hg (N:=8) ?hd (cs:=#[.int .i64 0,.slice none 0 0,.int .i64 0,.int .i64 0,.int .i64 0]) (t:=39) ?hr ?_;(case hd => rfl);(case hg => rfl);(case hr => first|(go_simp;done)|(go_simp;rfl))
     intro gb300 hg w19 hbox hb;have n0_:=Aside0.mk (Kd.S_below (by (with_reducible repeat (first|apply Kd.S_alloc|apply Kd.S_drewN|apply Kd.S_drew));exact HO286.out) hb)
     have n1_:=Aside0.mk (blk_below (g:=gb282) (o:=.cells #[.int .i64 a1_0,.int .i64 a1_1,.int .i64 a1_2] 35 (0,0)) (by (with_reducible repeat (first|refine blk_drewN ?_ _|refine blk_drew ?_|refine blk_alloc ?_ _));exact BK282.out) hb)
     have n2_:=Aside0.mk (below_step (by repeat (first|(with_reducible first|exact HB.out|apply below_alloc|apply pw_below_drewN|apply below_drew1|refine below_set ?_ GE282.out)|exact HB.out)) hb)
     have n3_:=Aside0.mk (hbox)
     have n4_:=Aside0.mk ((by rw [hg];exact (below_size (by repeat (first|(with_reducible first|exact HB.out|apply below_alloc|apply pw_below_drewN|apply below_drew1|refine below_set ?_ GE282.out)|exact HB.out))) : w.heap.size ≤ gb300))
     have n5_:=Aside0.mk ((by rw [hg];exact (below_size (by repeat (first|(with_reducible first|exact HB.out|apply below_alloc|apply pw_below_drewN|apply below_drew1|refine below_set ?_ GE282.out)|exact HB.out))) : w.heap.size ≤ gb300))
     have n6_:=Aside0.mk ((by rw [hg];exact Nat.ne_of_lt (blk_lt (g:=gb282) (o:=.cells #[.int .i64 a1_0,.int .i64 a1_1,.int .i64 a1_2] 35 (0,0)) (by (with_reducible repeat (first|refine blk_drewN ?_ _|refine blk_drew ?_|refine blk_alloc ?_ _));exact BK282.out)) : gb282 ≠ gb300))
     have n7_:=Aside0.mk ((by rw [hg];exact Nat.ne_of_gt (blk_lt (g:=gb282) (o:=.cells #[.int .i64 a1_0,.int .i64 a1_1,.int .i64 a1_2] 35 (0,0)) (by (with_reducible repeat (first|refine blk_drewN ?_ _|refine blk_drew ?_|refine blk_alloc ?_ _));exact BK282.out)) : gb300 ≠ gb282))
     clear HO286;clear BK282;clear HB;have HO286:=n0_;have BK282:=n1_;have HB:=n2_;have BK300:=n3_;have GW300:=n4_;have GE300:=n5_;have NB282_300:=n6_;have NB300_282:=n7_;clear n0_ n1_ n2_ n3_ n4_ n5_ n6_ n7_;clear hb hbox hg;refine hK.out _ _ ⟨(blk_cell BK282.out 0).trans rfl,(blk_cell BK282.out 1).trans rfl,(blk_cell BK282.out 2).trans rfl⟩ (fun hHeld => ?_)
     clear hK K;refine norm_ (a':=?_) ?_ ?_
     rotate_left
     ·show Act.put _ (some 8) _ = _
      simp only [Act.put,List.setIfInBounds_toArray,List.set_cons_zero,List.set_cons_succ,i64_w,i32_w]
      rfl
     refine one_ (i:=3) (N:=some 27) #[true,true,true,true,true,false,false,false,false,true,false,false] rfl rfl (one_of HT_.out (by kernel_rfl)) (by decide) (fun K hK => ?_)
     refine goes_ Try.func19 (by kernel_rfl) rfl #[.agg #[.int .i64 a1_0,.int .i64 a1_1,.int .i64 a1_2]] (by rfl) rfl rfl (by (try simp only [List.map_toArray,List.map_cons,List.map_nil]);first|done|rfl|(simp only [List.length_drop,List.length_take];rfl)) ?_
     with_reducible refine (laws_toAddress.calls a1_0 a1_1 a1_2 t287 t288 t289 _ A9.out).mono ?_
     rintro e w20 ⟨rfl,hb⟩
     refine ⟨_,rfl,?_⟩
     have n0_:=Aside0.mk (Kd.S_below (by (with_reducible repeat (first|apply Kd.S_alloc|apply Kd.S_drewN|apply Kd.S_drew));exact HO286.out) hb)
     have n1_:=Aside0.mk (blk_below (g:=gb282) (o:=.cells #[.int .i64 a1_0,.int .i64 a1_1,.int .i64 a1_2] 35 (0,0)) (by (with_reducible repeat (first|refine blk_drewN ?_ _|refine blk_drew ?_|refine blk_alloc ?_ _));exact BK282.out) hb)
     have n2_:=Aside0.mk (blk_below (g:=gb300) (o:=.cells #[.int .i64 0,.slice none 0 0,.int .i64 0,.int .i64 0,.int .i64 0] 39 (0,0)) (by (with_reducible repeat (first|refine blk_drewN ?_ _|refine blk_drew ?_|refine blk_alloc ?_ _));exact BK300.out) hb)
     have n3_:=Aside0.mk (below_step (by repeat (first|(with_reducible first|exact HB.out|apply below_alloc|apply pw_below_drewN|apply below_drew1|refine below_set ?_ GE282.out|refine below_set ?_ GE300.out)|exact HB.out)) hb)
     clear HO286;clear BK282;clear BK300;clear HB;have HO286:=n0_;have BK282:=n1_;have BK300:=n2_;have HB:=n3_;clear n0_ n1_ n2_ n3_;(try clear hb);(try clear hk);obtain ⟨Ao21,co21,eo21⟩:=Kd.S_slice HO286.out
     (first|subst eo21|(injection eo21 with f1_ f2_ f3_;have f4_:=f1_.symm;have f5_:=f3_.symm;clear f1_ f2_ f3_;subst f4_;subst f5_))
     refine hK.out _ _ ⟨(blk_cell BK282.out 0).trans rfl,(blk_cell BK282.out 1).trans rfl,(blk_cell BK282.out 2).trans rfl⟩ (fun hHeld => ?_)
     clear hK K;refine norm_ (a':=?_) ?_ ?_
     rotate_left
     ·show Act.put _ (some 27) _ = _
      simp only [Act.put,List.setIfInBounds_toArray,List.set_cons_zero,List.set_cons_succ,i64_w,i32_w]
      rfl
     refine one_ (i:=5) (N:=some 29) #[true,true,true,true,true,true,false,false,false,true,false,false] rfl rfl (one_of HT_.out (by kernel_rfl)) (by decide) (fun K hK => ?_)
     refine goes_ Try.func36 (by kernel_rfl) rfl #[.slice Ao21 t284.length co21,.agg #[.int .i64 t287,.int .i64 t288,.int .i64 t289],.int .i64 a2] (by rfl) rfl rfl (by (try simp only [List.map_toArray,List.map_cons,List.map_nil]);first|done|rfl|(simp only [List.length_drop,List.length_take];rfl)) ?_
     with_reducible refine (spec_FollowAt.calls k _ _ t284 t287 t288 t289 a2 t290 t291 t294 t295 t296 t297 _ ?side1 ?side2 A10.out).mono ?_
     (case side1 => repeat (first|exact (Kd.S_reads' HO286.out).2.2|(with_reducible refine Kd.C_alloc ?_ _)|(with_reducible refine Kd.C_drewN ?_ _)|(with_reducible refine Kd.C_drew ?_)))
     (case side2 => exact (Kd.S_reads' HO286.out).2.1)
     rintro e w22 ⟨v292,v298,rfl,ho0,ho1,hb⟩
     refine ⟨_,rfl,?_⟩
     have n0_:=Aside0.mk (Kd.S_elder' (by (with_reducible repeat (first|apply Kd.S_alloc|apply Kd.S_drewN|apply Kd.S_drew));exact HO286.out) (Kd.R_base ho0) hb)
     have n1_:=Aside0.mk (Kd.R_lower ho0 (below_size (by repeat (first|(with_reducible first|exact HB.out|apply below_alloc|apply pw_below_drewN|apply below_drew1|refine below_set ?_ GE282.out|refine below_set ?_ GE300.out)|exact HB.out))))
     have n2_:=Aside0.mk (Kd.R_lower ho1 (below_size (by repeat (first|(with_reducible first|exact HB.out|apply below_alloc|apply pw_below_drewN|apply below_drew1|refine below_set ?_ GE282.out|refine below_set ?_ GE300.out)|exact HB.out))))
     have n3_:=Aside0.mk (blk_below (g:=gb282) (o:=.cells #[.int .i64 a1_0,.int .i64 a1_1,.int .i64 a1_2] 35 (0,0)) (by (with_reducible repeat (first|refine blk_drewN ?_ _|refine blk_drew ?_|refine blk_alloc ?_ _));exact BK282.out) hb)
     have n4_:=Aside0.mk (blk_below (g:=gb300) (o:=.cells #[.int .i64 0,.slice none 0 0,.int .i64 0,.int .i64 0,.int .i64 0] 39 (0,0)) (by (with_reducible repeat (first|refine blk_drewN ?_ _|refine blk_drew ?_|refine blk_alloc ?_ _));exact BK300.out) hb)
     have n5_:=Aside0.mk (below_step (by repeat (first|(with_reducible first|exact HB.out|apply below_alloc|apply pw_below_drewN|apply below_drew1|refine below_set ?_ GE282.out|refine below_set ?_ GE300.out)|exact HB.out)) hb)
     clear HO286;clear BK282;clear BK300;clear HB;have HO286:=n0_;have HO293:=n1_;have HO299:=n2_;have BK282:=n3_;have BK300:=n4_;have HB:=n5_;clear n0_ n1_ n2_ n3_ n4_ n5_;(try clear hb);(try clear hk);(try clear ho0);(try clear ho1);refine hK.out _ _ ⟨(blk_cell BK282.out 0).trans rfl,(blk_cell BK282.out 1).trans rfl,(blk_cell BK282.out 2).trans rfl⟩ (fun hHeld => ?_)
     clear hK K;refine norm_ (a':=?_) ?_ ?_
     rotate_left
     ·show Act.put _ (some 29) _ = _
      simp only [Act.put,List.setIfInBounds_toArray,List.set_cons_zero,List.set_cons_succ,i64_w,i32_w]
      rfl
     refine pure_ (i:=6) (N:=some 23) (v:=?_) (a':=?_) #[true,true,true,true,true,true,true,false,false,true,false,false] rfl rfl (any_of HT_.out (by kernel_rfl)) (fun _ _ _ h => h) (Or.inl ⟨by rfl,?_⟩) ?_ ?_
     rotate_left
     ·intro w';go_simp;with_reducible rfl
     rotate_left
     ·simp only [Act.put,List.setIfInBounds_toArray,List.set_cons_zero,List.set_cons_succ,i64_w,i32_w]
      rfl
     refine pure_ (i:=7) (N:=some 30) (v:=?_) (a':=?_) #[true,true,true,true,true,true,true,true,false,true,false,false] rfl rfl (any_of HT_.out (by kernel_rfl)) (fun _ _ _ h => h) (Or.inl ⟨by rfl,?_⟩) ?_ ?_
     rotate_left
     ·intro w';go_simp;with_reducible rfl
     rotate_left
     ·simp only [Act.put,List.setIfInBounds_toArray,List.set_cons_zero,List.set_cons_succ,i64_w,i32_w]
      rfl
     refine pure_ (i:=8) (N:=some 31) (v:=?_) (a':=?_) #[true,true,true,true,true,true,true,true,true,true,false,false] rfl rfl (any_of HT_.out (by kernel_rfl)) (fun _ _ _ h => h) (Or.inl ⟨by rfl,?_⟩) ?_ ?_
     rotate_left
     ·intro w';go_simp;with_reducible rfl
     rotate_left
     ·simp only [Act.put,List.setIfInBounds_toArray,List.set_cons_zero,List.set_cons_succ,i64_w,i32_w]
      rfl
     exact norm_ (by simp only [putAll,Act.put,List.setIfInBounds_toArray,List.set_cons_zero,List.set_cons_succ]) (hCont (.slice Ao21 t284.length co21,v292,v298,gb300) _ ⟨hHeld,(by (with_reducible repeat (first|apply Kd.S_alloc|apply Kd.S_drewN|apply Kd.S_drew));exact Kd.S_mono HO286.out (fun _ hk => hk.2)),(by (with_reducible repeat (first|apply Kd.R_alloc|apply Kd.R_drewN|apply Kd.R_drew));exact HO293.out),(by (with_reducible repeat (first|apply Kd.R_alloc|apply Kd.R_drewN|apply Kd.R_drew));exact HO299.out),(by (with_reducible repeat (first|refine blk_drewN ?_ _|refine blk_drew ?_|refine blk_alloc ?_ _));exact BK282.out),(by (with_reducible repeat (first|refine blk_drewN ?_ _|refine blk_drew ?_|refine blk_alloc ?_ _));exact BK300.out),GW300.out,GE300.out,NB282_300.out,NB300_282.out,(by repeat (first|(with_reducible first|exact HB.out|apply below_alloc|apply pw_below_drewN|apply below_drew1|refine below_set ?_ GE282.out|refine below_set ?_ GE300.out)|exact HB.out))⟩)
   ·skip;refine box_step ?hg (N:=8) ?hd (cs:=#[.int .i64 0,.slice none 0 0,.int .i64 0,.int .i64 0,.int .i64 0]) (t:=39) ?hr ?_;(case hd => rfl);(case hg => rfl);(case hr => first|(go_simp;done)|(go_simp;rfl))
    intro gb300 hg w18 hbox hb;have n0_:=Aside0.mk (blk_below (g:=gb282) (o:=.cells #[.int .i64 a1_0,.int .i64 a1_1,.int .i64 a1_2] 35 (0,0)) (by (with_reducible repeat (first|refine blk_drewN ?_ _|refine blk_drew ?_|refine blk_alloc ?_ _));exact BK282.out) hb)
    have n1_:=Aside0.mk (below_step (by repeat (first|(with_reducible first|exact HB.out|apply below_alloc|apply pw_below_drewN|apply below_drew1|refine below_set ?_ GE282.out)|exact HB.out)) hb)
    have n2_:=Aside0.mk (hbox)
    have n3_:=Aside0.mk ((by rw [hg];exact (below_size (by repeat (first|(with_reducible first|exact HB.out|apply below_alloc|apply pw_below_drewN|apply below_drew1|refine below_set ?_ GE282.out)|exact HB.out))) : w.heap.size ≤ gb300))
    have n4_:=Aside0.mk ((by rw [hg];exact (below_size (by repeat (first|(with_reducible first|exact HB.out|apply below_alloc|apply pw_below_drewN|apply below_drew1|refine below_set ?_ GE282.out)|exact HB.out))) : w.heap.size ≤ gb300))
    have n5_:=Aside0.mk ((by rw [hg];exact Nat.ne_of_lt (blk_lt (g:=gb282) (o:=.cells #[.int .i64 a1_0,.int .i64 a1_1,.int .i64 a1_2] 35 (0,0)) (by (with_reducible repeat (first|refine blk_drewN ?_ _|refine blk_drew ?_|refine blk_alloc ?_ _));exact BK282.out)) : gb282 ≠ gb300))
    have n6_:=Aside0.mk ((by rw [hg];exact Nat.ne_of_gt (blk_lt (g:=gb282) (o:=.cells #[.int .i64 a1_0,.int .i64 a1_1,.int .i64 a1_2] 35 (0,0)) (by (with_reducible repeat (first|refine blk_drewN ?_ _|refine blk_drew ?_|refine blk_alloc ?_ _));exact BK282.out)) : gb300 ≠ gb282))
    clear BK282;clear HB;have BK282:=n0_;have HB:=n1_;have BK300:=n2_;have GW300:=n3_;have GE300:=n4_;have NB282_300:=n5_;have NB300_282:=n6_;clear n0_ n1_ n2_ n3_ n4_ n5_ n6_;clear hb hbox hg;refine hK.out _ _ ⟨(blk_cell BK282.out 0).trans rfl,(blk_cell BK282.out 1).trans rfl,(blk_cell BK282.out 2).trans rfl⟩ (fun hHeld => ?_)
    clear hK K;refine norm_ (a':=?_) ?_ ?_
    rotate_left
    ·show Act.put _ (some 8) _ = _
     simp only [Act.put,List.setIfInBounds_toArray,List.set_cons_zero,List.set_cons_succ,i64_w,i32_w]
     rfl
    refine one_ (i:=1) (N:=some 25) #[true,true,true,false,true,false,false,false,false,true,false,false] rfl rfl (one_of HT_.out (by kernel_rfl)) (by decide) (fun K hK => ?_)
    refine goes_ Try.func18 (by kernel_rfl) rfl #[.slice A0 l0.length c0] (by rfl) rfl rfl (by (try simp only [List.map_toArray,List.map_cons,List.map_nil]);first|done|rfl|(simp only [List.length_drop,List.length_take];rfl)) ?_
    with_reducible refine (laws_toVersionS.calls k _ _ l0 t284 _ ?side1 ?side2 A8.out).mono ?_
    (case side1 => repeat (first|exact (Kd.C_below HR0.out HB.out)|(with_reducible refine Kd.C_alloc ?_ _)|(with_reducible refine Kd.C_drewN ?_ _)|(with_reducible refine Kd.C_drew ?_)))
    (case side2 => exact HC0.out)
    rintro e w19 ⟨v285,rfl,ho0,hb⟩
    refine ⟨_,rfl,?_⟩
    have n0_:=Aside0.mk (Kd.S_lower ho0 (below_size (by repeat (first|(with_reducible first|exact HB.out|apply below_alloc|apply pw_below_drewN|apply below_drew1|refine below_set ?_ GE282.out|refine below_set ?_ GE300.out)|exact HB.out))))
    have n1_:=Aside0.mk (blk_below (g:=gb282) (o:=.cells #[.int .i64 a1_0,.int .i64 a1_1,.int .i64 a1_2] 35 (0,0)) (by (with_reducible repeat (first|refine blk_drewN ?_ _|refine blk_drew ?_|refine blk_alloc ?_ _));exact BK282.out) hb)
    have n2_:=Aside0.mk (blk_below (g:=gb300) (o:=.cells #[.int .i64 0,.slice none 0 0,.int .i64 0,.int .i64 0,.int .i64 0] 39 (0,0)) (by (with_reducible repeat (first|refine blk_drewN ?_ _|refine blk_drew ?_|refine blk_alloc ?_ _));exact BK300.out) hb)
    have n3_:=Aside0.mk (below_step (by repeat (first|(with_reducible first|exact HB.out|apply below_alloc|apply pw_below_drewN|apply below_drew1|refine below_set ?_ GE282.out|refine below_set ?_ GE300.out)|exact HB.out)) hb)
    clear BK282;clear BK300;clear HB;have HO286:=n0_;have BK282:=n1_;have BK300:=n2_;have HB:=n3_;clear n0_ n1_ n2_ n3_;(try clear hb);(try clear hk);(try clear ho0);refine hK.out _ _ ⟨(blk_cell BK282.out 0).trans rfl,(blk_cell BK282.out 1).trans rfl,(blk_cell BK282.out 2).trans rfl⟩ (fun hHeld => ?_)
    clear hK K;refine norm_ (a':=?_) ?_ ?_
    rotate_left
    ·show Act.put _ (some 25) _ = _
     simp only [Act.put,List.setIfInBounds_toArray,List.set_cons_zero,List.set_cons_succ,i64_w,i32_w]
     rfl
    refine one_ (i:=3) (N:=some 27) #[true,true,true,true,true,false,false,false,false,true,false,false] rfl rfl (one_of HT_.out (by kernel_rfl)) (by decide) (fun K hK => ?_)
    refine goes_ Try.func19 (by kernel_rfl) rfl #[.agg #[.int .i64 a1_0,.int .i64 a1_1,.int .i64 a1_2]] (by rfl) rfl rfl (by (try simp only [List.map_toArray,List.map_cons,List.map_nil]);first|done|rfl|(simp only [List.length_drop,List.length_take];rfl)) ?_
    with_reducible refine (laws_toAddress.calls a1_0 a1_1 a1_2 t287 t288 t289 _ A9.out).mono ?_
    rintro e w20 ⟨rfl,hb⟩
    refine ⟨_,rfl,?_⟩
    have n0_:=Aside0.mk (Kd.S_below (by (with_reducible repeat (first|apply Kd.S_alloc|apply Kd.S_drewN|apply Kd.S_drew));exact HO286.out) hb)
    have n1_:=Aside0.mk (blk_below (g:=gb282) (o:=.cells #[.int .i64 a1_0,.int .i64 a1_1,.int .i64 a1_2] 35 (0,0)) (by (with_reducible repeat (first|refine blk_drewN ?_ _|refine blk_drew ?_|refine blk_alloc ?_ _));exact BK282.out) hb)
    have n2_:=Aside0.mk (blk_below (g:=gb300) (o:=.cells #[.int .i64 0,.slice none 0 0,.int .i64 0,.int .i64 0,.int .i64 0] 39 (0,0)) (by (with_reducible repeat (first|refine blk_drewN ?_ _|refine blk_drew ?_|refine blk_alloc ?_ _));exact BK300.out) hb)
    have n3_:=Aside0.mk (below_step (by repeat (first|(with_reducible first|exact HB.out|apply below_alloc|apply pw_below_drewN|apply below_drew1|refine below_set ?_ GE282.out|refine below_set ?_ GE300.out)|exact HB.out)) hb)
    clear HO286;clear BK282;clear BK300;clear HB;have HO286:=n0_;have BK282:=n1_;have BK300:=n2_;have HB:=n3_;clear n0_ n1_ n2_ n3_;(try clear hb);(try clear hk);obtain ⟨Ao21,co21,eo21⟩:=Kd.S_slice HO286.out
    (first|subst eo21|(injection eo21 with f1_ f2_ f3_;have f4_:=f1_.symm;have f5_:=f3_.symm;clear f1_ f2_ f3_;subst f4_;subst f5_))
    refine hK.out _ _ ⟨(blk_cell BK282.out 0).trans rfl,(blk_cell BK282.out 1).trans rfl,(blk_cell BK282.out 2).trans rfl⟩ (fun hHeld => ?_)
    clear hK K;refine norm_ (a':=?_) ?_ ?_
    rotate_left
    ·show Act.put _ (some 27) _ = _
     simp only [Act.put,List.setIfInBounds_toArray,List.set_cons_zero,List.set_cons_succ,i64_w,i32_w]
     rfl
    refine one_ (i:=5) (N:=some 29) #[true,true,true,true,true,true,false,false,false,true,false,false] rfl rfl (one_of HT_.out (by kernel_rfl)) (by decide) (fun K hK => ?_)
    refine goes_ Try.func36 (by kernel_rfl) rfl #[.slice Ao21 t284.length co21,.agg #[.int .i64 t287,.int .i64 t288,.int .i64 t289],.int .i64 a2] (by rfl) rfl rfl (by (try simp only [List.map_toArray,List.map_cons,List.map_nil]);first|done|rfl|(simp only [List.length_drop,List.length_take];rfl)) ?_
    with_reducible refine (spec_FollowAt.calls k _ _ t284 t287 t288 t289 a2 t290 t291 t294 t295 t296 t297 _ ?side1 ?side2 A10.out).mono ?_
    (case side1 => repeat (first|exact (Kd.S_reads' HO286.out).2.2|(with_reducible refine Kd.C_alloc ?_ _)|(with_reducible refine Kd.C_drewN ?_ _)|(with_reducible refine Kd.C_drew ?_)))
    (case side2 => exact (Kd.S_reads' HO286.out).2.1)
    rintro e w22 ⟨v292,v298,rfl,ho0,ho1,hb⟩
    refine ⟨_,rfl,?_⟩
    have n0_:=Aside0.mk (Kd.S_elder' (by (with_reducible repeat (first|apply Kd.S_alloc|apply Kd.S_drewN|apply Kd.S_drew));exact HO286.out) (Kd.R_base ho0) hb)
    have n1_:=Aside0.mk (Kd.R_lower ho0 (below_size (by repeat (first|(with_reducible first|exact HB.out|apply below_alloc|apply pw_below_drewN|apply below_drew1|refine below_set ?_ GE282.out|refine below_set ?_ GE300.out)|exact HB.out))))
    have n2_:=Aside0.mk (Kd.R_lower ho1 (below_size (by repeat (first|(with_reducible first|exact HB.out|apply below_alloc|apply pw_below_drewN|apply below_drew1|refine below_set ?_ GE282.out|refine below_set ?_ GE300.out)|exact HB.out))))
    have n3_:=Aside0.mk (blk_below (g:=gb282) (o:=.cells #[.int .i64 a1_0,.int .i64 a1_1,.int .i64 a1_2] 35 (0,0)) (by (with_reducible repeat (first|refine blk_drewN ?_ _|refine blk_drew ?_|refine blk_alloc ?_ _));exact BK282.out) hb)
    have n4_:=Aside0.mk (blk_below (g:=gb300) (o:=.cells #[.int .i64 0,.slice none 0 0,.int .i64 0,.int .i64 0,.int .i64 0] 39 (0,0)) (by (with_reducible repeat (first|refine blk_drewN ?_ _|refine blk_drew ?_|refine blk_alloc ?_ _));exact BK300.out) hb)
    have n5_:=Aside0.mk (below_step (by repeat (first|(with_reducible first|exact HB.out|apply below_alloc|apply pw_below_drewN|apply below_drew1|refine below_set ?_ GE282.out|refine below_set ?_ GE300.out)|exact HB.out)) hb)
    clear HO286;clear BK282;clear BK300;clear HB;have HO286:=n0_;have HO293:=n1_;have HO299:=n2_;have BK282:=n3_;have BK300:=n4_;have HB:=n5_;clear n0_ n1_ n2_ n3_ n4_ n5_;(try clear hb);(try clear hk);(try clear ho0);(try clear ho1);refine hK.out _ _ ⟨(blk_cell BK282.out 0).trans rfl,(blk_cell BK282.out 1).trans rfl,(blk_cell BK282.out 2).trans rfl⟩ (fun hHeld => ?_)
    clear hK K;refine norm_ (a':=?_) ?_ ?_
    rotate_left
    ·show Act.put _ (some 29) _ = _
     simp only [Act.put,List.setIfInBounds_toArray,List.set_cons_zero,List.set_cons_succ,i64_w,i32_w]
     rfl
    refine pure_ (i:=6) (N:=some 23) (v:=?_) (a':=?_) #[true,true,true,true,true,true,true,false,false,true,false,false] rfl rfl (any_of HT_.out (by kernel_rfl)) (fun _ _ _ h => h) (Or.inl ⟨by rfl,?_⟩) ?_ ?_
    rotate_left
    ·intro w';go_simp;with_reducible rfl
    rotate_left
    ·simp only [Act.put,List.setIfInBounds_toArray,List.set_cons_zero,List.set_cons_succ,i64_w,i32_w]
     rfl
    refine pure_ (i:=7) (N:=some 30) (v:=?_) (a':=?_) #[true,true,true,true,true,true,true,true,false,true,false,false] rfl rfl (any_of HT_.out (by kernel_rfl)) (fun _ _ _ h => h) (Or.inl ⟨by rfl,?_⟩) ?_ ?_
    rotate_left
    ·intro w';go_simp;with_reducible rfl
    rotate_left
    ·simp only [Act.put,List.setIfInBounds_toArray,List.set_cons_zero,List.set_cons_succ,i64_w,i32_w]
     rfl
    refine pure_ (i:=8) (N:=some 31) (v:=?_) (a':=?_) #[true,true,true,true,true,true,true,true,true,true,false,false] rfl rfl (any_of HT_.out (by kernel_rfl)) (fun _ _ _ h => h) (Or.inl ⟨by rfl,?_⟩) ?_ ?_
    rotate_left
    ·intro w';go_simp;with_reducible rfl
    rotate_left
    ·simp only [Act.put,List.setIfInBounds_toArray,List.set_cons_zero,List.set_cons_succ,i64_w,i32_w]
     rfl
    exact norm_ (by simp only [putAll,Act.put,List.setIfInBounds_toArray,List.set_cons_zero,List.set_cons_succ]) (hCont (.slice Ao21 t284.length co21,v292,v298,gb300) _ ⟨hHeld,(by (with_reducible repeat (first|apply Kd.S_alloc|apply Kd.S_drewN|apply Kd.S_drew));exact Kd.S_mono HO286.out (fun _ hk => hk.2)),(by (with_reducible repeat (first|apply Kd.R_alloc|apply Kd.R_drewN|apply Kd.R_drew));exact HO293.out),(by (with_reducible repeat (first|apply Kd.R_alloc|apply Kd.R_drewN|apply Kd.R_drew));exact HO299.out),(by (with_reducible repeat (first|refine blk_drewN ?_ _|refine blk_drew ?_|refine blk_alloc ?_ _));exact BK282.out),(by (with_reducible repeat (first|refine blk_drewN ?_ _|refine blk_drew ?_|refine blk_alloc ?_ _));exact BK300.out),GW300.out,GE300.out,NB282_300.out,NB300_282.out,(by repeat (first|(with_reducible first|exact HB.out|apply below_alloc|apply pw_below_drewN|apply below_drew1|refine below_set ?_ GE282.out|refine below_set ?_ GE300.out)|exact HB.out))⟩)
  rintro ⟨v285,v292,v298,gb300⟩ w23 ⟨hS_,h0_,h1_,h2_,h3_,h4_,h5_,h6_,h7_,h8_,h9_⟩
  have n0_ : Aside0 (Kd.S k82 82 w23 w.heap.size (fun k_ => some k_ ≠ (v292 : Value).ownBlock) v285 t284):=⟨h0_⟩
  have n1_ : Aside0 (Kd.R (Kd.int .i64) 3 w23 w.heap.size (fun _ => True) v292 t291):=⟨h1_⟩
  have n2_ : Aside0 (Kd.R k37 37 w23 w.heap.size (fun _ => True) v298 t297):=⟨h2_⟩
  have n3_ : Aside0 (w23.heap[gb282]? = some (.cells #[.int .i64 a1_0,.int .i64 a1_1,.int .i64 a1_2] 35 (0,0))):=⟨h3_⟩
  have n4_ : Aside0 (w23.heap[gb300]? = some (.cells #[.int .i64 0,.slice none 0 0,.int .i64 0,.int .i64 0,.int .i64 0] 39 (0,0))):=⟨h4_⟩
  have n5_ : Aside0 (w.heap.size ≤ gb300):=⟨h5_⟩
  have n6_ : Aside0 (w.heap.size ≤ gb300):=⟨h6_⟩
  have n7_ : Aside0 (gb282 ≠ gb300):=⟨h7_⟩
  have n8_ : Aside0 (gb300 ≠ gb282):=⟨h8_⟩
  have n9_ : Aside0 (Below w.heap.size w w23):=⟨h9_⟩
  clear BK282;clear HB;clear h0_ h1_ h2_ h3_ h4_ h5_ h6_ h7_ h8_ h9_;have HO286:=n0_;have HO293:=n1_;have HO299:=n2_;have BK282:=n3_;have BK300:=n4_;have GW300:=n5_;have GE300:=n6_;have NB282_300:=n7_;have NB300_282:=n8_;have HB:=n9_;clear n0_ n1_ n2_ n3_ n4_ n5_ n6_ n7_ n8_ n9_;have hHeld : w23.cell? ⟨gb282,0,none⟩ = some (.int .i64 a1_0) ∧ w23.cell? ⟨gb282,1,none⟩ = some (.int .i64 a1_1) ∧ w23.cell? ⟨gb282,2,none⟩ = some (.int .i64 a1_2):=hS_
  obtain ⟨Ao25,co25,eo25⟩:=Kd.R_slice HO293.out
  (first|subst eo25|(injection eo25 with f1_ f2_ f3_;have f4_:=f1_.symm;have f5_:=f3_.symm;clear f1_ f2_ f3_;subst f4_;subst f5_))
  refine norm_ (a':=?_) ?_ ?_
  rotate_left
  ·simp only [putAll,Act.put,List.setIfInBounds_toArray,List.set_cons_zero,List.set_cons_succ]
   rfl
  refine one_ (i:=10) (N:=none) #[true,true,true,true,true,true,true,true,true,true,true,false] rfl rfl (one_of HT_.out (by kernel_rfl)) (by decide) (fun K hK => ?_)
  have hs24 : w23.cell? ⟨gb300,0,none⟩ = some (.int .i64 0):=(blk_cell BK300.out 0).trans rfl
  have hfs24:=blk_frozen BK300.out 0
  have hns24_0:=NB282_300.out;have hms24_0:=NB300_282.out;have hs26 : w23.cell? ⟨gb300,1,none⟩ = some (.slice none 0 0):=(blk_cell BK300.out 1).trans rfl
  have hfs26:=blk_frozen BK300.out 1
  have hns26_0:=NB282_300.out;have hms26_0:=NB300_282.out;have hs27 : w23.cell? ⟨gb300,2,none⟩ = some (.int .i64 0):=(blk_cell BK300.out 2).trans rfl
  have hfs27:=blk_frozen BK300.out 2
  have hns27_0:=NB282_300.out;have hms27_0:=NB300_282.out;have hs28 : w23.cell? ⟨gb300,3,none⟩ = some (.int .i64 0):=(blk_cell BK300.out 3).trans rfl
  have hfs28:=blk_frozen BK300.out 3
  have hns28_0:=NB282_300.out;have hms28_0:=NB300_282.out;have hs29 : w23.cell? ⟨gb300,4,none⟩ = some (.int .i64 0):=(blk_cell BK300.out 4).trans rfl
  have hfs29:=blk_frozen BK300.out 4
  have hns29_0:=NB282_300.out;have hms29_0:=NB300_282.out;refine skip_ (w1:=?_) (by rfl) rfl ?_ ?_
  rotate_left
  ·go_simp;rfl
  refine hK.out _ _ ⟨((cell_far (p:=⟨gb300,_,none⟩) NB282_300.out _).trans (((cell_far (p:=⟨gb300,_,none⟩) NB282_300.out _).trans (((cell_far (p:=⟨gb300,_,none⟩) NB282_300.out _).trans (((cell_far (p:=⟨gb300,_,none⟩) NB282_300.out _).trans (((cell_far (p:=⟨gb300,_,none⟩) NB282_300.out _).trans (hHeld.1)))))))))),((cell_far (p:=⟨gb300,_,none⟩) NB282_300.out _).trans (((cell_far (p:=⟨gb300,_,none⟩) NB282_300.out _).trans (((cell_far (p:=⟨gb300,_,none⟩) NB282_300.out _).trans (((cell_far (p:=⟨gb300,_,none⟩) NB282_300.out _).trans (((cell_far (p:=⟨gb300,_,none⟩) NB282_300.out _).trans (hHeld.2.1)))))))))),((cell_far (p:=⟨gb300,_,none⟩) NB282_300.out _).trans (((cell_far (p:=⟨gb300,_,none⟩) NB282_300.out _).trans (((cell_far (p:=⟨gb300,_,none⟩) NB282_300.out _).trans (((cell_far (p:=⟨gb300,_,none⟩) NB282_300.out _).trans (((cell_far (p:=⟨gb300,_,none⟩) NB282_300.out _).trans (hHeld.2.2))))))))))⟩ (fun hHeld => ?_)
  clear hK K;refine pure_ (i:=11) (N:=some 9) (v:=?_) (a':=?_) #[true,true,true,true,true,true,true,true,true,true,true,true] rfl rfl (any_of HT_.out (by kernel_rfl)) (fun _ _ _ h => h) (Or.inl ⟨by rfl,?_⟩) ?_ ?_
  rotate_left
  ·intro w';go_simp;with_reducible rfl
  rotate_left
  ·simp only [Act.put,List.setIfInBounds_toArray,List.set_cons_zero,List.set_cons_succ,i64_w,i32_w]
   rfl
  refine done_ (done_of HT_.out (by kernel_rfl)) ?_
  go_upto_region 8 with (first|((with_reducible refine gate_callee (f:=18) rfl ?_);refine goesL_ (some 33) rfl rfl Try.func18 (by kernel_rfl) rfl #[.slice A0 l0.length c0] rfl (by (try simp only [List.map_toArray,List.map_cons,List.map_nil]);first|done|rfl|(simp only [List.length_drop,List.length_take];rfl)) ?_;(with_reducible refine (laws_toVersionS.calls k _ _ l0 t301 _ ?side1 ?side2 A11.out).mono ?_);(case side1 => exact Kd.C_below HR0.out (by repeat (first|(with_reducible first|exact HB.out|apply below_alloc|apply pw_below_drewN|apply below_drew1|refine below_set ?_ GE282.out|refine below_set ?_ GE300.out)|exact HB.out)));(case side2 => exact HC0.out);rintro e w30 ⟨v302,rfl,ho0,hb⟩;refine ⟨_,rfl,?_⟩;have n0_:=Aside0.mk (Kd.S_elder' (by (with_reducible repeat (first|apply Kd.S_alloc|apply Kd.S_drewN|apply Kd.S_drew));exact (Kd.S_mono (Kd.S_far (p:=⟨gb300,4,none⟩) (Kd.S_far (p:=⟨gb300,3,none⟩) (Kd.S_far (p:=⟨gb300,2,none⟩) (Kd.S_far (p:=⟨gb300,1,none⟩) (Kd.S_far (p:=⟨gb300,0,none⟩) (Kd.S_types HO286.out BK300.out (by decide)) (fun _ hk => hk.2) (.int .i64 t290)) (fun _ hk => hk.2) (.slice Ao25 t291.length co25)) (fun _ hk => hk.2) (.int .i64 t294)) (fun _ hk => hk.2) (.int .i64 t295)) (fun _ hk => hk.2) (.int .i64 t296)) (fun _ h_ => h_.1))) (Kd.S_base ho0) hb);have n1_:=Aside0.mk (Kd.R_below (by (with_reducible repeat (first|apply Kd.R_alloc|apply Kd.R_drewN|apply Kd.R_drew));exact (Kd.R_mono (Kd.R_far (p:=⟨gb300,4,none⟩) (Kd.R_far (p:=⟨gb300,3,none⟩) (Kd.R_far (p:=⟨gb300,2,none⟩) (Kd.R_far (p:=⟨gb300,1,none⟩) (Kd.R_far (p:=⟨gb300,0,none⟩) (Kd.R_types HO293.out BK300.out (by decide)) (fun _ hk => hk.2) (.int .i64 t290)) (fun _ hk => hk.2) (.slice Ao25 t291.length co25)) (fun _ hk => hk.2) (.int .i64 t294)) (fun _ hk => hk.2) (.int .i64 t295)) (fun _ hk => hk.2) (.int .i64 t296)) (fun _ h_ => h_.1))) hb);have n2_:=Aside0.mk (Kd.R_below (by (with_reducible repeat (first|apply Kd.R_alloc|apply Kd.R_drewN|apply Kd.R_drew));exact (Kd.R_mono (Kd.R_far (p:=⟨gb300,4,none⟩) (Kd.R_far (p:=⟨gb300,3,none⟩) (Kd.R_far (p:=⟨gb300,2,none⟩) (Kd.R_far (p:=⟨gb300,1,none⟩) (Kd.R_far (p:=⟨gb300,0,none⟩) (Kd.R_types HO299.out BK300.out (by decide)) (fun _ hk => hk.2) (.int .i64 t290)) (fun _ hk => hk.2) (.slice Ao25 t291.length co25)) (fun _ hk => hk.2) (.int .i64 t294)) (fun _ hk => hk.2) (.int .i64 t295)) (fun _ hk => hk.2) (.int .i64 t296)) (fun _ h_ => h_.1))) hb);have n3_:=Aside0.mk (Kd.S_lower (Kd.S_new' (Kd.S_new' ho0 (Kd.S_lt (by (with_reducible repeat (first|apply Kd.S_alloc|apply Kd.S_drewN|apply Kd.S_drew));exact (Kd.S_mono (Kd.S_far (p:=⟨gb300,4,none⟩) (Kd.S_far (p:=⟨gb300,3,none⟩) (Kd.S_far (p:=⟨gb300,2,none⟩) (Kd.S_far (p:=⟨gb300,1,none⟩) (Kd.S_far (p:=⟨gb300,0,none⟩) (Kd.S_types HO286.out BK300.out (by decide)) (fun _ hk => hk.2) (.int .i64 t290)) (fun _ hk => hk.2) (.slice Ao25 t291.length co25)) (fun _ hk => hk.2) (.int .i64 t294)) (fun _ hk => hk.2) (.int .i64 t295)) (fun _ hk => hk.2) (.int .i64 t296)) (fun _ h_ => h_.1))))) (Kd.R_lt (by (with_reducible repeat (first|apply Kd.R_alloc|apply Kd.R_drewN|apply Kd.R_drew));exact (Kd.R_mono (Kd.R_far (p:=⟨gb300,4,none⟩) (Kd.R_far (p:=⟨gb300,3,none⟩) (Kd.R_far (p:=⟨gb300,2,none⟩) (Kd.R_far (p:=⟨gb300,1,none⟩) (Kd.R_far (p:=⟨gb300,0,none⟩) (Kd.R_types HO293.out BK300.out (by decide)) (fun _ hk => hk.2) (.int .i64 t290)) (fun _ hk => hk.2) (.slice Ao25 t291.length co25)) (fun _ hk => hk.2) (.int .i64 t294)) (fun _ hk => hk.2) (.int .i64 t295)) (fun _ hk => hk.2) (.int .i64 t296)) (fun _ h_ => h_.1))))) (below_size (by repeat (first|(with_reducible first|exact HB.out|apply below_alloc|apply pw_below_drewN|apply below_drew1|refine below_set ?_ GE282.out|refine below_set ?_ GE300.out)|exact HB.out))));have n4_:=Aside0.mk (blk_below (g:=gb282) (o:=.cells #[.int .i64 a1_0,.int .i64 a1_1,.int .i64 a1_2] 35 (0,0)) (by (with_reducible repeat (first|refine blk_drewN ?_ _|refine blk_drew ?_|refine blk_alloc ?_ _));refine blk_far ?_ NB282_300.out _;(with_reducible repeat (first|refine blk_drewN ?_ _|refine blk_drew ?_|refine blk_alloc ?_ _));refine blk_far ?_ NB282_300.out _;(with_reducible repeat (first|refine blk_drewN ?_ _|refine blk_drew ?_|refine blk_alloc ?_ _));refine blk_far ?_ NB282_300.out _;(with_reducible repeat (first|refine blk_drewN ?_ _|refine blk_drew ?_|refine blk_alloc ?_ _));refine blk_far ?_ NB282_300.out _;(with_reducible repeat (first|refine blk_drewN ?_ _|refine blk_drew ?_|refine blk_alloc ?_ _));refine blk_far ?_ NB282_300.out _;(with_reducible repeat (first|refine blk_drewN ?_ _|refine blk_drew ?_|refine blk_alloc ?_ _));exact BK282.out) hb);have n5_:=Aside0.mk (blk_below (g:=gb300) (o:=.cells #[.int .i64 t290,.slice Ao25 t291.length co25,.int .i64 t294,.int .i64 t295,.int .i64 t296] 39 (0,0)) (by (with_reducible repeat (first|refine blk_drewN ?_ _|refine blk_drew ?_|refine blk_alloc ?_ _));refine blk_put (cs:=#[.int .i64 t290,.slice Ao25 t291.length co25,.int .i64 t294,.int .i64 t295,.int .i64 0]) ?_ 4 _ rfl;(with_reducible repeat (first|refine blk_drewN ?_ _|refine blk_drew ?_|refine blk_alloc ?_ _));refine blk_put (cs:=#[.int .i64 t290,.slice Ao25 t291.length co25,.int .i64 t294,.int .i64 0,.int .i64 0]) ?_ 3 _ rfl;(with_reducible repeat (first|refine blk_drewN ?_ _|refine blk_drew ?_|refine blk_alloc ?_ _));refine blk_put (cs:=#[.int .i64 t290,.slice Ao25 t291.length co25,.int .i64 0,.int .i64 0,.int .i64 0]) ?_ 2 _ rfl;(with_reducible repeat (first|refine blk_drewN ?_ _|refine blk_drew ?_|refine blk_alloc ?_ _));refine blk_put (cs:=#[.int .i64 t290,.slice none 0 0,.int .i64 0,.int .i64 0,.int .i64 0]) ?_ 1 _ rfl;(with_reducible repeat (first|refine blk_drewN ?_ _|refine blk_drew ?_|refine blk_alloc ?_ _));refine blk_put (cs:=#[.int .i64 0,.slice none 0 0,.int .i64 0,.int .i64 0,.int .i64 0]) ?_ 0 _ rfl;(with_reducible repeat (first|refine blk_drewN ?_ _|refine blk_drew ?_|refine blk_alloc ?_ _));exact BK300.out) hb);have n6_:=Aside0.mk (below_step (by repeat (first|(with_reducible first|exact HB.out|apply below_alloc|apply pw_below_drewN|apply below_drew1|refine below_set ?_ GE282.out|refine below_set ?_ GE300.out)|exact HB.out)) hb);clear HO286;clear HO293;clear HO299;clear BK282;clear BK300;clear HB;have HO286:=n0_;have HO293:=n1_;have HO299:=n2_;have HO303:=n3_;have BK282:=n4_;have BK300:=n5_;have HB:=n6_;clear n0_ n1_ n2_ n3_ n4_ n5_ n6_;(try clear hb);(try clear hk);(try clear ho0);have hnb31:=NB282_300.out;have hnc31:=NB300_282.out;have hcz32_0 : w30.cell? ⟨gb282,0,none⟩ = some (.int .i64 a1_0):=(blk_cell BK282.out 0).trans rfl;have hcz32_1 : w30.cell? ⟨gb282,1,none⟩ = some (.int .i64 a1_1):=(blk_cell BK282.out 1).trans rfl;have hcz32_2 : w30.cell? ⟨gb282,2,none⟩ = some (.int .i64 a1_2):=(blk_cell BK282.out 2).trans rfl;have hfz32_0:=blk_frozen BK282.out 0;have hfz32_1:=blk_frozen BK282.out 1;have hfz32_2:=blk_frozen BK282.out 2)|((with_reducible refine gate_callee (f:=19) rfl ?_);refine goesL_ (some 37) rfl rfl Try.func19 (by kernel_rfl) rfl #[.agg #[.int .i64 a1_0,.int .i64 a1_1,.int .i64 a1_2]] rfl (by (try simp only [List.map_toArray,List.map_cons,List.map_nil]);first|done|rfl|(simp only [List.length_drop,List.length_take];rfl)) ?_;(with_reducible refine (laws_toAddress.calls a1_0 a1_1 a1_2 t304 t305 t306 _ A12.out).mono ?_);rintro e w33 ⟨rfl,hb⟩;refine ⟨_,rfl,?_⟩;have n0_:=Aside0.mk (Kd.S_below (by (with_reducible repeat (first|apply Kd.S_alloc|apply Kd.S_drewN|apply Kd.S_drew));exact HO286.out) hb);have n1_:=Aside0.mk (Kd.R_below (by (with_reducible repeat (first|apply Kd.R_alloc|apply Kd.R_drewN|apply Kd.R_drew));exact HO293.out) hb);have n2_:=Aside0.mk (Kd.R_below (by (with_reducible repeat (first|apply Kd.R_alloc|apply Kd.R_drewN|apply Kd.R_drew));exact HO299.out) hb);have n3_:=Aside0.mk (Kd.S_below (by (with_reducible repeat (first|apply Kd.S_alloc|apply Kd.S_drewN|apply Kd.S_drew));exact HO303.out) hb);have n4_:=Aside0.mk (blk_below (g:=gb282) (o:=.cells #[.int .i64 a1_0,.int .i64 a1_1,.int .i64 a1_2] 35 (0,0)) (by (with_reducible repeat (first|refine blk_drewN ?_ _|refine blk_drew ?_|refine blk_alloc ?_ _));exact BK282.out) hb);have n5_:=Aside0.mk (blk_below (g:=gb300) (o:=.cells #[.int .i64 t290,.slice Ao25 t291.length co25,.int .i64 t294,.int .i64 t295,.int .i64 t296] 39 (0,0)) (by (with_reducible repeat (first|refine blk_drewN ?_ _|refine blk_drew ?_|refine blk_alloc ?_ _));exact BK300.out) hb);have n6_:=Aside0.mk (below_step (by repeat (first|(with_reducible first|exact HB.out|apply below_alloc|apply pw_below_drewN|apply below_drew1|refine below_set ?_ GE282.out|refine below_set ?_ GE300.out)|exact HB.out)) hb);clear HO286;clear HO293;clear HO299;clear HO303;clear BK282;clear BK300;clear HB;have HO286:=n0_;have HO293:=n1_;have HO299:=n2_;have HO303:=n3_;have BK282:=n4_;have BK300:=n5_;have HB:=n6_;clear n0_ n1_ n2_ n3_ n4_ n5_ n6_;(try clear hb);(try clear hk);obtain ⟨Ao34,co34,eo34⟩:=Kd.S_slice HO303.out;subst eo34)|((with_reducible refine gate_callee (f:=37) rfl ?_);refine goesL_ (some 39) rfl rfl Try.func37 (by kernel_rfl) rfl #[.slice Ao34 t301.length co34,.agg #[.int .i64 t304,.int .i64 t305,.int .i64 t306],.int .i64 a2] rfl (by (try simp only [List.map_toArray,List.map_cons,List.map_nil]);first|done|rfl|(simp only [List.length_drop,List.length_take];rfl)) ?_;(with_reducible refine (impl_FollowAt.calls k _ _ t301 t304 t305 t306 a2 t307 t308 t311 t312 t313 t314 _ ?side1 ?side2 A13.out).mono ?_);(case side1 => repeat (first|exact (Kd.S_reads' HO303.out).2.2|(with_reducible refine Kd.C_alloc ?_ _)|(with_reducible refine Kd.C_drewN ?_ _)|(with_reducible refine Kd.C_drew ?_)));(case side2 => exact (Kd.S_reads' HO303.out).2.1);rintro e w35 ⟨v309,v315,rfl,ho0,ho1,hb⟩;refine ⟨_,rfl,?_⟩;have n0_:=Aside0.mk (Kd.S_elder' (by (with_reducible repeat (first|apply Kd.S_alloc|apply Kd.S_drewN|apply Kd.S_drew));exact HO286.out) (Kd.R_base ho0) hb);have n1_:=Aside0.mk (Kd.R_elder' (by (with_reducible repeat (first|apply Kd.R_alloc|apply Kd.R_drewN|apply Kd.R_drew));exact HO293.out) (Kd.R_base ho0) hb);have n2_:=Aside0.mk (Kd.R_elder' (by (with_reducible repeat (first|apply Kd.R_alloc|apply Kd.R_drewN|apply Kd.R_drew));exact HO299.out) (Kd.R_base ho1) hb);have n3_:=Aside0.mk (Kd.S_elder' (by (with_reducible repeat (first|apply Kd.S_alloc|apply Kd.S_drewN|apply Kd.S_drew));exact HO303.out) (Kd.R_base ho0) hb);have n4_:=Aside0.mk (Kd.R_lower (Kd.R_new' ho0 (Kd.R_lt (by (with_reducible repeat (first|apply Kd.R_alloc|apply Kd.R_drewN|apply Kd.R_drew));exact HO293.out))) (below_size (by repeat (first|(with_reducible first|exact HB.out|apply below_alloc|apply pw_below_drewN|apply below_drew1|refine below_set ?_ GE282.out|refine below_set ?_ GE300.out)|exact HB.out))));have n5_:=Aside0.mk (Kd.R_lower (Kd.R_new' ho1 (Kd.R_lt (by (with_reducible repeat (first|apply Kd.R_alloc|apply Kd.R_drewN|apply Kd.R_drew));exact HO299.out))) (below_size (by repeat (first|(with_reducible first|exact HB.out|apply below_alloc|apply pw_below_drewN|apply below_drew1|refine below_set ?_ GE282.out|refine below_set ?_ GE300.out)|exact HB.out))));have n6_:=Aside0.mk (blk_below (g:=gb282) (o:=.cells #[.int .i64 a1_0,.int .i64 a1_1,.int .i64 a1_2] 35 (0,0)) (by (with_reducible repeat (first|refine blk_drewN ?_ _|refine blk_drew ?_|refine blk_alloc ?_ _));exact BK282.out) hb);have n7_:=Aside0.mk (blk_below (g:=gb300) (o:=.cells #[.int .i64 t290,.slice Ao25 t291.length co25,.int .i64 t294,.int .i64 t295,.int .i64 t296] 39 (0,0)) (by (with_reducible repeat (first|refine blk_drewN ?_ _|refine blk_drew ?_|refine blk_alloc ?_ _));exact BK300.out) hb);have n8_:=Aside0.mk (below_step (by repeat (first|(with_reducible first|exact HB.out|apply below_alloc|apply pw_below_drewN|apply below_drew1|refine below_set ?_ GE282.out|refine below_set ?_ GE300.out)|exact HB.out)) hb);clear HO286;clear HO293;clear HO299;clear HO303;clear BK282;clear BK300;clear HB;have HO286:=n0_;have HO293:=n1_;have HO299:=n2_;have HO303:=n3_;have HO310:=n4_;have HO316:=n5_;have BK282:=n6_;have BK300:=n7_;have HB:=n8_;clear n0_ n1_ n2_ n3_ n4_ n5_ n6_ n7_ n8_;(try clear hb);(try clear hk);(try clear ho0);(try clear ho1))|((with_reducible refine gate_dst (N:=11) rfl ?_);refine box_event ?hg (N:=11) ?hd (cs:=#[.int .i64 0,.slice none 0 0,.int .i64 0,.int .i64 0,.int .i64 0]) (t:=39) ?hr ?_;(case hd => rfl);(case hg => rfl);(case hr => first|(go_simp;done)|(go_simp;rfl));intro gb317 hg w36 hbox hb;have n0_:=Aside0.mk (Kd.S_below (by (with_reducible repeat (first|apply Kd.S_alloc|apply Kd.S_drewN|apply Kd.S_drew));exact HO286.out) hb);have n1_:=Aside0.mk (Kd.R_below (by (with_reducible repeat (first|apply Kd.R_alloc|apply Kd.R_drewN|apply Kd.R_drew));exact HO293.out) hb);have n2_:=Aside0.mk (Kd.R_below (by (with_reducible repeat (first|apply Kd.R_alloc|apply Kd.R_drewN|apply Kd.R_drew));exact HO299.out) hb);have n3_:=Aside0.mk (Kd.S_below (by (with_reducible repeat (first|apply Kd.S_alloc|apply Kd.S_drewN|apply Kd.S_drew));exact HO303.out) hb);have n4_:=Aside0.mk (Kd.R_below (by (with_reducible repeat (first|apply Kd.R_alloc|apply Kd.R_drewN|apply Kd.R_drew));exact HO310.out) hb);have n5_:=Aside0.mk (Kd.R_below (by (with_reducible repeat (first|apply Kd.R_alloc|apply Kd.R_drewN|apply Kd.R_drew));exact HO316.out) hb);have n6_:=Aside0.mk (blk_below (g:=gb282) (o:=.cells #[.int .i64 a1_0,.int .i64 a1_1,.int .i64 a1_2] 35 (0,0)) (by (with_reducible repeat (first|refine blk_drewN ?_ _|refine blk_drew ?_|refine blk_alloc ?_ _));exact BK282.out) hb);have n7_:=Aside0.mk (blk_below (g:=gb300) (o:=.cells #[.int .i64 t290,.slice Ao25 t291.length co25,.int .i64 t294,.int .i64 t295,.int .i64 t296] 39 (0,0)) (by (with_reducible repeat (first|refine blk_drewN ?_ _|refine blk_drew ?_|refine blk_alloc ?_ _));exact BK300.out) hb);have n8_:=Aside0.mk (below_step (by repeat (first|(with_reducible first|exact HB.out|apply below_alloc|apply pw_below_drewN|apply below_drew1|refine below_set ?_ GE282.out|refine below_set ?_ GE300.out)|exact HB.out)) hb);have n9_:=Aside0.mk (hbox);have n10_:=Aside0.mk ((by rw [hg];exact (below_size (by repeat (first|(with_reducible first|exact HB.out|apply below_alloc|apply pw_below_drewN|apply below_drew1|refine below_set ?_ GE282.out|refine below_set ?_ GE300.out)|exact HB.out))) : w.heap.size ≤ gb317));have n11_:=Aside0.mk ((by rw [hg];exact (below_size (by repeat (first|(with_reducible first|exact HB.out|apply below_alloc|apply pw_below_drewN|apply below_drew1|refine below_set ?_ GE282.out|refine below_set ?_ GE300.out)|exact HB.out))) : w.heap.size ≤ gb317));have n12_:=Aside0.mk ((by rw [hg];exact Nat.ne_of_lt (blk_lt (g:=gb282) (o:=.cells #[.int .i64 a1_0,.int .i64 a1_1,.int .i64 a1_2] 35 (0,0)) (by (with_reducible repeat (first|refine blk_drewN ?_ _|refine blk_drew ?_|refine blk_alloc ?_ _));exact BK282.out)) : gb282 ≠ gb317));have n13_:=Aside0.mk ((by rw [hg];exact Nat.ne_of_gt (blk_lt (g:=gb282) (o:=.cells #[.int .i64 a1_0,.int .i64 a1_1,.int .i64 a1_2] 35 (0,0)) (by (with_reducible repeat (first|refine blk_drewN ?_ _|refine blk_drew ?_|refine blk_alloc ?_ _));exact BK282.out)) : gb317 ≠ gb282));have n14_:=Aside0.mk ((by rw [hg];exact Nat.ne_of_lt (blk_lt (g:=gb300) (o:=.cells #[.int .i64 t290,.slice Ao25 t291.length co25,.int .i64 t294,.int .i64 t295,.int .i64 t296] 39 (0,0)) (by (with_reducible repeat (first|refine blk_drewN ?_ _|refine blk_drew ?_|refine blk_alloc ?_ _));exact BK300.out)) : gb300 ≠ gb317));have n15_:=Aside0.mk ((by rw [hg];exact Nat.ne_of_gt (blk_lt (g:=gb300) (o:=.cells #[.int .i64 t290,.slice Ao25 t291.length co25,.int .i64 t294,.int .i64 t295,.int .i64 t296] 39 (0,0)) (by (with_reducible repeat (first|refine blk_drewN ?_ _|refine blk_drew ?_|refine blk_alloc ?_ _));exact BK300.out)) : gb317 ≠ gb300));clear HO286;clear HO293;clear HO299;clear HO303;clear HO310;clear HO316;clear BK282;clear BK300;clear HB;have HO286:=n0_;have HO293:=n1_;have HO299:=n2_;have HO303:=n3_;have HO310:=n4_;have HO316:=n5_;have BK282:=n6_;have BK300:=n7_;have HB:=n8_;have BK317:=n9_;have GW317:=n10_;have GE317:=n11_;have NB282_317:=n12_;have NB317_282:=n13_;have NB300_317:=n14_;have NB317_300:=n15_;clear n0_ n1_ n2_ n3_ n4_ n5_ n6_ n7_ n8_ n9_ n10_ n11_ n12_ n13_ n14_ n15_;clear hb hbox hg;have hnb37:=NB317_282.out;have hnc37:=NB282_317.out;have hnb38:=NB317_300.out;have hnc38:=NB300_317.out;have hcz39_0 : w36.cell? ⟨gb317,0,none⟩ = some (.int .i64 0):=(blk_cell BK317.out 0).trans rfl;have hcz39_1 : w36.cell? ⟨gb317,1,none⟩ = some (.slice none 0 0):=(blk_cell BK317.out 1).trans rfl;have hcz39_2 : w36.cell? ⟨gb317,2,none⟩ = some (.int .i64 0):=(blk_cell BK317.out 2).trans rfl;have hcz39_3 : w36.cell? ⟨gb317,3,none⟩ = some (.int .i64 0):=(blk_cell BK317.out 3).trans rfl;have hcz39_4 : w36.cell? ⟨gb317,4,none⟩ = some (.int .i64 0):=(blk_cell BK317.out 4).trans rfl;have hfz39_0:=blk_frozen BK317.out 0;have hfz39_1:=blk_frozen BK317.out 1;have hfz39_2:=blk_frozen BK317.out 2;have hfz39_3:=blk_frozen BK317.out 3;have hfz39_4:=blk_frozen BK317.out 4;obtain ⟨Ao40,co40,eo40⟩:=Kd.R_slice HO310.out;subst eo40))
  (try simp only [Act.put,List.setIfInBounds_toArray,List.set_cons_zero,List.set_cons_succ])
  go_cut [51] (fun v51 wc => ∃ (kq : Nat) (x51_13 : Bool),v51 = .bool x51_13 ∧ Aside0 (laws_FnExactFollowAt.j0 kq l0 a2 t297 t301 t314 x51_13 a1_0 a1_1 a1_2 t290 t291 t294 t295 t296 t307 t308 t311 t312 t313 = some r) ∧ Aside0 (kq ≤ k) ∧ Aside0 (Kd.R k37 37 wc w.heap.size (fun k_ => some k_ ≠ (v315 : Value).ownBlock) v298 t297) ∧ Aside0 (Kd.S k82 82 wc w.heap.size (fun k_ => some k_ ≠ ((.slice Ao25 t291.length co25) : Value).ownBlock ∧ some k_ ≠ ((.slice Ao40 t308.length co40) : Value).ownBlock) (.slice Ao34 t301.length co34) t301) ∧ Aside0 (Kd.R k37 37 wc w.heap.size (fun k_ => some k_ ≠ (v298 : Value).ownBlock) v315 t314) ∧ Aside0 (Kd.R (Kd.int .i64) 3 wc w.heap.size (fun k_ => some k_ ≠ ((.slice Ao40 t308.length co40) : Value).ownBlock) (.slice Ao25 t291.length co25) t291) ∧ Aside0 (Kd.R (Kd.int .i64) 3 wc w.heap.size (fun k_ => some k_ ≠ ((.slice Ao25 t291.length co25) : Value).ownBlock) (.slice Ao40 t308.length co40) t308) ∧ Aside0 (wc.heap[gb282]? = some (.cells #[.int .i64 a1_0,.int .i64 a1_1,.int .i64 a1_2] 35 (0,0))) ∧ Aside0 (wc.heap[gb300]? = some (.cells #[.int .i64 t290,(.slice Ao25 t291.length co25),.int .i64 t294,.int .i64 t295,.int .i64 t296] 39 (0,0))) ∧ Aside0 (wc.heap[gb317]? = some (.cells #[.int .i64 t307,(.slice Ao40 t308.length co40),.int .i64 t311,.int .i64 t312,.int .i64 t313] 39 (0,0))) ∧ Aside0 (Below w.heap.size w wc))
  case first =>
   have H:=HC14.out;clear HC14;replace H:=Option.bind_eq_some_iff.mp H
   obtain ⟨t318,A410,H⟩:=H;replace H : (if t318 = true then ((laws_eqAddressS.f k t314 t297).bind fun t319 => (laws_FnExactFollowAt.j0 k l0 a2 t297 t301 t314 (!t319) a1_0 a1_1 a1_2 t290 t291 t294 t295 t296 t307 t308 t311 t312 t313)) else (laws_FnExactFollowAt.j0 k l0 a2 t297 t301 t314 true a1_0 a1_1 a1_2 t290 t291 t294 t295 t296 t307 t308 t311 t312 t313)) = some r:=H
   have A41:=Aside0.mk A410;clear A410;by_cases c42 : t318 = true
   ·subst c42
    have H1 : ((laws_eqAddressS.f k t314 t297).bind fun t319 => (laws_FnExactFollowAt.j0 k l0 a2 t297 t301 t314 (!t319) a1_0 a1_1 a1_2 t290 t291 t294 t295 t296 t307 t308 t311 t312 t313)) = some r:=by rw [if_pos rfl] at H;exact H
    clear H;have H:=H1;clear H1;replace H:=Option.bind_eq_some_iff.mp H
    obtain ⟨t319,A430,H⟩:=H;replace H : (laws_FnExactFollowAt.j0 k l0 a2 t297 t301 t314 (!t319) a1_0 a1_1 a1_2 t290 t291 t294 t295 t296 t307 t308 t311 t312 t313) = some r:=H
    have A43:=Aside0.mk A430;clear A430;have H':=Aside0.mk H;clear H;have hnb44:=NB317_282.out;have hnc44:=NB282_317.out;have hnb45:=NB317_300.out;have hnc45:=NB300_317.out;have hcz46_0 : w36.cell? ⟨gb317,0,none⟩ = some (.int .i64 0):=(blk_cell BK317.out 0).trans rfl
    have hcz46_1 : w36.cell? ⟨gb317,1,none⟩ = some (.slice none 0 0):=(blk_cell BK317.out 1).trans rfl
    have hcz46_2 : w36.cell? ⟨gb317,2,none⟩ = some (.int .i64 0):=(blk_cell BK317.out 2).trans rfl
    have hcz46_3 : w36.cell? ⟨gb317,3,none⟩ = some (.int .i64 0):=(blk_cell BK317.out 3).trans rfl
    have hcz46_4 : w36.cell? ⟨gb317,4,none⟩ = some (.int .i64 0):=(blk_cell BK317.out 4).trans rfl
    have hfz46_0:=blk_frozen BK317.out 0
    have hfz46_1:=blk_frozen BK317.out 1
    have hfz46_2:=blk_frozen BK317.out 2
    have hfz46_3:=blk_frozen BK317.out 3
    have hfz46_4:=blk_frozen BK317.out 4
    have hnb47:=NB300_282.out;have hnc47:=NB282_300.out;have hcz48_0 : w36.cell? ⟨gb300,0,none⟩ = some (.int .i64 t290):=(blk_cell BK300.out 0).trans rfl
    have hcz48_1 : w36.cell? ⟨gb300,1,none⟩ = some (.slice Ao25 t291.length co25):=(blk_cell BK300.out 1).trans rfl
    have hcz48_2 : w36.cell? ⟨gb300,2,none⟩ = some (.int .i64 t294):=(blk_cell BK300.out 2).trans rfl
    have hcz48_3 : w36.cell? ⟨gb300,3,none⟩ = some (.int .i64 t295):=(blk_cell BK300.out 3).trans rfl
    have hcz48_4 : w36.cell? ⟨gb300,4,none⟩ = some (.int .i64 t296):=(blk_cell BK300.out 4).trans rfl
    have hfz48_0:=blk_frozen BK300.out 0
    have hfz48_1:=blk_frozen BK300.out 1
    have hfz48_2:=blk_frozen BK300.out 2
    have hfz48_3:=blk_frozen BK300.out 3
    have hfz48_4:=blk_frozen BK300.out 4
    go_wp2_with (first|((with_reducible refine gate_callee (f:=21) rfl ?_);refine goesL_ (some 44) rfl rfl Try.func21 (by kernel_rfl) rfl #[.agg #[.int .i64 t307,.slice Ao40 t308.length co40,.int .i64 t311,.int .i64 t312,.int .i64 t313],.agg #[.int .i64 t290,.slice Ao25 t291.length co25,.int .i64 t294,.int .i64 t295,.int .i64 t296]] rfl (by (try simp only [List.map_toArray,List.map_cons,List.map_nil]);first|done|rfl|(simp only [List.length_drop,List.length_take];rfl)) ?_;(with_reducible refine (laws_eqResource.calls k t307 _ _ t308 t311 t312 t313 t290 _ _ t291 t294 t295 t296 true _ ?side1 ?side2 ?side3 ?side4 A41.out).mono ?_);(case side1 => refine (Kd.R_reads' (e:=3) (base:=w.heap.size) (ok:=fun k_ => (True ∧ some k_ ≠ (.slice Ao25 t291.length co25 : Value).ownBlock)) (n:=t308.length) (c:=co40) ?_).2.2;exact (by (with_reducible repeat (first|apply Kd.R_alloc|apply Kd.R_drewN|apply Kd.R_drew));exact (Kd.R_mono (Kd.R_far (p:=⟨gb317,4,none⟩) (Kd.R_far (p:=⟨gb317,3,none⟩) (Kd.R_far (p:=⟨gb317,2,none⟩) (Kd.R_far (p:=⟨gb317,1,none⟩) (Kd.R_far (p:=⟨gb317,0,none⟩) (Kd.R_types HO310.out BK317.out (by decide)) (fun _ hk => hk.2) (.int .i64 t307)) (fun _ hk => hk.2) (.slice Ao40 t308.length co40)) (fun _ hk => hk.2) (.int .i64 t311)) (fun _ hk => hk.2) (.int .i64 t312)) (fun _ hk => hk.2) (.int .i64 t313)) (fun _ h_ => h_.1))));(case side2 => exact (Kd.R_reads' HO310.out).2.1);(case side3 => refine (Kd.R_reads' (e:=3) (base:=w.heap.size) (ok:=fun k_ => (True ∧ some k_ ≠ (.slice Ao40 t308.length co40 : Value).ownBlock)) (n:=t291.length) (c:=co25) ?_).2.2;exact (by (with_reducible repeat (first|apply Kd.R_alloc|apply Kd.R_drewN|apply Kd.R_drew));exact (Kd.R_mono (Kd.R_far (p:=⟨gb317,4,none⟩) (Kd.R_far (p:=⟨gb317,3,none⟩) (Kd.R_far (p:=⟨gb317,2,none⟩) (Kd.R_far (p:=⟨gb317,1,none⟩) (Kd.R_far (p:=⟨gb317,0,none⟩) (Kd.R_types HO293.out BK317.out (by decide)) (fun _ hk => hk.2) (.int .i64 t307)) (fun _ hk => hk.2) (.slice Ao40 t308.length co40)) (fun _ hk => hk.2) (.int .i64 t311)) (fun _ hk => hk.2) (.int .i64 t312)) (fun _ hk => hk.2) (.int .i64 t313)) (fun _ h_ => h_.1))));(case side4 => exact (Kd.R_reads' HO293.out).2.1);rintro e w49 ⟨rfl,hb⟩;refine ⟨_,rfl,?_⟩;have n0_:=Aside0.mk (Kd.S_below (by (with_reducible repeat (first|apply Kd.S_alloc|apply Kd.S_drewN|apply Kd.S_drew));exact (Kd.S_mono (Kd.S_far (p:=⟨gb317,4,none⟩) (Kd.S_far (p:=⟨gb317,3,none⟩) (Kd.S_far (p:=⟨gb317,2,none⟩) (Kd.S_far (p:=⟨gb317,1,none⟩) (Kd.S_far (p:=⟨gb317,0,none⟩) (Kd.S_types HO286.out BK317.out (by decide)) (fun _ hk => hk.2) (.int .i64 t307)) (fun _ hk => hk.2) (.slice Ao40 t308.length co40)) (fun _ hk => hk.2) (.int .i64 t311)) (fun _ hk => hk.2) (.int .i64 t312)) (fun _ hk => hk.2) (.int .i64 t313)) (fun _ h_ => h_.1))) hb);have n1_:=Aside0.mk (Kd.R_below (by (with_reducible repeat (first|apply Kd.R_alloc|apply Kd.R_drewN|apply Kd.R_drew));exact (Kd.R_mono (Kd.R_far (p:=⟨gb317,4,none⟩) (Kd.R_far (p:=⟨gb317,3,none⟩) (Kd.R_far (p:=⟨gb317,2,none⟩) (Kd.R_far (p:=⟨gb317,1,none⟩) (Kd.R_far (p:=⟨gb317,0,none⟩) (Kd.R_types HO293.out BK317.out (by decide)) (fun _ hk => hk.2) (.int .i64 t307)) (fun _ hk => hk.2) (.slice Ao40 t308.length co40)) (fun _ hk => hk.2) (.int .i64 t311)) (fun _ hk => hk.2) (.int .i64 t312)) (fun _ hk => hk.2) (.int .i64 t313)) (fun _ h_ => h_.1))) hb);have n2_:=Aside0.mk (Kd.R_below (by (with_reducible repeat (first|apply Kd.R_alloc|apply Kd.R_drewN|apply Kd.R_drew));exact (Kd.R_mono (Kd.R_far (p:=⟨gb317,4,none⟩) (Kd.R_far (p:=⟨gb317,3,none⟩) (Kd.R_far (p:=⟨gb317,2,none⟩) (Kd.R_far (p:=⟨gb317,1,none⟩) (Kd.R_far (p:=⟨gb317,0,none⟩) (Kd.R_types HO299.out BK317.out (by decide)) (fun _ hk => hk.2) (.int .i64 t307)) (fun _ hk => hk.2) (.slice Ao40 t308.length co40)) (fun _ hk => hk.2) (.int .i64 t311)) (fun _ hk => hk.2) (.int .i64 t312)) (fun _ hk => hk.2) (.int .i64 t313)) (fun _ h_ => h_.1))) hb);have n3_:=Aside0.mk (Kd.S_below (by (with_reducible repeat (first|apply Kd.S_alloc|apply Kd.S_drewN|apply Kd.S_drew));exact (Kd.S_mono (Kd.S_far (p:=⟨gb317,4,none⟩) (Kd.S_far (p:=⟨gb317,3,none⟩) (Kd.S_far (p:=⟨gb317,2,none⟩) (Kd.S_far (p:=⟨gb317,1,none⟩) (Kd.S_far (p:=⟨gb317,0,none⟩) (Kd.S_types HO303.out BK317.out (by decide)) (fun _ hk => hk.2) (.int .i64 t307)) (fun _ hk => hk.2) (.slice Ao40 t308.length co40)) (fun _ hk => hk.2) (.int .i64 t311)) (fun _ hk => hk.2) (.int .i64 t312)) (fun _ hk => hk.2) (.int .i64 t313)) (fun _ h_ => h_.1))) hb);have n4_:=Aside0.mk (Kd.R_below (by (with_reducible repeat (first|apply Kd.R_alloc|apply Kd.R_drewN|apply Kd.R_drew));exact (Kd.R_mono (Kd.R_far (p:=⟨gb317,4,none⟩) (Kd.R_far (p:=⟨gb317,3,none⟩) (Kd.R_far (p:=⟨gb317,2,none⟩) (Kd.R_far (p:=⟨gb317,1,none⟩) (Kd.R_far (p:=⟨gb317,0,none⟩) (Kd.R_types HO310.out BK317.out (by decide)) (fun _ hk => hk.2) (.int .i64 t307)) (fun _ hk => hk.2) (.slice Ao40 t308.length co40)) (fun _ hk => hk.2) (.int .i64 t311)) (fun _ hk => hk.2) (.int .i64 t312)) (fun _ hk => hk.2) (.int .i64 t313)) (fun _ h_ => h_.1))) hb);have n5_:=Aside0.mk (Kd.R_below (by (with_reducible repeat (first|apply Kd.R_alloc|apply Kd.R_drewN|apply Kd.R_drew));exact (Kd.R_mono (Kd.R_far (p:=⟨gb317,4,none⟩) (Kd.R_far (p:=⟨gb317,3,none⟩) (Kd.R_far (p:=⟨gb317,2,none⟩) (Kd.R_far (p:=⟨gb317,1,none⟩) (Kd.R_far (p:=⟨gb317,0,none⟩) (Kd.R_types HO316.out BK317.out (by decide)) (fun _ hk => hk.2) (.int .i64 t307)) (fun _ hk => hk.2) (.slice Ao40 t308.length co40)) (fun _ hk => hk.2) (.int .i64 t311)) (fun _ hk => hk.2) (.int .i64 t312)) (fun _ hk => hk.2) (.int .i64 t313)) (fun _ h_ => h_.1))) hb);have n6_:=Aside0.mk (blk_below (g:=gb282) (o:=.cells #[.int .i64 a1_0,.int .i64 a1_1,.int .i64 a1_2] 35 (0,0)) (by (with_reducible repeat (first|refine blk_drewN ?_ _|refine blk_drew ?_|refine blk_alloc ?_ _));refine blk_far ?_ NB282_317.out _;(with_reducible repeat (first|refine blk_drewN ?_ _|refine blk_drew ?_|refine blk_alloc ?_ _));refine blk_far ?_ NB282_317.out _;(with_reducible repeat (first|refine blk_drewN ?_ _|refine blk_drew ?_|refine blk_alloc ?_ _));refine blk_far ?_ NB282_317.out _;(with_reducible repeat (first|refine blk_drewN ?_ _|refine blk_drew ?_|refine blk_alloc ?_ _));refine blk_far ?_ NB282_317.out _;(with_reducible repeat (first|refine blk_drewN ?_ _|refine blk_drew ?_|refine blk_alloc ?_ _));refine blk_far ?_ NB282_317.out _;(with_reducible repeat (first|refine blk_drewN ?_ _|refine blk_drew ?_|refine blk_alloc ?_ _));exact BK282.out) hb);have n7_:=Aside0.mk (blk_below (g:=gb300) (o:=.cells #[.int .i64 t290,.slice Ao25 t291.length co25,.int .i64 t294,.int .i64 t295,.int .i64 t296] 39 (0,0)) (by (with_reducible repeat (first|refine blk_drewN ?_ _|refine blk_drew ?_|refine blk_alloc ?_ _));refine blk_far ?_ NB300_317.out _;(with_reducible repeat (first|refine blk_drewN ?_ _|refine blk_drew ?_|refine blk_alloc ?_ _));refine blk_far ?_ NB300_317.out _;(with_reducible repeat (first|refine blk_drewN ?_ _|refine blk_drew ?_|refine blk_alloc ?_ _));refine blk_far ?_ NB300_317.out _;(with_reducible repeat (first|refine blk_drewN ?_ _|refine blk_drew ?_|refine blk_alloc ?_ _));refine blk_far ?_ NB300_317.out _;(with_reducible repeat (first|refine blk_drewN ?_ _|refine blk_drew ?_|refine blk_alloc ?_ _));refine blk_far ?_ NB300_317.out _;(with_reducible repeat (first|refine blk_drewN ?_ _|refine blk_drew ?_|refine blk_alloc ?_ _));exact BK300.out) hb);have n8_:=Aside0.mk (blk_below (g:=gb317) (o:=.cells #[.int .i64 t307,.slice Ao40 t308.length co40,.int .i64 t311,.int .i64 t312,.int .i64 t313] 39 (0,0)) (by (with_reducible repeat (first|refine blk_drewN ?_ _|refine blk_drew ?_|refine blk_alloc ?_ _));refine blk_put (cs:=#[.int .i64 t307,.slice Ao40 t308.length co40,.int .i64 t311,.int .i64 t312,.int .i64 0]) ?_ 4 _ rfl;(with_reducible repeat (first|refine blk_drewN ?_ _|refine blk_drew ?_|refine blk_alloc ?_ _));refine blk_put (cs:=#[.int .i64 t307,.slice Ao40 t308.length co40,.int .i64 t311,.int .i64 0,.int .i64 0]) ?_ 3 _ rfl;(with_reducible repeat (first|refine blk_drewN ?_ _|refine blk_drew ?_|refine blk_alloc ?_ _));refine blk_put (cs:=#[.int .i64 t307,.slice Ao40 t308.length co40,.int .i64 0,.int .i64 0,.int .i64 0]) ?_ 2 _ rfl;(with_reducible repeat (first|refine blk_drewN ?_ _|refine blk_drew ?_|refine blk_alloc ?_ _));refine blk_put (cs:=#[.int .i64 t307,.slice none 0 0,.int .i64 0,.int .i64 0,.int .i64 0]) ?_ 1 _ rfl;(with_reducible repeat (first|refine blk_drewN ?_ _|refine blk_drew ?_|refine blk_alloc ?_ _));refine blk_put (cs:=#[.int .i64 0,.slice none 0 0,.int .i64 0,.int .i64 0,.int .i64 0]) ?_ 0 _ rfl;(with_reducible repeat (first|refine blk_drewN ?_ _|refine blk_drew ?_|refine blk_alloc ?_ _));exact BK317.out) hb);have n9_:=Aside0.mk (below_step (by repeat (first|(with_reducible first|exact HB.out|apply below_alloc|apply pw_below_drewN|apply below_drew1|refine below_set ?_ GE282.out|refine below_set ?_ GE300.out|refine below_set ?_ GE317.out)|exact HB.out)) hb);clear HO286;clear HO293;clear HO299;clear HO303;clear HO310;clear HO316;clear BK282;clear BK300;clear BK317;clear HB;have HO286:=n0_;have HO293:=n1_;have HO299:=n2_;have HO303:=n3_;have HO310:=n4_;have HO316:=n5_;have BK282:=n6_;have BK300:=n7_;have BK317:=n8_;have HB:=n9_;clear n0_ n1_ n2_ n3_ n4_ n5_ n6_ n7_ n8_ n9_;(try clear hb);(try clear hk);obtain ⟨Ao50,co50,eo50⟩:=Kd.R_slice HO316.out;subst eo50;obtain ⟨Ao51,co51,eo51⟩:=Kd.R_slice HO299.out;subst eo51)|(go_at_call 38;(with_reducible refine (laws_eqAddressS.calls k _ _ t314 _ _ t297 t319 _ ?side1 ?side2 ?side3 ?side4 A43.out).mono ?_);(case side1 => repeat (first|exact (Kd.R_reads' HO316.out).2.2|(with_reducible refine Kd.C_alloc ?_ _)|(with_reducible refine Kd.C_drewN ?_ _)|(with_reducible refine Kd.C_drew ?_)));(case side2 => exact (Kd.R_reads' HO316.out).2.1);(case side3 => repeat (first|exact (Kd.R_reads' HO299.out).2.2|(with_reducible refine Kd.C_alloc ?_ _)|(with_reducible refine Kd.C_drewN ?_ _)|(with_reducible refine Kd.C_drew ?_)));(case side4 => exact (Kd.R_reads' HO299.out).2.1);rintro e w52 ⟨rfl,hb⟩;have n0_:=Aside0.mk (Kd.S_below (by (with_reducible repeat (first|apply Kd.S_alloc|apply Kd.S_drewN|apply Kd.S_drew));exact HO286.out) hb);have n1_:=Aside0.mk (Kd.R_below (by (with_reducible repeat (first|apply Kd.R_alloc|apply Kd.R_drewN|apply Kd.R_drew));exact HO293.out) hb);have n2_:=Aside0.mk (Kd.R_below (by (with_reducible repeat (first|apply Kd.R_alloc|apply Kd.R_drewN|apply Kd.R_drew));exact HO299.out) hb);have n3_:=Aside0.mk (Kd.S_below (by (with_reducible repeat (first|apply Kd.S_alloc|apply Kd.S_drewN|apply Kd.S_drew));exact HO303.out) hb);have n4_:=Aside0.mk (Kd.R_below (by (with_reducible repeat (first|apply Kd.R_alloc|apply Kd.R_drewN|apply Kd.R_drew));exact HO310.out) hb);have n5_:=Aside0.mk (Kd.R_below (by (with_reducible repeat (first|apply Kd.R_alloc|apply Kd.R_drewN|apply Kd.R_drew));exact HO316.out) hb);have n6_:=Aside0.mk (blk_below (g:=gb282) (o:=.cells #[.int .i64 a1_0,.int .i64 a1_1,.int .i64 a1_2] 35 (0,0)) (by (with_reducible repeat (first|refine blk_drewN ?_ _|refine blk_drew ?_|refine blk_alloc ?_ _));exact BK282.out) hb);have n7_:=Aside0.mk (blk_below (g:=gb300) (o:=.cells #[.int .i64 t290,.slice Ao25 t291.length co25,.int .i64 t294,.int .i64 t295,.int .i64 t296] 39 (0,0)) (by (with_reducible repeat (first|refine blk_drewN ?_ _|refine blk_drew ?_|refine blk_alloc ?_ _));exact BK300.out) hb);have n8_:=Aside0.mk (blk_below (g:=gb317) (o:=.cells #[.int .i64 t307,.slice Ao40 t308.length co40,.int .i64 t311,.int .i64 t312,.int .i64 t313] 39 (0,0)) (by (with_reducible repeat (first|refine blk_drewN ?_ _|refine blk_drew ?_|refine blk_alloc ?_ _));exact BK317.out) hb);have n9_:=Aside0.mk (below_step (by repeat (first|(with_reducible first|exact HB.out|apply below_alloc|apply pw_below_drewN|apply below_drew1|refine below_set ?_ GE282.out|refine below_set ?_ GE300.out|refine below_set ?_ GE317.out)|exact HB.out)) hb);clear HO286;clear HO293;clear HO299;clear HO303;clear HO310;clear HO316;clear BK282;clear BK300;clear BK317;clear HB;have HO286:=n0_;have HO293:=n1_;have HO299:=n2_;have HO303:=n3_;have HO310:=n4_;have HO316:=n5_;have BK282:=n6_;have BK300:=n7_;have BK317:=n8_;have HB:=n9_;clear n0_ n1_ n2_ n3_ n4_ n5_ n6_ n7_ n8_ n9_;(try clear hb);(try clear hk)))
    go_meet
    case rel => exact ⟨_,(!t319),(by first|rfl|(simp;done)|(simp [*];done)),H',⟨by first|omega|exact Nat.le_refl _⟩,⟨by (with_reducible repeat (first|apply Kd.R_alloc|apply Kd.R_drewN|apply Kd.R_drew));exact Kd.R_mono HO299.out (fun _ hk => hk.2)⟩,⟨by (with_reducible repeat (first|apply Kd.S_alloc|apply Kd.S_drewN|apply Kd.S_drew));exact Kd.S_mono HO303.out (fun _ hk => ⟨hk.1.2,hk.2⟩)⟩,⟨by (with_reducible repeat (first|apply Kd.R_alloc|apply Kd.R_drewN|apply Kd.R_drew));exact Kd.R_mono HO316.out (fun _ hk => hk.2)⟩,⟨by (with_reducible repeat (first|apply Kd.R_alloc|apply Kd.R_drewN|apply Kd.R_drew));exact Kd.R_mono HO293.out (fun _ hk => hk.2)⟩,⟨by (with_reducible repeat (first|apply Kd.R_alloc|apply Kd.R_drewN|apply Kd.R_drew));exact Kd.R_mono HO310.out (fun _ hk => hk.2)⟩,⟨by (with_reducible repeat (first|refine blk_drewN ?_ _|refine blk_drew ?_|refine blk_alloc ?_ _));exact BK282.out⟩,⟨by (with_reducible repeat (first|refine blk_drewN ?_ _|refine blk_drew ?_|refine blk_alloc ?_ _));exact BK300.out⟩,⟨by (with_reducible repeat (first|refine blk_drewN ?_ _|refine blk_drew ?_|refine blk_alloc ?_ _));exact BK317.out⟩,⟨by repeat (first|(with_reducible first|exact HB.out|apply below_alloc|apply pw_below_drewN|apply below_drew1|refine below_set ?_ GE282.out|refine below_set ?_ GE300.out|refine below_set ?_ GE317.out)|exact HB.out)⟩⟩
   ·replace c42:=Bool.eq_false_iff.mpr c42
    subst c42
    have H1 : (laws_FnExactFollowAt.j0 k l0 a2 t297 t301 t314 true a1_0 a1_1 a1_2 t290 t291 t294 t295 t296 t307 t308 t311 t312 t313) = some r:=by rw [if_neg (show ¬ (false = true) by decide)] at H;exact H
    clear H;have H:=H1;clear H1;exact absurd H (by rw [HTRUE.out];cases k <;> simp [laws_FnExactFollowAt.j0])
  case rest =>
   clear HC14;try clear c1
   try clear c2
   try clear p2
   try clear c3
   try clear c4
   try clear c18
   try clear c19
   try clear c21
   try clear c31
   try clear c36
   try clear c37
   try clear c38
   try clear c42
   try clear c44
   try clear c45
   try clear c47
   try clear hcz32_0
   try clear hcz32_1
   try clear hcz32_2
   try clear hcz39_0
   try clear hcz39_1
   try clear hcz39_2
   try clear hcz39_3
   try clear hcz39_4
   try clear hcz46_0
   try clear hcz46_1
   try clear hcz46_2
   try clear hcz46_3
   try clear hcz46_4
   try clear hcz48_0
   try clear hcz48_1
   try clear hcz48_2
   try clear hcz48_3
   try clear hcz48_4
   try clear hfz32_0
   try clear hfz32_1
   try clear hfz32_2
   try clear hfz39_0
   try clear hfz39_1
   try clear hfz39_2
   try clear hfz39_3
   try clear hfz39_4
   try clear hfz46_0
   try clear hfz46_1
   try clear hfz46_2
   try clear hfz46_3
   try clear hfz46_4
   try clear hfz48_0
   try clear hfz48_1
   try clear hfz48_2
   try clear hfz48_3
   try clear hfz48_4
   obtain ⟨kq,x51_13,rfl,HA,HJ13,HO_9,HO_10,HO_12,HO_301001,HO_318001,BK282,BK300,BK317,HB⟩:=hcut;cases kq with
  |zero => exact absurd HA.out (by simp [laws_FnExactFollowAt.j0])
  |succ kj13 =>
    have H:=HA.out;clear HA;simp only [laws_FnExactFollowAt.j0] at H
    by_cases c53 : x51_13 = true
    ·subst c53
     have H1 : (some false) = some r:=by rw [if_pos rfl] at H;exact H
     clear H;have H:=H1;clear H1;exact absurd (Option.some.inj H) (by rw [HTRUE.out];decide)
    ·replace c53:=Bool.eq_false_iff.mpr c53
     subst c53
     have H1 : ((laws_toVersionS.f kj13 l0).bind fun t320 => ((laws_eqVersionS.f kj13 t301 t320).bind fun t323 => (if t323 = true then ((laws_markVersionS.f t301 1).bind fun t324 => (if t324 < 0 then (laws_FnExactFollowAt.j1 kj13 l0 a2 t297 t314 true a1_0 a1_1 a1_2 t290 t291 t294 t295 t296 t307 t308 t311 t312 t313) else ((laws_eqResource.f kj13 t307 t308 t311 t312 t313 t290 t291 t294 t295 t296).bind fun t325 => (if t325 = true then ((laws_eqAddressS.f kj13 t314 t297).bind fun t326 => (laws_FnExactFollowAt.j1 kj13 l0 a2 t297 t314 (!t326) a1_0 a1_1 a1_2 t290 t291 t294 t295 t296 t307 t308 t311 t312 t313)) else (laws_FnExactFollowAt.j1 kj13 l0 a2 t297 t314 true a1_0 a1_1 a1_2 t290 t291 t294 t295 t296 t307 t308 t311 t312 t313))))) else (some false)))) = some r:=by rw [if_neg (show ¬ (false = true) by decide)] at H;exact H
     clear H;have H:=H1;clear H1;replace H:=Option.bind_eq_some_iff.mp H
     obtain ⟨t320,A540,H⟩:=H;replace H : ((laws_eqVersionS.f kj13 t301 t320).bind fun t323 => (if t323 = true then ((laws_markVersionS.f t301 1).bind fun t324 => (if t324 < 0 then (laws_FnExactFollowAt.j1 kj13 l0 a2 t297 t314 true a1_0 a1_1 a1_2 t290 t291 t294 t295 t296 t307 t308 t311 t312 t313) else ((laws_eqResource.f kj13 t307 t308 t311 t312 t313 t290 t291 t294 t295 t296).bind fun t325 => (if t325 = true then ((laws_eqAddressS.f kj13 t314 t297).bind fun t326 => (laws_FnExactFollowAt.j1 kj13 l0 a2 t297 t314 (!t326) a1_0 a1_1 a1_2 t290 t291 t294 t295 t296 t307 t308 t311 t312 t313)) else (laws_FnExactFollowAt.j1 kj13 l0 a2 t297 t314 true a1_0 a1_1 a1_2 t290 t291 t294 t295 t296 t307 t308 t311 t312 t313))))) else (some false))) = some r:=H
     have A54:=Aside0.mk A540;clear A540;replace H:=Option.bind_eq_some_iff.mp H
     obtain ⟨t323,A550,H⟩:=H;replace H : (if t323 = true then ((laws_markVersionS.f t301 1).bind fun t324 => (if t324 < 0 then (laws_FnExactFollowAt.j1 kj13 l0 a2 t297 t314 true a1_0 a1_1 a1_2 t290 t291 t294 t295 t296 t307 t308 t311 t312 t313) else ((laws_eqResource.f kj13 t307 t308 t311 t312 t313 t290 t291 t294 t295 t296).bind fun t325 => (if t325 = true then ((laws_eqAddressS.f kj13 t314 t297).bind fun t326 => (laws_FnExactFollowAt.j1 kj13 l0 a2 t297 t314 (!t326) a1_0 a1_1 a1_2 t290 t291 t294 t295 t296 t307 t308 t311 t312 t313)) else (laws_FnExactFollowAt.j1 kj13 l0 a2 t297 t314 true a1_0 a1_1 a1_2 t290 t291 t294 t295 t296 t307 t308 t311 t312 t313))))) else (some false)) = some r:=H
     have A55:=Aside0.mk A550;clear A550;by_cases c56 : t323 = true
     ·subst c56
      have H1 : ((laws_markVersionS.f t301 1).bind fun t324 => (if t324 < 0 then (laws_FnExactFollowAt.j1 kj13 l0 a2 t297 t314 true a1_0 a1_1 a1_2 t290 t291 t294 t295 t296 t307 t308 t311 t312 t313) else ((laws_eqResource.f kj13 t307 t308 t311 t312 t313 t290 t291 t294 t295 t296).bind fun t325 => (if t325 = true then ((laws_eqAddressS.f kj13 t314 t297).bind fun t326 => (laws_FnExactFollowAt.j1 kj13 l0 a2 t297 t314 (!t326) a1_0 a1_1 a1_2 t290 t291 t294 t295 t296 t307 t308 t311 t312 t313)) else (laws_FnExactFollowAt.j1 kj13 l0 a2 t297 t314 true a1_0 a1_1 a1_2 t290 t291 t294 t295 t296 t307 t308 t311 t312 t313))))) = some r:=by rw [if_pos rfl] at H;exact H
      clear H;have H:=H1;clear H1;replace H:=Option.bind_eq_some_iff.mp H
      obtain ⟨t324,A570,H⟩:=H;replace H : (if t324 < 0 then (laws_FnExactFollowAt.j1 kj13 l0 a2 t297 t314 true a1_0 a1_1 a1_2 t290 t291 t294 t295 t296 t307 t308 t311 t312 t313) else ((laws_eqResource.f kj13 t307 t308 t311 t312 t313 t290 t291 t294 t295 t296).bind fun t325 => (if t325 = true then ((laws_eqAddressS.f kj13 t314 t297).bind fun t326 => (laws_FnExactFollowAt.j1 kj13 l0 a2 t297 t314 (!t326) a1_0 a1_1 a1_2 t290 t291 t294 t295 t296 t307 t308 t311 t312 t313)) else (laws_FnExactFollowAt.j1 kj13 l0 a2 t297 t314 true a1_0 a1_1 a1_2 t290 t291 t294 t295 t296 t307 t308 t311 t312 t313)))) = some r:=H
      have A57:=Aside0.mk A570;clear A570;have HC58:=Aside0.mk H;clear H;go_upto_region 14 with (first|((with_reducible refine gate_callee (f:=18) rfl ?_);refine goesL_ (some 54) rfl rfl Try.func18 (by kernel_rfl) rfl #[.slice A0 l0.length c0] rfl (by (try simp only [List.map_toArray,List.map_cons,List.map_nil]);first|done|rfl|(simp only [List.length_drop,List.length_take];rfl)) ?_;(with_reducible refine (laws_toVersionS.calls kj13 _ _ l0 t320 _ ?side1 ?side2 A54.out).mono ?_);(case side1 => repeat (first|exact (Kd.C_below HR0.out HB.out)|(with_reducible refine Kd.C_alloc ?_ _)|(with_reducible refine Kd.C_drewN ?_ _)|(with_reducible refine Kd.C_drew ?_)));(case side2 => exact HC0.out);rintro e w59 ⟨v321,rfl,ho0,hb⟩;refine ⟨_,rfl,?_⟩;have n0_:=Aside0.mk (Kd.R_below (by (with_reducible repeat (first|apply Kd.R_alloc|apply Kd.R_drewN|apply Kd.R_drew));exact HO_9.out) hb);have n1_:=Aside0.mk (Kd.S_elder' (by (with_reducible repeat (first|apply Kd.S_alloc|apply Kd.S_drewN|apply Kd.S_drew));exact HO_10.out) (Kd.S_base ho0) hb);have n2_:=Aside0.mk (Kd.R_below (by (with_reducible repeat (first|apply Kd.R_alloc|apply Kd.R_drewN|apply Kd.R_drew));exact HO_12.out) hb);have n3_:=Aside0.mk (Kd.R_below (by (with_reducible repeat (first|apply Kd.R_alloc|apply Kd.R_drewN|apply Kd.R_drew));exact HO_301001.out) hb);have n4_:=Aside0.mk (Kd.R_below (by (with_reducible repeat (first|apply Kd.R_alloc|apply Kd.R_drewN|apply Kd.R_drew));exact HO_318001.out) hb);have n5_:=Aside0.mk (Kd.S_lower (Kd.S_new' (Kd.S_new' (Kd.S_new' ho0 (Kd.S_lt (by (with_reducible repeat (first|apply Kd.S_alloc|apply Kd.S_drewN|apply Kd.S_drew));exact HO_10.out))) (Kd.R_lt (by (with_reducible repeat (first|apply Kd.R_alloc|apply Kd.R_drewN|apply Kd.R_drew));exact HO_301001.out))) (Kd.R_lt (by (with_reducible repeat (first|apply Kd.R_alloc|apply Kd.R_drewN|apply Kd.R_drew));exact HO_318001.out))) (below_size (by repeat (first|(with_reducible first|exact HB.out|apply below_alloc|apply pw_below_drewN|apply below_drew1|refine below_set ?_ GE282.out|refine below_set ?_ GE300.out|refine below_set ?_ GE317.out)|exact HB.out))));have n6_:=Aside0.mk (blk_below (g:=gb282) (o:=.cells #[.int .i64 a1_0,.int .i64 a1_1,.int .i64 a1_2] 35 (0,0)) (by (with_reducible repeat (first|refine blk_drewN ?_ _|refine blk_drew ?_|refine blk_alloc ?_ _));exact BK282.out) hb);have n7_:=Aside0.mk (blk_below (g:=gb300) (o:=.cells #[.int .i64 t290,.slice Ao25 t291.length co25,.int .i64 t294,.int .i64 t295,.int .i64 t296] 39 (0,0)) (by (with_reducible repeat (first|refine blk_drewN ?_ _|refine blk_drew ?_|refine blk_alloc ?_ _));exact BK300.out) hb);have n8_:=Aside0.mk (blk_below (g:=gb317) (o:=.cells #[.int .i64 t307,.slice Ao40 t308.length co40,.int .i64 t311,.int .i64 t312,.int .i64 t313] 39 (0,0)) (by (with_reducible repeat (first|refine blk_drewN ?_ _|refine blk_drew ?_|refine blk_alloc ?_ _));exact BK317.out) hb);have n9_:=Aside0.mk (below_step (by repeat (first|(with_reducible first|exact HB.out|apply below_alloc|apply pw_below_drewN|apply below_drew1|refine below_set ?_ GE282.out|refine below_set ?_ GE300.out|refine below_set ?_ GE317.out)|exact HB.out)) hb);clear HO_9;clear HO_10;clear HO_12;clear HO_301001;clear HO_318001;clear BK282;clear BK300;clear BK317;clear HB;have HO_9:=n0_;have HO_10:=n1_;have HO_12:=n2_;have HO_301001:=n3_;have HO_318001:=n4_;have HO322:=n5_;have BK282:=n6_;have BK300:=n7_;have BK317:=n8_;have HB:=n9_;clear n0_ n1_ n2_ n3_ n4_ n5_ n6_ n7_ n8_ n9_;(try clear hb);(try clear hk);(try clear ho0);obtain ⟨Ao60,co60,eo60⟩:=Kd.S_slice HO322.out;subst eo60)|((with_reducible refine gate_callee (f:=22) rfl ?_);refine goesL_ (some 55) rfl rfl Try.func22 (by kernel_rfl) rfl #[.slice Ao34 t301.length co34,.slice Ao60 t320.length co60] rfl (by (try simp only [List.map_toArray,List.map_cons,List.map_nil]);first|done|rfl|(simp only [List.length_drop,List.length_take];rfl)) ?_;(with_reducible refine (laws_eqVersionS.calls kj13 _ _ t301 _ _ t320 true _ ?side1 ?side2 ?side3 ?side4 A55.out).mono ?_);(case side1 => repeat (first|exact (Kd.S_reads' HO_10.out).2.2|(with_reducible refine Kd.C_alloc ?_ _)|(with_reducible refine Kd.C_drewN ?_ _)|(with_reducible refine Kd.C_drew ?_)));(case side2 => exact (Kd.S_reads' HO_10.out).2.1);(case side3 => repeat (first|exact (Kd.S_reads' HO322.out).2.2|(with_reducible refine Kd.C_alloc ?_ _)|(with_reducible refine Kd.C_drewN ?_ _)|(with_reducible refine Kd.C_drew ?_)));(case side4 => exact (Kd.S_reads' HO322.out).2.1);rintro e w61 ⟨rfl,hb⟩;refine ⟨_,rfl,?_⟩;have n0_:=Aside0.mk (Kd.R_below (by (with_reducible repeat (first|apply Kd.R_alloc|apply Kd.R_drewN|apply Kd.R_drew));exact HO_9.out) hb);have n1_:=Aside0.mk (Kd.S_below (by (with_reducible repeat (first|apply Kd.S_alloc|apply Kd.S_drewN|apply Kd.S_drew));exact HO_10.out) hb);have n2_:=Aside0.mk (Kd.R_below (by (with_reducible repeat (first|apply Kd.R_alloc|apply Kd.R_drewN|apply Kd.R_drew));exact HO_12.out) hb);have n3_:=Aside0.mk (Kd.R_below (by (with_reducible repeat (first|apply Kd.R_alloc|apply Kd.R_drewN|apply Kd.R_drew));exact HO_301001.out) hb);have n4_:=Aside0.mk (Kd.R_below (by (with_reducible repeat (first|apply Kd.R_alloc|apply Kd.R_drewN|apply Kd.R_drew));exact HO_318001.out) hb);have n5_:=Aside0.mk (Kd.S_below (by (with_reducible repeat (first|apply Kd.S_alloc|apply Kd.S_drewN|apply Kd.S_drew));exact HO322.out) hb);have n6_:=Aside0.mk (blk_below (g:=gb282) (o:=.cells #[.int .i64 a1_0,.int .i64 a1_1,.int .i64 a1_2] 35 (0,0)) (by (with_reducible repeat (first|refine blk_drewN ?_ _|refine blk_drew ?_|refine blk_alloc ?_ _));exact BK282.out) hb);have n7_:=Aside0.mk (blk_below (g:=gb300) (o:=.cells #[.int .i64 t290,.slice Ao25 t291.length co25,.int .i64 t294,.int .i64 t295,.int .i64 t296] 39 (0,0)) (by (with_reducible repeat (first|refine blk_drewN ?_ _|refine blk_drew ?_|refine blk_alloc ?_ _));exact BK300.out) hb);have n8_:=Aside0.mk (blk_below (g:=gb317) (o:=.cells #[.int .i64 t307,.slice Ao40 t308.length co40,.int .i64 t311,.int .i64 t312,.int .i64 t313] 39 (0,0)) (by (with_reducible repeat (first|refine blk_drewN ?_ _|refine blk_drew ?_|refine blk_alloc ?_ _));exact BK317.out) hb);have n9_:=Aside0.mk (below_step (by repeat (first|(with_reducible first|exact HB.out|apply below_alloc|apply pw_below_drewN|apply below_drew1|refine below_set ?_ GE282.out|refine below_set ?_ GE300.out|refine below_set ?_ GE317.out)|exact HB.out)) hb);clear HO_9;clear HO_10;clear HO_12;clear HO_301001;clear HO_318001;clear HO322;clear BK282;clear BK300;clear BK317;clear HB;have HO_9:=n0_;have HO_10:=n1_;have HO_12:=n2_;have HO_301001:=n3_;have HO_318001:=n4_;have HO322:=n5_;have BK282:=n6_;have BK300:=n7_;have BK317:=n8_;have HB:=n9_;clear n0_ n1_ n2_ n3_ n4_ n5_ n6_ n7_ n8_ n9_;(try clear hb);(try clear hk))|((with_reducible refine gate_callee (f:=23) rfl ?_);refine goesL_ (some 59) rfl rfl Try.func23 (by kernel_rfl) rfl #[.slice Ao34 t301.length co34,.int .i64 1] rfl (by (try simp only [List.map_toArray,List.map_cons,List.map_nil]);first|done|rfl|(simp only [List.length_drop,List.length_take];rfl)) ?_;refine (laws_markVersionS.calls ?mkP _ _ t301 1 t324 w _ ?mk1 ?mk2 A57.out).mono ?_;(case mk1 => repeat (first|(with_reducible first|exact HB.out|apply below_alloc|apply pw_below_drewN|apply below_drew1|refine below_set ?_ GE282.out|refine below_set ?_ GE300.out|refine below_set ?_ GE317.out)|exact HB.out));(case mk2 => exact Kd.R_bound (Kd.S_R (by first|exact HO_10.out|((with_reducible repeat (first|apply Kd.S_alloc|apply Kd.S_drewN|apply Kd.S_drew));exact HO_10.out))));rintro e w62 ⟨rfl,hbm,hkp⟩;refine ⟨_,rfl,?_⟩;have n0_:=Aside0.mk (kept_row HO_9.out rfl hkp (by first|exact .inl (by decide)|exact .inr (fun k hk h1 => by rw [← hk] at h1;simp at h1)) (fun k e_ => HO_9.out.1 k e_));have n1_:=Aside0.mk (Kd.S_nil k82 82 w62 w.heap.size (fun _ => True));have n2_:=Aside0.mk (kept_row HO_12.out rfl hkp (by first|exact .inl (by decide)|exact .inr (fun k hk h1 => by rw [← hk] at h1;simp at h1)) (fun k e_ => HO_12.out.1 k e_));have n3_:=Aside0.mk (kept_row HO_301001.out rfl hkp (by first|exact .inl (by decide)|exact .inr (fun k hk h1 => by rw [← hk] at h1;simp at h1)) (fun k e_ => HO_301001.out.1 k e_));have n4_:=Aside0.mk (kept_row HO_318001.out rfl hkp (by first|exact .inl (by decide)|exact .inr (fun k hk h1 => by rw [← hk] at h1;simp at h1)) (fun k e_ => HO_318001.out.1 k e_));have n5_:=Aside0.mk (Kd.S_nil k82 82 w62 w.heap.size (fun _ => True));have n6_:=Aside0.mk (kept_blk BK282.out hkp (by decide));have n7_:=Aside0.mk (kept_blk BK300.out hkp (by decide));have n8_:=Aside0.mk (kept_blk BK317.out hkp (by decide));have n9_:=Aside0.mk (hbm);clear hkp hbm;clear HO_9;clear HO_10;clear HO_12;clear HO_301001;clear HO_318001;clear HO322;clear BK282;clear BK300;clear BK317;clear HB;have HO_9:=n0_;have HO_10:=n1_;have HO_12:=n2_;have HO_301001:=n3_;have HO_318001:=n4_;have HO322:=n5_;have BK282:=n6_;have BK300:=n7_;have BK317:=n8_;have HB:=n9_;clear n0_ n1_ n2_ n3_ n4_ n5_ n6_ n7_ n8_ n9_;(try clear hb);(try clear hk)))
      (try simp only [Act.put,List.setIfInBounds_toArray,List.set_cons_zero,List.set_cons_succ])
      go_cut [73] (fun v73 wc => ∃ (kq : Nat) (x73_57 : Bool),v73 = .bool x73_57 ∧ Aside0 (laws_FnExactFollowAt.j1 kq l0 a2 t297 t314 x73_57 a1_0 a1_1 a1_2 t290 t291 t294 t295 t296 t307 t308 t311 t312 t313 = some r) ∧ Aside0 (kq ≤ kj13) ∧ Aside0 (Kd.R k37 37 wc w.heap.size (fun k_ => some k_ ≠ (v315 : Value).ownBlock) v298 t297) ∧ Aside0 (Kd.R k37 37 wc w.heap.size (fun k_ => some k_ ≠ (v298 : Value).ownBlock) v315 t314) ∧ Aside0 (Kd.R (Kd.int .i64) 3 wc w.heap.size (fun k_ => some k_ ≠ ((.slice Ao40 t308.length co40) : Value).ownBlock) (.slice Ao25 t291.length co25) t291) ∧ Aside0 (Kd.R (Kd.int .i64) 3 wc w.heap.size (fun k_ => some k_ ≠ ((.slice Ao25 t291.length co25) : Value).ownBlock) (.slice Ao40 t308.length co40) t308) ∧ Aside0 (wc.heap[gb282]? = some (.cells #[.int .i64 a1_0,.int .i64 a1_1,.int .i64 a1_2] 35 (0,0))) ∧ Aside0 (wc.heap[gb300]? = some (.cells #[.int .i64 t290,(.slice Ao25 t291.length co25),.int .i64 t294,.int .i64 t295,.int .i64 t296] 39 (0,0))) ∧ Aside0 (wc.heap[gb317]? = some (.cells #[.int .i64 t307,(.slice Ao40 t308.length co40),.int .i64 t311,.int .i64 t312,.int .i64 t313] 39 (0,0))) ∧ Aside0 (Below w.heap.size w wc))
      case first =>
       have H:=HC58.out;clear HC58;by_cases c63 : t324 < 0
       ·rw [if_pos c63] at H
        have c63b0 : decide (t324 < 0) = true:=decide_eq_true c63
        clear c63;(first|rw [c63b0]|(simp only [i64_w,i32_w];rw [c63b0])|skip)
        exact absurd H (by rw [HTRUE.out];cases kj13 <;> simp [laws_FnExactFollowAt.j1])
       ·rw [if_neg c63] at H
        have c63b0 : decide (t324 < 0) = false:=decide_eq_false c63
        clear c63;(first|rw [c63b0]|(simp only [i64_w,i32_w];rw [c63b0])|skip)
        replace H:=Option.bind_eq_some_iff.mp H
        obtain ⟨t325,A640,H⟩:=H;replace H : (if t325 = true then ((laws_eqAddressS.f kj13 t314 t297).bind fun t326 => (laws_FnExactFollowAt.j1 kj13 l0 a2 t297 t314 (!t326) a1_0 a1_1 a1_2 t290 t291 t294 t295 t296 t307 t308 t311 t312 t313)) else (laws_FnExactFollowAt.j1 kj13 l0 a2 t297 t314 true a1_0 a1_1 a1_2 t290 t291 t294 t295 t296 t307 t308 t311 t312 t313)) = some r:=H
        have A64:=Aside0.mk A640;clear A640;by_cases c65 : t325 = true
        ·subst c65
         have H1 : ((laws_eqAddressS.f kj13 t314 t297).bind fun t326 => (laws_FnExactFollowAt.j1 kj13 l0 a2 t297 t314 (!t326) a1_0 a1_1 a1_2 t290 t291 t294 t295 t296 t307 t308 t311 t312 t313)) = some r:=by rw [if_pos rfl] at H;exact H
         clear H;have H:=H1;clear H1;replace H:=Option.bind_eq_some_iff.mp H
         obtain ⟨t326,A660,H⟩:=H;replace H : (laws_FnExactFollowAt.j1 kj13 l0 a2 t297 t314 (!t326) a1_0 a1_1 a1_2 t290 t291 t294 t295 t296 t307 t308 t311 t312 t313) = some r:=H
         have A66:=Aside0.mk A660;clear A660;have H':=Aside0.mk H;clear H;have hnb67:=NB317_282.out;have hnc67:=NB282_317.out;have hnb68:=NB317_300.out;have hnc68:=NB300_317.out;have hcz69_0 : w62.cell? ⟨gb317,0,none⟩ = some (.int .i64 t307):=(blk_cell BK317.out 0).trans rfl
         have hcz69_1 : w62.cell? ⟨gb317,1,none⟩ = some (.slice Ao40 t308.length co40):=(blk_cell BK317.out 1).trans rfl
         have hcz69_2 : w62.cell? ⟨gb317,2,none⟩ = some (.int .i64 t311):=(blk_cell BK317.out 2).trans rfl
         have hcz69_3 : w62.cell? ⟨gb317,3,none⟩ = some (.int .i64 t312):=(blk_cell BK317.out 3).trans rfl
         have hcz69_4 : w62.cell? ⟨gb317,4,none⟩ = some (.int .i64 t313):=(blk_cell BK317.out 4).trans rfl
         have hfz69_0:=blk_frozen BK317.out 0
         have hfz69_1:=blk_frozen BK317.out 1
         have hfz69_2:=blk_frozen BK317.out 2
         have hfz69_3:=blk_frozen BK317.out 3
         have hfz69_4:=blk_frozen BK317.out 4
         have hnb70:=NB300_282.out;have hnc70:=NB282_300.out;have hcz71_0 : w62.cell? ⟨gb300,0,none⟩ = some (.int .i64 t290):=(blk_cell BK300.out 0).trans rfl
         have hcz71_1 : w62.cell? ⟨gb300,1,none⟩ = some (.slice Ao25 t291.length co25):=(blk_cell BK300.out 1).trans rfl
         have hcz71_2 : w62.cell? ⟨gb300,2,none⟩ = some (.int .i64 t294):=(blk_cell BK300.out 2).trans rfl
         have hcz71_3 : w62.cell? ⟨gb300,3,none⟩ = some (.int .i64 t295):=(blk_cell BK300.out 3).trans rfl
         have hcz71_4 : w62.cell? ⟨gb300,4,none⟩ = some (.int .i64 t296):=(blk_cell BK300.out 4).trans rfl
         have hfz71_0:=blk_frozen BK300.out 0
         have hfz71_1:=blk_frozen BK300.out 1
         have hfz71_2:=blk_frozen BK300.out 2
         have hfz71_3:=blk_frozen BK300.out 3
         have hfz71_4:=blk_frozen BK300.out 4
         go_wp2_with (first|(go_at_call 21;(with_reducible refine (laws_eqResource.calls kj13 t307 _ _ t308 t311 t312 t313 t290 _ _ t291 t294 t295 t296 true _ ?side1 ?side2 ?side3 ?side4 A64.out).mono ?_);(case side1 => repeat (first|exact (Kd.R_reads' HO_318001.out).2.2|(with_reducible refine Kd.C_alloc ?_ _)|(with_reducible refine Kd.C_drewN ?_ _)|(with_reducible refine Kd.C_drew ?_)));(case side2 => exact (Kd.R_reads' HO_318001.out).2.1);(case side3 => repeat (first|exact (Kd.R_reads' HO_301001.out).2.2|(with_reducible refine Kd.C_alloc ?_ _)|(with_reducible refine Kd.C_drewN ?_ _)|(with_reducible refine Kd.C_drew ?_)));(case side4 => exact (Kd.R_reads' HO_301001.out).2.1);rintro e w72 ⟨rfl,hb⟩;have n0_:=Aside0.mk (Kd.R_below (by (with_reducible repeat (first|apply Kd.R_alloc|apply Kd.R_drewN|apply Kd.R_drew));exact HO_9.out) hb);have n1_:=Aside0.mk (Kd.S_below (by (with_reducible repeat (first|apply Kd.S_alloc|apply Kd.S_drewN|apply Kd.S_drew));exact HO_10.out) hb);have n2_:=Aside0.mk (Kd.R_below (by (with_reducible repeat (first|apply Kd.R_alloc|apply Kd.R_drewN|apply Kd.R_drew));exact HO_12.out) hb);have n3_:=Aside0.mk (Kd.R_below (by (with_reducible repeat (first|apply Kd.R_alloc|apply Kd.R_drewN|apply Kd.R_drew));exact HO_301001.out) hb);have n4_:=Aside0.mk (Kd.R_below (by (with_reducible repeat (first|apply Kd.R_alloc|apply Kd.R_drewN|apply Kd.R_drew));exact HO_318001.out) hb);have n5_:=Aside0.mk (Kd.S_below (by (with_reducible repeat (first|apply Kd.S_alloc|apply Kd.S_drewN|apply Kd.S_drew));exact HO322.out) hb);have n6_:=Aside0.mk (blk_below (g:=gb282) (o:=.cells #[.int .i64 a1_0,.int .i64 a1_1,.int .i64 a1_2] 35 (0,0)) (by (with_reducible repeat (first|refine blk_drewN ?_ _|refine blk_drew ?_|refine blk_alloc ?_ _));exact BK282.out) hb);have n7_:=Aside0.mk (blk_below (g:=gb300) (o:=.cells #[.int .i64 t290,.slice Ao25 t291.length co25,.int .i64 t294,.int .i64 t295,.int .i64 t296] 39 (0,0)) (by (with_reducible repeat (first|refine blk_drewN ?_ _|refine blk_drew ?_|refine blk_alloc ?_ _));exact BK300.out) hb);have n8_:=Aside0.mk (blk_below (g:=gb317) (o:=.cells #[.int .i64 t307,.slice Ao40 t308.length co40,.int .i64 t311,.int .i64 t312,.int .i64 t313] 39 (0,0)) (by (with_reducible repeat (first|refine blk_drewN ?_ _|refine blk_drew ?_|refine blk_alloc ?_ _));exact BK317.out) hb);have n9_:=Aside0.mk (below_step (by repeat (first|(with_reducible first|exact HB.out|apply below_alloc|apply pw_below_drewN|apply below_drew1|refine below_set ?_ GE282.out|refine below_set ?_ GE300.out|refine below_set ?_ GE317.out)|exact HB.out)) hb);clear HO_9;clear HO_10;clear HO_12;clear HO_301001;clear HO_318001;clear HO322;clear BK282;clear BK300;clear BK317;clear HB;have HO_9:=n0_;have HO_10:=n1_;have HO_12:=n2_;have HO_301001:=n3_;have HO_318001:=n4_;have HO322:=n5_;have BK282:=n6_;have BK300:=n7_;have BK317:=n8_;have HB:=n9_;clear n0_ n1_ n2_ n3_ n4_ n5_ n6_ n7_ n8_ n9_;(try clear hb);(try clear hk);obtain ⟨Ao73,co73,eo73⟩:=Kd.R_slice HO_12.out;subst eo73;obtain ⟨Ao74,co74,eo74⟩:=Kd.R_slice HO_9.out;subst eo74)|(go_at_call 38;(with_reducible refine (laws_eqAddressS.calls kj13 _ _ t314 _ _ t297 t326 _ ?side1 ?side2 ?side3 ?side4 A66.out).mono ?_);(case side1 => repeat (first|exact (Kd.R_reads' HO_12.out).2.2|(with_reducible refine Kd.C_alloc ?_ _)|(with_reducible refine Kd.C_drewN ?_ _)|(with_reducible refine Kd.C_drew ?_)));(case side2 => exact (Kd.R_reads' HO_12.out).2.1);(case side3 => repeat (first|exact (Kd.R_reads' HO_9.out).2.2|(with_reducible refine Kd.C_alloc ?_ _)|(with_reducible refine Kd.C_drewN ?_ _)|(with_reducible refine Kd.C_drew ?_)));(case side4 => exact (Kd.R_reads' HO_9.out).2.1);rintro e w75 ⟨rfl,hb⟩;have n0_:=Aside0.mk (Kd.R_below (by (with_reducible repeat (first|apply Kd.R_alloc|apply Kd.R_drewN|apply Kd.R_drew));exact HO_9.out) hb);have n1_:=Aside0.mk (Kd.S_below (by (with_reducible repeat (first|apply Kd.S_alloc|apply Kd.S_drewN|apply Kd.S_drew));exact HO_10.out) hb);have n2_:=Aside0.mk (Kd.R_below (by (with_reducible repeat (first|apply Kd.R_alloc|apply Kd.R_drewN|apply Kd.R_drew));exact HO_12.out) hb);have n3_:=Aside0.mk (Kd.R_below (by (with_reducible repeat (first|apply Kd.R_alloc|apply Kd.R_drewN|apply Kd.R_drew));exact HO_301001.out) hb);have n4_:=Aside0.mk (Kd.R_below (by (with_reducible repeat (first|apply Kd.R_alloc|apply Kd.R_drewN|apply Kd.R_drew));exact HO_318001.out) hb);have n5_:=Aside0.mk (Kd.S_below (by (with_reducible repeat (first|apply Kd.S_alloc|apply Kd.S_drewN|apply Kd.S_drew));exact HO322.out) hb);have n6_:=Aside0.mk (blk_below (g:=gb282) (o:=.cells #[.int .i64 a1_0,.int .i64 a1_1,.int .i64 a1_2] 35 (0,0)) (by (with_reducible repeat (first|refine blk_drewN ?_ _|refine blk_drew ?_|refine blk_alloc ?_ _));exact BK282.out) hb);have n7_:=Aside0.mk (blk_below (g:=gb300) (o:=.cells #[.int .i64 t290,.slice Ao25 t291.length co25,.int .i64 t294,.int .i64 t295,.int .i64 t296] 39 (0,0)) (by (with_reducible repeat (first|refine blk_drewN ?_ _|refine blk_drew ?_|refine blk_alloc ?_ _));exact BK300.out) hb);have n8_:=Aside0.mk (blk_below (g:=gb317) (o:=.cells #[.int .i64 t307,.slice Ao40 t308.length co40,.int .i64 t311,.int .i64 t312,.int .i64 t313] 39 (0,0)) (by (with_reducible repeat (first|refine blk_drewN ?_ _|refine blk_drew ?_|refine blk_alloc ?_ _));exact BK317.out) hb);have n9_:=Aside0.mk (below_step (by repeat (first|(with_reducible first|exact HB.out|apply below_alloc|apply pw_below_drewN|apply below_drew1|refine below_set ?_ GE282.out|refine below_set ?_ GE300.out|refine below_set ?_ GE317.out)|exact HB.out)) hb);clear HO_9;clear HO_10;clear HO_12;clear HO_301001;clear HO_318001;clear HO322;clear BK282;clear BK300;clear BK317;clear HB;have HO_9:=n0_;have HO_10:=n1_;have HO_12:=n2_;have HO_301001:=n3_;have HO_318001:=n4_;have HO322:=n5_;have BK282:=n6_;have BK300:=n7_;have BK317:=n8_;have HB:=n9_;clear n0_ n1_ n2_ n3_ n4_ n5_ n6_ n7_ n8_ n9_;(try clear hb);(try clear hk)))
         go_meet
         case rel => exact ⟨_,(!t326),(by first|rfl|(simp;done)|(simp [*];done)),H',⟨by have:=HJ13.out;first|omega|exact Nat.le_refl _⟩,⟨by (with_reducible repeat (first|apply Kd.R_alloc|apply Kd.R_drewN|apply Kd.R_drew));exact HO_9.out⟩,⟨by (with_reducible repeat (first|apply Kd.R_alloc|apply Kd.R_drewN|apply Kd.R_drew));exact HO_12.out⟩,⟨by (with_reducible repeat (first|apply Kd.R_alloc|apply Kd.R_drewN|apply Kd.R_drew));exact HO_301001.out⟩,⟨by (with_reducible repeat (first|apply Kd.R_alloc|apply Kd.R_drewN|apply Kd.R_drew));exact HO_318001.out⟩,⟨by (with_reducible repeat (first|refine blk_drewN ?_ _|refine blk_drew ?_|refine blk_alloc ?_ _));exact BK282.out⟩,⟨by (with_reducible repeat (first|refine blk_drewN ?_ _|refine blk_drew ?_|refine blk_alloc ?_ _));exact BK300.out⟩,⟨by (with_reducible repeat (first|refine blk_drewN ?_ _|refine blk_drew ?_|refine blk_alloc ?_ _));exact BK317.out⟩,⟨by repeat (first|(with_reducible first|exact HB.out|apply below_alloc|apply pw_below_drewN|apply below_drew1|refine below_set ?_ GE282.out|refine below_set ?_ GE300.out|refine below_set ?_ GE317.out)|exact HB.out)⟩⟩
        ·replace c65:=Bool.eq_false_iff.mpr c65
         subst c65
         have H1 : (laws_FnExactFollowAt.j1 kj13 l0 a2 t297 t314 true a1_0 a1_1 a1_2 t290 t291 t294 t295 t296 t307 t308 t311 t312 t313) = some r:=by rw [if_neg (show ¬ (false = true) by decide)] at H;exact H
         clear H;have H:=H1;clear H1;exact absurd H (by rw [HTRUE.out];cases kj13 <;> simp [laws_FnExactFollowAt.j1])
      case rest =>
       clear HC58;try clear c1
       try clear c2
       try clear p2
       try clear c3
       try clear c4
       try clear c5
       try clear c6
       try clear c7
       try clear c18
       try clear c19
       try clear c21
       try clear c22
       try clear c23
       try clear c31
       try clear c36
       try clear c37
       try clear c38
       try clear c42
       try clear c44
       try clear c45
       try clear c47
       try clear c53
       try clear c56
       try clear c63
       try clear c63b0
       try clear c65
       try clear c67
       try clear c68
       try clear c70
       try clear hcz32_0
       try clear hcz32_1
       try clear hcz32_2
       try clear hcz39_0
       try clear hcz39_1
       try clear hcz39_2
       try clear hcz39_3
       try clear hcz39_4
       try clear hcz46_0
       try clear hcz46_1
       try clear hcz46_2
       try clear hcz46_3
       try clear hcz46_4
       try clear hcz48_0
       try clear hcz48_1
       try clear hcz48_2
       try clear hcz48_3
       try clear hcz48_4
       try clear hcz69_0
       try clear hcz69_1
       try clear hcz69_2
       try clear hcz69_3
       try clear hcz69_4
       try clear hcz71_0
       try clear hcz71_1
       try clear hcz71_2
       try clear hcz71_3
       try clear hcz71_4
       try clear hfz32_0
       try clear hfz32_1
       try clear hfz32_2
       try clear hfz39_0
       try clear hfz39_1
       try clear hfz39_2
       try clear hfz39_3
       try clear hfz39_4
       try clear hfz46_0
       try clear hfz46_1
       try clear hfz46_2
       try clear hfz46_3
       try clear hfz46_4
       try clear hfz48_0
       try clear hfz48_1
       try clear hfz48_2
       try clear hfz48_3
       try clear hfz48_4
       try clear hfz69_0
       try clear hfz69_1
       try clear hfz69_2
       try clear hfz69_3
       try clear hfz69_4
       try clear hfz71_0
       try clear hfz71_1
       try clear hfz71_2
       try clear hfz71_3
       try clear hfz71_4
       try clear p2
       obtain ⟨kq,x73_57,rfl,HA,HJ57,HO_9,HO_12,HO_301001,HO_318001,BK282,BK300,BK317,HB⟩:=hcut;cases kq with
      |zero => exact absurd HA.out (by simp [laws_FnExactFollowAt.j1])
      |succ kj57 =>
        have H:=HA.out;clear HA;simp only [laws_FnExactFollowAt.j1] at H
        by_cases c76 : x73_57 = true
        ·subst c76
         have H1 : (some false) = some r:=by rw [if_pos rfl] at H;exact H
         clear H;have H:=H1;clear H1;exact absurd (Option.some.inj H) (by rw [HTRUE.out];decide)
        ·replace c76:=Bool.eq_false_iff.mpr c76
         subst c76
         have H1 : ((laws_markResource.f kj57 t307 t308 t311 t312 t313 1).bind fun bt327 => ((laws_markAddressS.f kj57 t314 bt327.1).bind fun bt329 => ((laws_heldResource.f kj57 t307 bt327.2 t311 t312 t313 1).bind fun t331 => (if t331 < 0 then (some false) else ((laws_heldAddressS.f kj57 bt329.2 t331).bind fun t332 => (if t332 < 0 then (some false) else (if t332 = bt329.1 then ((laws_toVersionS.f kj57 l0).bind fun t333 => ((laws_toAddress.f a1_0 a1_1 a1_2).bind fun bt336 => ((impl_FollowAt.f kj57 t333 bt336.1 bt336.2.1 bt336.2.2 a2).bind fun bt339 => ((laws_eqResource.f kj57 bt339.1 bt339.2.1 bt339.2.2.1 bt339.2.2.2.1 bt339.2.2.2.2.1 t290 t291 t294 t295 t296).bind fun t350 => (if t350 = true then ((laws_eqAddressS.f kj57 bt339.2.2.2.2.2 t297).bind fun t351 => (laws_FnExactFollowAt.j2 kj57 bt329.2 bt329.1 (!t351) t307 bt327.2 t311 t312 t313)) else (laws_FnExactFollowAt.j2 kj57 bt329.2 bt329.1 true t307 bt327.2 t311 t312 t313)))))) else (some false)))))))) = some r:=by rw [if_neg (show ¬ (false = true) by decide)] at H;exact H
         clear H;have H:=H1;clear H1;replace H:=Option.bind_eq_some_iff.mp H
         obtain ⟨⟨t327,t328⟩,A770,H⟩:=H
         replace H : ((laws_markAddressS.f kj57 t314 t327).bind fun bt329 => ((laws_heldResource.f kj57 t307 t328 t311 t312 t313 1).bind fun t331 => (if t331 < 0 then (some false) else ((laws_heldAddressS.f kj57 bt329.2 t331).bind fun t332 => (if t332 < 0 then (some false) else (if t332 = bt329.1 then ((laws_toVersionS.f kj57 l0).bind fun t333 => ((laws_toAddress.f a1_0 a1_1 a1_2).bind fun bt336 => ((impl_FollowAt.f kj57 t333 bt336.1 bt336.2.1 bt336.2.2 a2).bind fun bt339 => ((laws_eqResource.f kj57 bt339.1 bt339.2.1 bt339.2.2.1 bt339.2.2.2.1 bt339.2.2.2.2.1 t290 t291 t294 t295 t296).bind fun t350 => (if t350 = true then ((laws_eqAddressS.f kj57 bt339.2.2.2.2.2 t297).bind fun t351 => (laws_FnExactFollowAt.j2 kj57 bt329.2 bt329.1 (!t351) t307 t328 t311 t312 t313)) else (laws_FnExactFollowAt.j2 kj57 bt329.2 bt329.1 true t307 t328 t311 t312 t313)))))) else (some false))))))) = some r:=H
         have A77:=Aside0.mk A770;clear A770;replace H:=Option.bind_eq_some_iff.mp H
         obtain ⟨⟨t329,t330⟩,A780,H⟩:=H
         replace H : ((laws_heldResource.f kj57 t307 t328 t311 t312 t313 1).bind fun t331 => (if t331 < 0 then (some false) else ((laws_heldAddressS.f kj57 t330 t331).bind fun t332 => (if t332 < 0 then (some false) else (if t332 = t329 then ((laws_toVersionS.f kj57 l0).bind fun t333 => ((laws_toAddress.f a1_0 a1_1 a1_2).bind fun bt336 => ((impl_FollowAt.f kj57 t333 bt336.1 bt336.2.1 bt336.2.2 a2).bind fun bt339 => ((laws_eqResource.f kj57 bt339.1 bt339.2.1 bt339.2.2.1 bt339.2.2.2.1 bt339.2.2.2.2.1 t290 t291 t294 t295 t296).bind fun t350 => (if t350 = true then ((laws_eqAddressS.f kj57 bt339.2.2.2.2.2 t297).bind fun t351 => (laws_FnExactFollowAt.j2 kj57 t330 t329 (!t351) t307 t328 t311 t312 t313)) else (laws_FnExactFollowAt.j2 kj57 t330 t329 true t307 t328 t311 t312 t313)))))) else (some false)))))) = some r:=H
         have A78:=Aside0.mk A780;clear A780;replace H:=Option.bind_eq_some_iff.mp H
         obtain ⟨t331,A790,H⟩:=H;replace H : (if t331 < 0 then (some false) else ((laws_heldAddressS.f kj57 t330 t331).bind fun t332 => (if t332 < 0 then (some false) else (if t332 = t329 then ((laws_toVersionS.f kj57 l0).bind fun t333 => ((laws_toAddress.f a1_0 a1_1 a1_2).bind fun bt336 => ((impl_FollowAt.f kj57 t333 bt336.1 bt336.2.1 bt336.2.2 a2).bind fun bt339 => ((laws_eqResource.f kj57 bt339.1 bt339.2.1 bt339.2.2.1 bt339.2.2.2.1 bt339.2.2.2.2.1 t290 t291 t294 t295 t296).bind fun t350 => (if t350 = true then ((laws_eqAddressS.f kj57 bt339.2.2.2.2.2 t297).bind fun t351 => (laws_FnExactFollowAt.j2 kj57 t330 t329 (!t351) t307 t328 t311 t312 t313)) else (laws_FnExactFollowAt.j2 kj57 t330 t329 true t307 t328 t311 t312 t313)))))) else (some false))))) = some r:=H
         have A79:=Aside0.mk A790;clear A790;by_cases c80 : t331 < 0
         ·rw [if_pos c80] at H
          have c80b0 : decide (t331 < 0) = true:=decide_eq_true c80
          clear c80;exact absurd (Option.some.inj H) (by rw [HTRUE.out];decide)
         ·rw [if_neg c80] at H
          have c80b0 : decide (t331 < 0) = false:=decide_eq_false c80
          clear c80;replace H:=Option.bind_eq_some_iff.mp H
          obtain ⟨t332,A810,H⟩:=H;replace H : (if t332 < 0 then (some false) else (if t332 = t329 then ((laws_toVersionS.f kj57 l0).bind fun t333 => ((laws_toAddress.f a1_0 a1_1 a1_2).bind fun bt336 => ((impl_FollowAt.f kj57 t333 bt336.1 bt336.2.1 bt336.2.2 a2).bind fun bt339 => ((laws_eqResource.f kj57 bt339.1 bt339.2.1 bt339.2.2.1 bt339.2.2.2.1 bt339.2.2.2.2.1 t290 t291 t294 t295 t296).bind fun t350 => (if t350 = true then ((laws_eqAddressS.f kj57 bt339.2.2.2.2.2 t297).bind fun t351 => (laws_FnExactFollowAt.j2 kj57 t330 t329 (!t351) t307 t328 t311 t312 t313)) else (laws_FnExactFollowAt.j2 kj57 t330 t329 true t307 t328 t311 t312 t313)))))) else (some false))) = some r:=H
          have A81:=Aside0.mk A810;clear A810;by_cases c82 : t332 < 0
          ·rw [if_pos c82] at H
           have c82b0 : decide (t332 < 0) = true:=decide_eq_true c82
           clear c82;exact absurd (Option.some.inj H) (by rw [HTRUE.out];decide)
          ·rw [if_neg c82] at H
           have c82b0 : decide (t332 < 0) = false:=decide_eq_false c82
           clear c82;by_cases c83 : t332 = t329
           ·rw [if_pos c83] at H
            have c83b0 : (t332 == t329) = true:=beq_iff_eq.mpr c83
            have c83b1 : (t332 != t329) = false:=bne_eq_false_iff_eq.mpr c83
            clear c83;replace H:=Option.bind_eq_some_iff.mp H
            obtain ⟨t333,A840,H⟩:=H;replace H : ((laws_toAddress.f a1_0 a1_1 a1_2).bind fun bt336 => ((impl_FollowAt.f kj57 t333 bt336.1 bt336.2.1 bt336.2.2 a2).bind fun bt339 => ((laws_eqResource.f kj57 bt339.1 bt339.2.1 bt339.2.2.1 bt339.2.2.2.1 bt339.2.2.2.2.1 t290 t291 t294 t295 t296).bind fun t350 => (if t350 = true then ((laws_eqAddressS.f kj57 bt339.2.2.2.2.2 t297).bind fun t351 => (laws_FnExactFollowAt.j2 kj57 t330 t329 (!t351) t307 t328 t311 t312 t313)) else (laws_FnExactFollowAt.j2 kj57 t330 t329 true t307 t328 t311 t312 t313))))) = some r:=H
            have A84:=Aside0.mk A840;clear A840;replace H:=Option.bind_eq_some_iff.mp H
            obtain ⟨⟨t336,t337,t338⟩,A850,H⟩:=H
            replace H : ((impl_FollowAt.f kj57 t333 t336 t337 t338 a2).bind fun bt339 => ((laws_eqResource.f kj57 bt339.1 bt339.2.1 bt339.2.2.1 bt339.2.2.2.1 bt339.2.2.2.2.1 t290 t291 t294 t295 t296).bind fun t350 => (if t350 = true then ((laws_eqAddressS.f kj57 bt339.2.2.2.2.2 t297).bind fun t351 => (laws_FnExactFollowAt.j2 kj57 t330 t329 (!t351) t307 t328 t311 t312 t313)) else (laws_FnExactFollowAt.j2 kj57 t330 t329 true t307 t328 t311 t312 t313)))) = some r:=H
            have A85:=Aside0.mk A850;clear A850;replace H:=Option.bind_eq_some_iff.mp H
            obtain ⟨⟨t339,t340,t343,t344,t345,t346⟩,A860,H⟩:=H
            replace H : ((laws_eqResource.f kj57 t339 t340 t343 t344 t345 t290 t291 t294 t295 t296).bind fun t350 => (if t350 = true then ((laws_eqAddressS.f kj57 t346 t297).bind fun t351 => (laws_FnExactFollowAt.j2 kj57 t330 t329 (!t351) t307 t328 t311 t312 t313)) else (laws_FnExactFollowAt.j2 kj57 t330 t329 true t307 t328 t311 t312 t313))) = some r:=H
            have A86:=Aside0.mk A860;clear A860;have HC87:=Aside0.mk H;clear H;have hnb88:=NB317_282.out;have hnc88:=NB282_317.out;have hnb89:=NB317_300.out;have hnc89:=NB300_317.out;have hcz90_0 : wc.cell? ⟨gb317,0,none⟩ = some (.int .i64 t307):=(blk_cell BK317.out 0).trans rfl
            have hcz90_1 : wc.cell? ⟨gb317,1,none⟩ = some (.slice Ao40 t308.length co40):=(blk_cell BK317.out 1).trans rfl
            have hcz90_2 : wc.cell? ⟨gb317,2,none⟩ = some (.int .i64 t311):=(blk_cell BK317.out 2).trans rfl
            have hcz90_3 : wc.cell? ⟨gb317,3,none⟩ = some (.int .i64 t312):=(blk_cell BK317.out 3).trans rfl
            have hcz90_4 : wc.cell? ⟨gb317,4,none⟩ = some (.int .i64 t313):=(blk_cell BK317.out 4).trans rfl
            have hfz90_0:=blk_frozen BK317.out 0
            have hfz90_1:=blk_frozen BK317.out 1
            have hfz90_2:=blk_frozen BK317.out 2
            have hfz90_3:=blk_frozen BK317.out 3
            have hfz90_4:=blk_frozen BK317.out 4
            try go_wp2_with (first|((with_reducible refine gate_callee (f:=24) rfl ?_);refine goesL_ (some 76) rfl rfl Try.func24 (by kernel_rfl) rfl #[.agg #[.int .i64 t307,.slice Ao40 t308.length co40,.int .i64 t311,.int .i64 t312,.int .i64 t313],.int .i64 1] rfl (by (try simp only [List.map_toArray,List.map_cons,List.map_nil]);first|done|rfl|(simp only [List.length_drop,List.length_take];rfl)) ?_;(with_reducible refine (laws_markResource.calls kj57 t307 (fun k_ => some k_ = (.slice Ao40 t308.length co40 : Value).ownBlock) (.slice Ao40 t308.length co40) t308 t311 t312 t313 1 t327 t328 w _ ?side1 ?side2 A77.out).mono ?_);(case side1 => repeat (first|(with_reducible first|exact HB.out|apply below_alloc|apply pw_below_drewN|apply below_drew1|refine below_set ?_ GE282.out|refine below_set ?_ GE300.out|refine below_set ?_ GE317.out)|exact HB.out));(case side2 => exact Kd.R_tight rfl HO_318001.out);rintro e w91 ⟨rfl,hy0,hb,hkp⟩;refine ⟨_,rfl,?_⟩;have n0_:=Aside0.mk (Kd.R_mono (ok':=fun k_ => some k_ ≠ (v315 : Value).ownBlock) (Kd.R_keptB ((Kd.R_apart' HO_9.out (Kd.R_typed HO_318001.out) (by decide))) hkp (fun k_ hk_ hs_ => (hk_.2) hs_)) (fun k_ hk_ => hk_.1.1));have n1_:=Aside0.mk (Kd.R_mono (ok':=fun k_ => some k_ ≠ (v298 : Value).ownBlock) (Kd.R_keptB ((Kd.R_apart' HO_12.out (Kd.R_typed HO_318001.out) (by decide))) hkp (fun k_ hk_ hs_ => (hk_.2) hs_)) (fun k_ hk_ => hk_.1.1));have n2_:=Aside0.mk (Kd.R_mono (ok':=fun k_ => some k_ ≠ (.slice Ao40 t308.length co40 : Value).ownBlock) (Kd.R_keptB (HO_301001.out) hkp (fun k_ hk_ hs_ => (hk_) hs_)) (fun k_ hk_ => hk_.1));have n3_:=Aside0.mk (Kd.R_reok rfl hy0 (fun k_ e_ => HO_318001.out.1 k_ e_));have n4_:=Aside0.mk (blk_kept (by (with_reducible repeat (first|refine blk_drewN ?_ _|refine blk_drew ?_|refine blk_alloc ?_ _));exact BK282.out) hkp (fun hs_ => (fun e_ => (Kd.R_ne HO_318001.out BK282.out (by decide)) e_) hs_));have n5_:=Aside0.mk (blk_kept (by (with_reducible repeat (first|refine blk_drewN ?_ _|refine blk_drew ?_|refine blk_alloc ?_ _));exact BK300.out) hkp (fun hs_ => (fun e_ => (Kd.R_ne HO_318001.out BK300.out (by decide)) e_) hs_));have n6_:=Aside0.mk (blk_kept (by (with_reducible repeat (first|refine blk_drewN ?_ _|refine blk_drew ?_|refine blk_alloc ?_ _));exact BK317.out) hkp (fun hs_ => (fun e_ => (Kd.R_ne HO_318001.out BK317.out (by decide)) e_) hs_));have n7_:=Aside0.mk (hb);clear HO_9;clear HO_12;clear HO_301001;clear HO_318001;clear BK282;clear BK300;clear BK317;clear HB;have HO_9:=n0_;have HO_12:=n1_;have HO_301001:=n2_;have HO_318001:=n3_;have BK282:=n4_;have BK300:=n5_;have BK317:=n6_;have HB:=n7_;clear n0_ n1_ n2_ n3_ n4_ n5_ n6_ n7_;(try clear hb);(try clear hkp);(try clear hy0);obtain ⟨Ao92,co92,eo92⟩:=Kd.R_slice HO_12.out;subst eo92)|((with_reducible refine gate_callee (f:=39) rfl ?_);refine goesL_ (some 79) rfl rfl Try.func39 (by kernel_rfl) rfl #[.slice Ao92 t314.length co92,.int .i64 t327] rfl (by (try simp only [List.map_toArray,List.map_cons,List.map_nil]);first|done|rfl|(simp only [List.length_drop,List.length_take];rfl)) ?_;(with_reducible refine (laws_markAddressS.calls kj57 (fun k_ => some k_ = (.slice Ao92 t314.length co92 : Value).ownBlock) (.slice Ao92 t314.length co92) t314 t327 t329 t330 w _ ?side1 ?side2 A78.out).mono ?_);(case side1 => repeat (first|(with_reducible first|exact HB.out|apply below_alloc|apply pw_below_drewN|apply below_drew1|refine below_set ?_ GE282.out|refine below_set ?_ GE300.out|refine below_set ?_ GE317.out)|exact HB.out));(case side2 => exact Kd.R_tight rfl HO_12.out);rintro e w93 ⟨rfl,hy0,hb,hkp⟩;refine ⟨_,rfl,?_⟩;have n0_:=Aside0.mk (Kd.R_mono (ok':=fun k_ => some k_ ≠ (.slice Ao92 t314.length co92 : Value).ownBlock) (Kd.R_keptB (HO_9.out) hkp (fun k_ hk_ hs_ => (hk_) hs_)) (fun k_ hk_ => hk_.1));have n1_:=Aside0.mk (Kd.R_reok rfl hy0 (fun k_ e_ => HO_12.out.1 k_ e_));have n2_:=Aside0.mk (Kd.R_mono (ok':=fun k_ => some k_ ≠ (.slice Ao40 t308.length co40 : Value).ownBlock) (Kd.R_keptB ((Kd.R_apart' HO_301001.out (Kd.R_typed HO_12.out) (by decide))) hkp (fun k_ hk_ hs_ => (hk_.2) hs_)) (fun k_ hk_ => hk_.1.1));have n3_:=Aside0.mk (Kd.R_mono (ok':=fun k_ => some k_ ≠ (.slice Ao25 t291.length co25 : Value).ownBlock) (Kd.R_keptB ((Kd.R_apart' HO_318001.out (Kd.R_typed HO_12.out) (by decide))) hkp (fun k_ hk_ hs_ => (hk_.2) hs_)) (fun k_ hk_ => hk_.1.1));have n4_:=Aside0.mk (blk_kept (by (with_reducible repeat (first|refine blk_drewN ?_ _|refine blk_drew ?_|refine blk_alloc ?_ _));exact BK282.out) hkp (fun hs_ => (fun e_ => (Kd.R_ne HO_12.out BK282.out (by decide)) e_) hs_));have n5_:=Aside0.mk (blk_kept (by (with_reducible repeat (first|refine blk_drewN ?_ _|refine blk_drew ?_|refine blk_alloc ?_ _));exact BK300.out) hkp (fun hs_ => (fun e_ => (Kd.R_ne HO_12.out BK300.out (by decide)) e_) hs_));have n6_:=Aside0.mk (blk_kept (by (with_reducible repeat (first|refine blk_drewN ?_ _|refine blk_drew ?_|refine blk_alloc ?_ _));exact BK317.out) hkp (fun hs_ => (fun e_ => (Kd.R_ne HO_12.out BK317.out (by decide)) e_) hs_));have n7_:=Aside0.mk (hb);clear HO_9;clear HO_12;clear HO_301001;clear HO_318001;clear BK282;clear BK300;clear BK317;clear HB;have HO_9:=n0_;have HO_12:=n1_;have HO_301001:=n2_;have HO_318001:=n3_;have BK282:=n4_;have BK300:=n5_;have BK317:=n6_;have HB:=n7_;clear n0_ n1_ n2_ n3_ n4_ n5_ n6_ n7_;(try clear hb);(try clear hkp);(try clear hy0);have hcz94_0 : w93.cell? ⟨gb317,0,none⟩ = some (.int .i64 t307):=(blk_cell BK317.out 0).trans rfl;have hcz94_1 : w93.cell? ⟨gb317,1,none⟩ = some (.slice Ao40 t308.length co40):=(blk_cell BK317.out 1).trans rfl;have hcz94_2 : w93.cell? ⟨gb317,2,none⟩ = some (.int .i64 t311):=(blk_cell BK317.out 2).trans rfl;have hcz94_3 : w93.cell? ⟨gb317,3,none⟩ = some (.int .i64 t312):=(blk_cell BK317.out 3).trans rfl;have hcz94_4 : w93.cell? ⟨gb317,4,none⟩ = some (.int .i64 t313):=(blk_cell BK317.out 4).trans rfl;have hfz94_0:=blk_frozen BK317.out 0;have hfz94_1:=blk_frozen BK317.out 1;have hfz94_2:=blk_frozen BK317.out 2;have hfz94_3:=blk_frozen BK317.out 3;have hfz94_4:=blk_frozen BK317.out 4)|((with_reducible refine gate_callee (f:=25) rfl ?_);refine goesL_ (some 82) rfl rfl Try.func25 (by kernel_rfl) rfl #[.agg #[.int .i64 t307,.slice Ao40 t328.length co40,.int .i64 t311,.int .i64 t312,.int .i64 t313],.int .i64 1] rfl (by (try simp only [List.map_toArray,List.map_cons,List.map_nil]);first|done|(rw [show t328.length = t308.length from (Kd.R_reads' HO_318001.out).1.symm] <;> rfl)|rfl|(simp only [List.length_drop,List.length_take];rfl)) ?_;(with_reducible refine (laws_heldResource.calls kj57 t307 _ _ t328 t311 t312 t313 1 t331 _ ?side1 ?side2 A79.out).mono ?_);(case side1 => repeat (first|exact (Kd.R_reads' HO_318001.out).2.2|(with_reducible refine Kd.C_alloc ?_ _)|(with_reducible refine Kd.C_drewN ?_ _)|(with_reducible refine Kd.C_drew ?_)));(case side2 => rw [show t328.length = t308.length from (Kd.R_reads' HO_318001.out).1.symm];exact (Kd.R_reads' HO_318001.out).2.1);rintro e w95 ⟨rfl,hb⟩;refine ⟨_,rfl,?_⟩;have n0_:=Aside0.mk (Kd.R_below (by (with_reducible repeat (first|apply Kd.R_alloc|apply Kd.R_drewN|apply Kd.R_drew));exact HO_9.out) hb);have n1_:=Aside0.mk (Kd.R_below (by (with_reducible repeat (first|apply Kd.R_alloc|apply Kd.R_drewN|apply Kd.R_drew));exact HO_12.out) hb);have n2_:=Aside0.mk (Kd.R_below (by (with_reducible repeat (first|apply Kd.R_alloc|apply Kd.R_drewN|apply Kd.R_drew));exact HO_301001.out) hb);have n3_:=Aside0.mk (Kd.R_below (by (with_reducible repeat (first|apply Kd.R_alloc|apply Kd.R_drewN|apply Kd.R_drew));exact HO_318001.out) hb);have n4_:=Aside0.mk (blk_below (g:=gb282) (o:=.cells #[.int .i64 a1_0,.int .i64 a1_1,.int .i64 a1_2] 35 (0,0)) (by (with_reducible repeat (first|refine blk_drewN ?_ _|refine blk_drew ?_|refine blk_alloc ?_ _));exact BK282.out) hb);have n5_:=Aside0.mk (blk_below (g:=gb300) (o:=.cells #[.int .i64 t290,.slice Ao25 t291.length co25,.int .i64 t294,.int .i64 t295,.int .i64 t296] 39 (0,0)) (by (with_reducible repeat (first|refine blk_drewN ?_ _|refine blk_drew ?_|refine blk_alloc ?_ _));exact BK300.out) hb);have n6_:=Aside0.mk (blk_below (g:=gb317) (o:=.cells #[.int .i64 t307,.slice Ao40 t308.length co40,.int .i64 t311,.int .i64 t312,.int .i64 t313] 39 (0,0)) (by (with_reducible repeat (first|refine blk_drewN ?_ _|refine blk_drew ?_|refine blk_alloc ?_ _));exact BK317.out) hb);have n7_:=Aside0.mk (below_step (by repeat (first|(with_reducible first|exact HB.out|apply below_alloc|apply pw_below_drewN|apply below_drew1|refine below_set ?_ GE282.out|refine below_set ?_ GE300.out|refine below_set ?_ GE317.out)|exact HB.out)) hb);clear HO_9;clear HO_12;clear HO_301001;clear HO_318001;clear BK282;clear BK300;clear BK317;clear HB;have HO_9:=n0_;have HO_12:=n1_;have HO_301001:=n2_;have HO_318001:=n3_;have BK282:=n4_;have BK300:=n5_;have BK317:=n6_;have HB:=n7_;clear n0_ n1_ n2_ n3_ n4_ n5_ n6_ n7_;(try clear hb);(try clear hk))|((with_reducible refine gate_callee (f:=40) rfl ?_);refine goesL_ (some 87) rfl rfl Try.func40 (by kernel_rfl) rfl #[.slice Ao92 t330.length co92,.int .i64 t331] rfl (by (try simp only [List.map_toArray,List.map_cons,List.map_nil]);first|done|(rw [show t330.length = t314.length from (Kd.R_reads' HO_12.out).1.symm] <;> rfl)|rfl|(simp only [List.length_drop,List.length_take];rfl)) ?_;(with_reducible refine (laws_heldAddressS.calls kj57 _ _ t330 t331 t332 _ ?side1 ?side2 A81.out).mono ?_);(case side1 => repeat (first|exact (Kd.R_reads' HO_12.out).2.2|(with_reducible refine Kd.C_alloc ?_ _)|(with_reducible refine Kd.C_drewN ?_ _)|(with_reducible refine Kd.C_drew ?_)));(case side2 => rw [show t330.length = t314.length from (Kd.R_reads' HO_12.out).1.symm];exact (Kd.R_reads' HO_12.out).2.1);rintro e w' ⟨rfl,⟨nd,rfl⟩⟩;refine ⟨_,rfl,?_⟩;(try (rw [drewN_self w95];generalize hq_ : World.drewN w95 _ = w95;have n0_ : Aside0 (Kd.R k37 37 w95 w.heap.size (fun k_ => some k_ ≠ (v298 : Value).ownBlock) (.slice Ao92 t314.length co92) t330):=⟨by rw [← hq_];exact (by (with_reducible repeat (first|apply Kd.R_alloc|apply Kd.R_drewN|apply Kd.R_drew));exact HO_12.out)⟩;have n1_ : Aside0 (Kd.R (Kd.int .i64) 3 w95 w.heap.size (fun k_ => some k_ ≠ (.slice Ao40 t308.length co40 : Value).ownBlock) (.slice Ao25 t291.length co25) t291):=⟨by rw [← hq_];exact (by (with_reducible repeat (first|apply Kd.R_alloc|apply Kd.R_drewN|apply Kd.R_drew));exact HO_301001.out)⟩;have n2_ : Aside0 (Kd.R (Kd.int .i64) 3 w95 w.heap.size (fun k_ => some k_ ≠ (.slice Ao25 t291.length co25 : Value).ownBlock) (.slice Ao40 t308.length co40) t328):=⟨by rw [← hq_];exact (by (with_reducible repeat (first|apply Kd.R_alloc|apply Kd.R_drewN|apply Kd.R_drew));exact HO_318001.out)⟩;have n3_ : Aside0 (Kd.R k37 37 w95 w.heap.size (fun k_ => some k_ ≠ (.slice Ao92 t314.length co92 : Value).ownBlock) v298 t297):=⟨by rw [← hq_];exact (by (with_reducible repeat (first|apply Kd.R_alloc|apply Kd.R_drewN|apply Kd.R_drew));exact HO_9.out)⟩;have n4_ : Aside0 (w95.heap[gb282]? = some (.cells #[.int .i64 a1_0,.int .i64 a1_1,.int .i64 a1_2] 35 (0,0))):=⟨by rw [← hq_];exact (by (with_reducible repeat (first|refine blk_drewN ?_ _|refine blk_drew ?_|refine blk_alloc ?_ _));exact BK282.out)⟩;have n5_ : Aside0 (w95.heap[gb300]? = some (.cells #[.int .i64 t290,.slice Ao25 t291.length co25,.int .i64 t294,.int .i64 t295,.int .i64 t296] 39 (0,0))):=⟨by rw [← hq_];exact (by (with_reducible repeat (first|refine blk_drewN ?_ _|refine blk_drew ?_|refine blk_alloc ?_ _));exact BK300.out)⟩;have n6_ : Aside0 (w95.heap[gb317]? = some (.cells #[.int .i64 t307,.slice Ao40 t308.length co40,.int .i64 t311,.int .i64 t312,.int .i64 t313] 39 (0,0))):=⟨by rw [← hq_];exact (by (with_reducible repeat (first|refine blk_drewN ?_ _|refine blk_drew ?_|refine blk_alloc ?_ _));exact BK317.out)⟩;have n7_ : Aside0 (Below w.heap.size w w95):=⟨by rw [← hq_];exact (by repeat (first|(with_reducible first|exact HB.out|apply below_alloc|apply pw_below_drewN|apply below_drew1|refine below_set ?_ GE282.out|refine below_set ?_ GE300.out|refine below_set ?_ GE317.out)|exact HB.out))⟩;clear HO_12 HO_301001 HO_318001 HO_9 BK282 BK300 BK317 HB hq_;have HO_12:=n0_;have HO_301001:=n1_;have HO_318001:=n2_;have HO_9:=n3_;have BK282:=n4_;have BK300:=n5_;have BK317:=n6_;have HB:=n7_;clear n0_ n1_ n2_ n3_ n4_ n5_ n6_ n7_))))
            have n0_:=Aside0.mk (Kd.R_drew HO_9.out)
            have n1_:=Aside0.mk (Kd.R_drew HO_12.out)
            have n2_:=Aside0.mk (Kd.R_drew HO_301001.out)
            have n3_:=Aside0.mk (Kd.R_drew HO_318001.out)
            have n4_:=Aside0.mk (blk_drew BK282.out)
            have n5_:=Aside0.mk (blk_drew BK300.out)
            have n6_:=Aside0.mk (blk_drew BK317.out)
            have n7_:=Aside0.mk (below_drew1 HB.out)
            clear HO_9;clear HO_12;clear HO_301001;clear HO_318001;clear BK282;clear BK300;clear BK317;clear HB;have HO_9:=n0_;have HO_12:=n1_;have HO_301001:=n2_;have HO_318001:=n3_;have BK282:=n4_;have BK300:=n5_;have BK317:=n6_;have HB:=n7_;clear n0_ n1_ n2_ n3_ n4_ n5_ n6_ n7_;refine start_ (n:=12) (S:=fun w' => w'.cell? ⟨gb282,0,none⟩ = some (.int .i64 a1_0) ∧ w'.cell? ⟨gb282,1,none⟩ = some (.int .i64 a1_1) ∧ w'.cell? ⟨gb282,2,none⟩ = some (.int .i64 a1_2)) (ds:=[]) #[false,false,false,false,false,false,false,false,false,false,false,false] (by kernel_rfl) rfl rfl ⟨(blk_cell BK282.out 0).trans rfl,(blk_cell BK282.out 1).trans rfl,(blk_cell BK282.out 2).trans rfl⟩ (fun hHeld => ?_);refine with_tabW laws_FnExactFollowAt.tab28 laws_FnExactFollowAt.bits28 (fun HT_ HW_ => ?_)
            generalize w95.drew = w96 at HO_9 HO_12 HO_301001 HO_318001 BK282 BK300 BK317 HB hHeld ⊢
            refine pure_ (i:=0) (N:=some 94) (v:=?_) (a':=?_) #[true,false,false,false,false,false,false,false,false,false,false,false] rfl rfl (any_of HT_.out (by kernel_rfl)) (fun _ _ _ h => h) (Or.inl ⟨by rfl,?_⟩) ?_ ?_
            rotate_left
            ·intro w';go_simp;with_reducible rfl
            rotate_left
            ·simp only [Act.put,List.setIfInBounds_toArray,List.set_cons_zero,List.set_cons_succ,i64_w,i32_w]
             rfl
            refine pure_ (i:=4) (N:=some 98) (v:=?_) (a':=?_) #[true,false,false,false,true,false,false,false,false,false,false,false] rfl rfl (any_of HT_.out (by kernel_rfl)) (fun _ _ _ h => h) (Or.inl ⟨by rfl,?_⟩) ?_ ?_
            rotate_left
            ·intro w';go_simp;with_reducible rfl
            rotate_left
            ·simp only [Act.put,List.setIfInBounds_toArray,List.set_cons_zero,List.set_cons_succ,i64_w,i32_w]
             rfl
            refine take_ (i:=2) (N:=some 96) (v:=?_) (a':=?_) #[true,false,true,false,true,false,false,false,false,false,false,false] rfl rfl (take_ofW HT_.out HW_.out (by kernel_rfl)) (fun _ _ _ h => h) (Or.inl ⟨by rfl,?_⟩) hHeld ?_ ?_
            rotate_left
            ·rintro w' ⟨s0,s1,s2⟩
             go_simp;with_reducible rfl
            rotate_left
            ·simp only [Act.put,List.setIfInBounds_toArray,List.set_cons_zero,List.set_cons_succ,i64_w,i32_w]
             rfl
            refine join_ (σ:=Value × Value × Value × Nat) 2 #[true,true,true,true,true,true,true,true,true,true,false,false] (fun s_ => [(95,s_.1),(97,.agg #[.int .i64 t336,.int .i64 t337,.int .i64 t338]),(99,.tuple #[.agg #[.int .i64 t339,s_.2.1,.int .i64 t343,.int .i64 t344,.int .i64 t345],s_.2.2.1]),(16,.pointer (some ⟨s_.2.2.2,0,none⟩)),(93,.tuple #[.agg #[.int .i64 t339,s_.2.1,.int .i64 t343,.int .i64 t344,.int .i64 t345],s_.2.2.1]),(100,.agg #[.int .i64 t339,s_.2.1,.int .i64 t343,.int .i64 t344,.int .i64 t345]),(101,s_.2.2.1)]) (fun s_ w' => (w'.cell? ⟨gb282,0,none⟩ = some (.int .i64 a1_0) ∧ w'.cell? ⟨gb282,1,none⟩ = some (.int .i64 a1_1) ∧ w'.cell? ⟨gb282,2,none⟩ = some (.int .i64 a1_2)) ∧ (Kd.S k82 82 w' w.heap.size (fun k_ => some k_ ≠ (s_.2.1 : Value).ownBlock ∧ some k_ ≠ (.slice Ao25 t291.length co25 : Value).ownBlock ∧ some k_ ≠ (.slice Ao40 t308.length co40 : Value).ownBlock) s_.1 t333) ∧ (Kd.R (Kd.int .i64) 3 w' w.heap.size (fun k_ => some k_ ≠ (.slice Ao25 t291.length co25 : Value).ownBlock ∧ some k_ ≠ (.slice Ao40 t308.length co40 : Value).ownBlock) s_.2.1 t340) ∧ (Kd.R k37 37 w' w.heap.size (fun k_ => some k_ ≠ (.slice Ao92 t314.length co92 : Value).ownBlock ∧ some k_ ≠ (v298 : Value).ownBlock) s_.2.2.1 t346) ∧ (Kd.R k37 37 w' w.heap.size (fun k_ => some k_ ≠ (s_.2.2.1 : Value).ownBlock ∧ some k_ ≠ (v298 : Value).ownBlock) (.slice Ao92 t314.length co92) t330) ∧ (Kd.R (Kd.int .i64) 3 w' w.heap.size (fun k_ => some k_ ≠ (s_.2.1 : Value).ownBlock ∧ some k_ ≠ (.slice Ao40 t308.length co40 : Value).ownBlock) (.slice Ao25 t291.length co25) t291) ∧ (Kd.R (Kd.int .i64) 3 w' w.heap.size (fun k_ => some k_ ≠ (s_.2.1 : Value).ownBlock ∧ some k_ ≠ (.slice Ao25 t291.length co25 : Value).ownBlock) (.slice Ao40 t308.length co40) t328) ∧ (Kd.R k37 37 w' w.heap.size (fun k_ => some k_ ≠ (s_.2.2.1 : Value).ownBlock ∧ some k_ ≠ (.slice Ao92 t314.length co92 : Value).ownBlock) v298 t297) ∧ (w'.heap[gb282]? = some (.cells #[.int .i64 a1_0,.int .i64 a1_1,.int .i64 a1_2] 35 (0,0))) ∧ (w'.heap[gb300]? = some (.cells #[.int .i64 t290,.slice Ao25 t291.length co25,.int .i64 t294,.int .i64 t295,.int .i64 t296] 39 (0,0))) ∧ (w'.heap[gb317]? = some (.cells #[.int .i64 t307,.slice Ao40 t308.length co40,.int .i64 t311,.int .i64 t312,.int .i64 t313] 39 (0,0))) ∧ (w'.heap[s_.2.2.2]? = some (.cells #[.int .i64 0,.slice none 0 0,.int .i64 0,.int .i64 0,.int .i64 0] 39 (0,0))) ∧ (w.heap.size ≤ s_.2.2.2) ∧ (w.heap.size ≤ s_.2.2.2) ∧ (gb282 ≠ s_.2.2.2) ∧ (s_.2.2.2 ≠ gb282) ∧ (gb300 ≠ s_.2.2.2) ∧ (s_.2.2.2 ≠ gb300) ∧ (gb317 ≠ s_.2.2.2) ∧ (s_.2.2.2 ≠ gb317) ∧ (Below w.heap.size w w')) ?_ ?_
            rotate_left
            ·intro hCont;refine two_ (i:=1) (j:=9) (Ni:=some 95) (Nj:=some 16) #[true,true,true,false,true,false,false,false,false,false,false,false] #[true,false,true,false,true,false,false,false,false,true,false,false] rfl rfl rfl rfl (two_of HT_.out (by kernel_rfl)) (by decide) (by decide) (fun K hK => ?_) (fun K hK => ?_)
             ·skip;refine goes_ Try.func18 (by kernel_rfl) rfl #[.slice A0 l0.length c0] (by rfl) rfl rfl (by (try simp only [List.map_toArray,List.map_cons,List.map_nil]);first|done|rfl|(simp only [List.length_drop,List.length_take];rfl)) ?_
              with_reducible refine (laws_toVersionS.calls kj57 _ _ l0 t333 _ ?side1 ?side2 A84.out).mono ?_
              (case side1 => repeat (first|exact (Kd.C_below HR0.out HB.out)|(with_reducible refine Kd.C_alloc ?_ _)|(with_reducible refine Kd.C_drewN ?_ _)|(with_reducible refine Kd.C_drew ?_)))
              (case side2 => exact HC0.out)
              rintro e w97 ⟨v334,rfl,ho0,hb⟩
              refine ⟨_,rfl,?_⟩
              have n0_:=Aside0.mk (Kd.R_below (by (with_reducible repeat (first|apply Kd.R_alloc|apply Kd.R_drewN|apply Kd.R_drew));exact HO_9.out) hb)
              have n1_:=Aside0.mk (Kd.R_below (by (with_reducible repeat (first|apply Kd.R_alloc|apply Kd.R_drewN|apply Kd.R_drew));exact HO_12.out) hb)
              have n2_:=Aside0.mk (Kd.R_below (by (with_reducible repeat (first|apply Kd.R_alloc|apply Kd.R_drewN|apply Kd.R_drew));exact HO_301001.out) hb)
              have n3_:=Aside0.mk (Kd.R_below (by (with_reducible repeat (first|apply Kd.R_alloc|apply Kd.R_drewN|apply Kd.R_drew));exact HO_318001.out) hb)
              have n4_:=Aside0.mk (Kd.S_lower (Kd.S_new' (Kd.S_new' ho0 (Kd.R_lt (by (with_reducible repeat (first|apply Kd.R_alloc|apply Kd.R_drewN|apply Kd.R_drew));exact HO_301001.out))) (Kd.R_lt (by (with_reducible repeat (first|apply Kd.R_alloc|apply Kd.R_drewN|apply Kd.R_drew));exact HO_318001.out))) (below_size (by repeat (first|(with_reducible first|exact HB.out|apply below_alloc|apply pw_below_drewN|apply below_drew1|refine below_set ?_ GE282.out|refine below_set ?_ GE300.out|refine below_set ?_ GE317.out)|exact HB.out))))
              have n5_:=Aside0.mk (blk_below (g:=gb282) (o:=.cells #[.int .i64 a1_0,.int .i64 a1_1,.int .i64 a1_2] 35 (0,0)) (by (with_reducible repeat (first|refine blk_drewN ?_ _|refine blk_drew ?_|refine blk_alloc ?_ _));exact BK282.out) hb)
              have n6_:=Aside0.mk (blk_below (g:=gb300) (o:=.cells #[.int .i64 t290,.slice Ao25 t291.length co25,.int .i64 t294,.int .i64 t295,.int .i64 t296] 39 (0,0)) (by (with_reducible repeat (first|refine blk_drewN ?_ _|refine blk_drew ?_|refine blk_alloc ?_ _));exact BK300.out) hb)
              have n7_:=Aside0.mk (blk_below (g:=gb317) (o:=.cells #[.int .i64 t307,.slice Ao40 t308.length co40,.int .i64 t311,.int .i64 t312,.int .i64 t313] 39 (0,0)) (by (with_reducible repeat (first|refine blk_drewN ?_ _|refine blk_drew ?_|refine blk_alloc ?_ _));exact BK317.out) hb)
              have n8_:=Aside0.mk (below_step (by repeat (first|(with_reducible first|exact HB.out|apply below_alloc|apply pw_below_drewN|apply below_drew1|refine below_set ?_ GE282.out|refine below_set ?_ GE300.out|refine below_set ?_ GE317.out)|exact HB.out)) hb)
              clear HO_9;clear HO_12;clear HO_301001;clear HO_318001;clear BK282;clear BK300;clear BK317;clear HB;have HO_9:=n0_;have HO_12:=n1_;have HO_301001:=n2_;have HO_318001:=n3_;have HO335:=n4_;have BK282:=n5_;have BK300:=n6_;have BK317:=n7_;have HB:=n8_;clear n0_ n1_ n2_ n3_ n4_ n5_ n6_ n7_ n8_;(try clear hb);(try clear hk);(try clear ho0);refine hK.out _ _ ⟨(blk_cell BK282.out 0).trans rfl,(blk_cell BK282.out 1).trans rfl,(blk_cell BK282.out 2).trans rfl⟩ (fun hHeld => ?_)
              clear hK K;refine norm_ (a':=?_) ?_ ?_
              rotate_left
              ·show Act.put _ (some 95) _ = _
               simp only [Act.put,List.setIfInBounds_toArray,List.set_cons_zero,List.set_cons_succ,i64_w,i32_w]
               rfl
              refine two_ (i:=3) (j:=9) (Ni:=some 97) (Nj:=some 16) #[true,true,true,true,true,false,false,false,false,false,false,false] #[true,true,true,false,true,false,false,false,false,true,false,false] rfl rfl rfl rfl (two_of HT_.out (by kernel_rfl)) (by decide) (by decide) (fun K hK => ?_) (fun K hK => ?_)
              ·skip;refine goes_ Try.func19 (by kernel_rfl) rfl #[.agg #[.int .i64 a1_0,.int .i64 a1_1,.int .i64 a1_2]] (by rfl) rfl rfl (by (try simp only [List.map_toArray,List.map_cons,List.map_nil]);first|done|rfl|(simp only [List.length_drop,List.length_take];rfl)) ?_
               with_reducible refine (laws_toAddress.calls a1_0 a1_1 a1_2 t336 t337 t338 _ A85.out).mono ?_
               rintro e w98 ⟨rfl,hb⟩
               refine ⟨_,rfl,?_⟩
               have n0_:=Aside0.mk (Kd.R_below (by (with_reducible repeat (first|apply Kd.R_alloc|apply Kd.R_drewN|apply Kd.R_drew));exact HO_9.out) hb)
               have n1_:=Aside0.mk (Kd.R_below (by (with_reducible repeat (first|apply Kd.R_alloc|apply Kd.R_drewN|apply Kd.R_drew));exact HO_12.out) hb)
               have n2_:=Aside0.mk (Kd.R_below (by (with_reducible repeat (first|apply Kd.R_alloc|apply Kd.R_drewN|apply Kd.R_drew));exact HO_301001.out) hb)
               have n3_:=Aside0.mk (Kd.R_below (by (with_reducible repeat (first|apply Kd.R_alloc|apply Kd.R_drewN|apply Kd.R_drew));exact HO_318001.out) hb)
               have n4_:=Aside0.mk (Kd.S_below (by (with_reducible repeat (first|apply Kd.S_alloc|apply Kd.S_drewN|apply Kd.S_drew));exact HO335.out) hb)
               have n5_:=Aside0.mk (blk_below (g:=gb282) (o:=.cells #[.int .i64 a1_0,.int .i64 a1_1,.int .i64 a1_2] 35 (0,0)) (by (with_reducible repeat (first|refine blk_drewN ?_ _|refine blk_drew ?_|refine blk_alloc ?_ _));exact BK282.out) hb)
               have n6_:=Aside0.mk (blk_below (g:=gb300) (o:=.cells #[.int .i64 t290,.slice Ao25 t291.length co25,.int .i64 t294,.int .i64 t295,.int .i64 t296] 39 (0,0)) (by (with_reducible repeat (first|refine blk_drewN ?_ _|refine blk_drew ?_|refine blk_alloc ?_ _));exact BK300.out) hb)
               have n7_:=Aside0.mk (blk_below (g:=gb317) (o:=.cells #[.int .i64 t307,.slice Ao40 t308.length co40,.int .i64 t311,.int .i64 t312,.int .i64 t313] 39 (0,0)) (by (with_reducible repeat (first|refine blk_drewN ?_ _|refine blk_drew ?_|refine blk_alloc ?_ _));exact BK317.out) hb)
               have n8_:=Aside0.mk (below_step (by repeat (first|(with_reducible first|exact HB.out|apply below_alloc|apply pw_below_drewN|apply below_drew1|refine below_set ?_ GE282.out|refine below_set ?_ GE300.out|refine below_set ?_ GE317.out)|exact HB.out)) hb)
               clear HO_9;clear HO_12;clear HO_301001;clear HO_318001;clear HO335;clear BK282;clear BK300;clear BK317;clear HB;have HO_9:=n0_;have HO_12:=n1_;have HO_301001:=n2_;have HO_318001:=n3_;have HO335:=n4_;have BK282:=n5_;have BK300:=n6_;have BK317:=n7_;have HB:=n8_;clear n0_ n1_ n2_ n3_ n4_ n5_ n6_ n7_ n8_;(try clear hb);(try clear hk);obtain ⟨Ao99,co99,eo99⟩:=Kd.S_slice HO335.out
               (first|subst eo99|(injection eo99 with f1_ f2_ f3_;have f4_:=f1_.symm;have f5_:=f3_.symm;clear f1_ f2_ f3_;subst f4_;subst f5_))
               refine hK.out _ _ ⟨(blk_cell BK282.out 0).trans rfl,(blk_cell BK282.out 1).trans rfl,(blk_cell BK282.out 2).trans rfl⟩ (fun hHeld => ?_)
               clear hK K;refine norm_ (a':=?_) ?_ ?_
               rotate_left
               ·show Act.put _ (some 97) _ = _
                simp only [Act.put,List.setIfInBounds_toArray,List.set_cons_zero,List.set_cons_succ,i64_w,i32_w]
                rfl
               refine two_ (i:=5) (j:=9) (Ni:=some 99) (Nj:=some 16) #[true,true,true,true,true,true,false,false,false,false,false,false] #[true,true,true,true,true,false,false,false,false,true,false,false] rfl rfl rfl rfl (two_of HT_.out (by kernel_rfl)) (by decide) (by decide) (fun K hK => ?_) (fun K hK => ?_)
               ·skip;refine goes_ Try.func37 (by kernel_rfl) rfl #[.slice Ao99 t333.length co99,.agg #[.int .i64 t336,.int .i64 t337,.int .i64 t338],.int .i64 a2] (by rfl) rfl rfl (by (try simp only [List.map_toArray,List.map_cons,List.map_nil]);first|done|rfl|(simp only [List.length_drop,List.length_take];rfl)) ?_
                with_reducible refine (impl_FollowAt.calls kj57 _ _ t333 t336 t337 t338 a2 t339 t340 t343 t344 t345 t346 _ ?side1 ?side2 A86.out).mono ?_
                (case side1 => repeat (first|exact (Kd.S_reads' HO335.out).2.2|(with_reducible refine Kd.C_alloc ?_ _)|(with_reducible refine Kd.C_drewN ?_ _)|(with_reducible refine Kd.C_drew ?_)))
                (case side2 => exact (Kd.S_reads' HO335.out).2.1)
                rintro e w100 ⟨v341,v347,rfl,ho0,ho1,hb⟩
                refine ⟨_,rfl,?_⟩
                have n0_:=Aside0.mk (Kd.R_elder' (by (with_reducible repeat (first|apply Kd.R_alloc|apply Kd.R_drewN|apply Kd.R_drew));exact HO_9.out) (Kd.R_base ho1) hb)
                have n1_:=Aside0.mk (Kd.R_elder' (by (with_reducible repeat (first|apply Kd.R_alloc|apply Kd.R_drewN|apply Kd.R_drew));exact HO_12.out) (Kd.R_base ho1) hb)
                have n2_:=Aside0.mk (Kd.R_elder' (by (with_reducible repeat (first|apply Kd.R_alloc|apply Kd.R_drewN|apply Kd.R_drew));exact HO_301001.out) (Kd.R_base ho0) hb)
                have n3_:=Aside0.mk (Kd.R_elder' (by (with_reducible repeat (first|apply Kd.R_alloc|apply Kd.R_drewN|apply Kd.R_drew));exact HO_318001.out) (Kd.R_base ho0) hb)
                have n4_:=Aside0.mk (Kd.S_elder' (by (with_reducible repeat (first|apply Kd.S_alloc|apply Kd.S_drewN|apply Kd.S_drew));exact HO335.out) (Kd.R_base ho0) hb)
                have n5_:=Aside0.mk (Kd.R_lower (Kd.R_new' (Kd.R_new' ho0 (Kd.R_lt (by (with_reducible repeat (first|apply Kd.R_alloc|apply Kd.R_drewN|apply Kd.R_drew));exact HO_301001.out))) (Kd.R_lt (by (with_reducible repeat (first|apply Kd.R_alloc|apply Kd.R_drewN|apply Kd.R_drew));exact HO_318001.out))) (below_size (by repeat (first|(with_reducible first|exact HB.out|apply below_alloc|apply pw_below_drewN|apply below_drew1|refine below_set ?_ GE282.out|refine below_set ?_ GE300.out|refine below_set ?_ GE317.out)|exact HB.out))))
                have n6_:=Aside0.mk (Kd.R_lower (Kd.R_new' (Kd.R_new' ho1 (Kd.R_lt (by (with_reducible repeat (first|apply Kd.R_alloc|apply Kd.R_drewN|apply Kd.R_drew));exact HO_9.out))) (Kd.R_lt (by (with_reducible repeat (first|apply Kd.R_alloc|apply Kd.R_drewN|apply Kd.R_drew));exact HO_12.out))) (below_size (by repeat (first|(with_reducible first|exact HB.out|apply below_alloc|apply pw_below_drewN|apply below_drew1|refine below_set ?_ GE282.out|refine below_set ?_ GE300.out|refine below_set ?_ GE317.out)|exact HB.out))))
                have n7_:=Aside0.mk (blk_below (g:=gb282) (o:=.cells #[.int .i64 a1_0,.int .i64 a1_1,.int .i64 a1_2] 35 (0,0)) (by (with_reducible repeat (first|refine blk_drewN ?_ _|refine blk_drew ?_|refine blk_alloc ?_ _));exact BK282.out) hb)
                have n8_:=Aside0.mk (blk_below (g:=gb300) (o:=.cells #[.int .i64 t290,.slice Ao25 t291.length co25,.int .i64 t294,.int .i64 t295,.int .i64 t296] 39 (0,0)) (by (with_reducible repeat (first|refine blk_drewN ?_ _|refine blk_drew ?_|refine blk_alloc ?_ _));exact BK300.out) hb)
                have n9_:=Aside0.mk (blk_below (g:=gb317) (o:=.cells #[.int .i64 t307,.slice Ao40 t308.length co40,.int .i64 t311,.int .i64 t312,.int .i64 t313] 39 (0,0)) (by (with_reducible repeat (first|refine blk_drewN ?_ _|refine blk_drew ?_|refine blk_alloc ?_ _));exact BK317.out) hb)
                have n10_:=Aside0.mk (below_step (by repeat (first|(with_reducible first|exact HB.out|apply below_alloc|apply pw_below_drewN|apply below_drew1|refine below_set ?_ GE282.out|refine below_set ?_ GE300.out|refine below_set ?_ GE317.out)|exact HB.out)) hb)
                clear HO_9;clear HO_12;clear HO_301001;clear HO_318001;clear HO335;clear BK282;clear BK300;clear BK317;clear HB;have HO_9:=n0_;have HO_12:=n1_;have HO_301001:=n2_;have HO_318001:=n3_;have HO335:=n4_;have HO342:=n5_;have HO348:=n6_;have BK282:=n7_;have BK300:=n8_;have BK317:=n9_;have HB:=n10_;clear n0_ n1_ n2_ n3_ n4_ n5_ n6_ n7_ n8_ n9_ n10_;(try clear hb);(try clear hk);(try clear ho0);(try clear ho1);refine hK.out _ _ ⟨(blk_cell BK282.out 0).trans rfl,(blk_cell BK282.out 1).trans rfl,(blk_cell BK282.out 2).trans rfl⟩ (fun hHeld => ?_)
                clear hK K;refine norm_ (a':=?_) ?_ ?_
                rotate_left
                ·show Act.put _ (some 99) _ = _
                 simp only [Act.put,List.setIfInBounds_toArray,List.set_cons_zero,List.set_cons_succ,i64_w,i32_w]
                 rfl
                refine pure_ (i:=6) (N:=some 93) (v:=?_) (a':=?_) #[true,true,true,true,true,true,true,false,false,false,false,false] rfl rfl (any_of HT_.out (by kernel_rfl)) (fun _ _ _ h => h) (Or.inl ⟨by rfl,?_⟩) ?_ ?_
                rotate_left
                ·intro w';go_simp;with_reducible rfl
                rotate_left
                ·simp only [Act.put,List.setIfInBounds_toArray,List.set_cons_zero,List.set_cons_succ,i64_w,i32_w]
                 rfl
                refine pure_ (i:=7) (N:=some 100) (v:=?_) (a':=?_) #[true,true,true,true,true,true,true,true,false,false,false,false] rfl rfl (any_of HT_.out (by kernel_rfl)) (fun _ _ _ h => h) (Or.inl ⟨by rfl,?_⟩) ?_ ?_
                rotate_left
                ·intro w';go_simp;with_reducible rfl
                rotate_left
                ·simp only [Act.put,List.setIfInBounds_toArray,List.set_cons_zero,List.set_cons_succ,i64_w,i32_w]
                 rfl
                refine pure_ (i:=8) (N:=some 101) (v:=?_) (a':=?_) #[true,true,true,true,true,true,true,true,true,false,false,false] rfl rfl (any_of HT_.out (by kernel_rfl)) (fun _ _ _ h => h) (Or.inl ⟨by rfl,?_⟩) ?_ ?_
                rotate_left
                ·intro w';go_simp;with_reducible rfl
                rotate_left
                ·simp only [Act.put,List.setIfInBounds_toArray,List.set_cons_zero,List.set_cons_succ,i64_w,i32_w]
                 rfl
                refine one_ (i:=9) (N:=some 16) #[true,true,true,true,true,true,true,true,true,true,false,false] rfl rfl (one_of HT_.out (by kernel_rfl)) (by decide) (fun K hK => ?_)
                refine box_step ?hg (N:=16) ?hd (cs:=#[.int .i64 0,.slice none 0 0,.int .i64 0,.int .i64 0,.int .i64 0]) (t:=39) ?hr ?_;(case hd => rfl);(case hg => rfl);(case hr => first|(go_simp;done)|(go_simp;rfl))
                intro gb349 hg w101 hbox hb;have n0_:=Aside0.mk (Kd.R_below (by (with_reducible repeat (first|apply Kd.R_alloc|apply Kd.R_drewN|apply Kd.R_drew));exact HO_9.out) hb)
                have n1_:=Aside0.mk (Kd.R_below (by (with_reducible repeat (first|apply Kd.R_alloc|apply Kd.R_drewN|apply Kd.R_drew));exact HO_12.out) hb)
                have n2_:=Aside0.mk (Kd.R_below (by (with_reducible repeat (first|apply Kd.R_alloc|apply Kd.R_drewN|apply Kd.R_drew));exact HO_301001.out) hb)
                have n3_:=Aside0.mk (Kd.R_below (by (with_reducible repeat (first|apply Kd.R_alloc|apply Kd.R_drewN|apply Kd.R_drew));exact HO_318001.out) hb)
                have n4_:=Aside0.mk (Kd.S_below (by (with_reducible repeat (first|apply Kd.S_alloc|apply Kd.S_drewN|apply Kd.S_drew));exact HO335.out) hb)
                have n5_:=Aside0.mk (Kd.R_below (by (with_reducible repeat (first|apply Kd.R_alloc|apply Kd.R_drewN|apply Kd.R_drew));exact HO342.out) hb)
                have n6_:=Aside0.mk (Kd.R_below (by (with_reducible repeat (first|apply Kd.R_alloc|apply Kd.R_drewN|apply Kd.R_drew));exact HO348.out) hb)
                have n7_:=Aside0.mk (blk_below (g:=gb282) (o:=.cells #[.int .i64 a1_0,.int .i64 a1_1,.int .i64 a1_2] 35 (0,0)) (by (with_reducible repeat (first|refine blk_drewN ?_ _|refine blk_drew ?_|refine blk_alloc ?_ _));exact BK282.out) hb)
                have n8_:=Aside0.mk (blk_below (g:=gb300) (o:=.cells #[.int .i64 t290,.slice Ao25 t291.length co25,.int .i64 t294,.int .i64 t295,.int .i64 t296] 39 (0,0)) (by (with_reducible repeat (first|refine blk_drewN ?_ _|refine blk_drew ?_|refine blk_alloc ?_ _));exact BK300.out) hb)
                have n9_:=Aside0.mk (blk_below (g:=gb317) (o:=.cells #[.int .i64 t307,.slice Ao40 t308.length co40,.int .i64 t311,.int .i64 t312,.int .i64 t313] 39 (0,0)) (by (with_reducible repeat (first|refine blk_drewN ?_ _|refine blk_drew ?_|refine blk_alloc ?_ _));exact BK317.out) hb)
                have n10_:=Aside0.mk (below_step (by repeat (first|(with_reducible first|exact HB.out|apply below_alloc|apply pw_below_drewN|apply below_drew1|refine below_set ?_ GE282.out|refine below_set ?_ GE300.out|refine below_set ?_ GE317.out)|exact HB.out)) hb)
                have n11_:=Aside0.mk (hbox)
                have n12_:=Aside0.mk ((by rw [hg];exact (below_size (by repeat (first|(with_reducible first|exact HB.out|apply below_alloc|apply pw_below_drewN|apply below_drew1|refine below_set ?_ GE282.out|refine below_set ?_ GE300.out|refine below_set ?_ GE317.out)|exact HB.out))) : w.heap.size ≤ gb349))
                have n13_:=Aside0.mk ((by rw [hg];exact (below_size (by repeat (first|(with_reducible first|exact HB.out|apply below_alloc|apply pw_below_drewN|apply below_drew1|refine below_set ?_ GE282.out|refine below_set ?_ GE300.out|refine below_set ?_ GE317.out)|exact HB.out))) : w.heap.size ≤ gb349))
                have n14_:=Aside0.mk ((by rw [hg];exact Nat.ne_of_lt (blk_lt (g:=gb282) (o:=.cells #[.int .i64 a1_0,.int .i64 a1_1,.int .i64 a1_2] 35 (0,0)) (by (with_reducible repeat (first|refine blk_drewN ?_ _|refine blk_drew ?_|refine blk_alloc ?_ _));exact BK282.out)) : gb282 ≠ gb349))
                have n15_:=Aside0.mk ((by rw [hg];exact Nat.ne_of_gt (blk_lt (g:=gb282) (o:=.cells #[.int .i64 a1_0,.int .i64 a1_1,.int .i64 a1_2] 35 (0,0)) (by (with_reducible repeat (first|refine blk_drewN ?_ _|refine blk_drew ?_|refine blk_alloc ?_ _));exact BK282.out)) : gb349 ≠ gb282))
                have n16_:=Aside0.mk ((by rw [hg];exact Nat.ne_of_lt (blk_lt (g:=gb300) (o:=.cells #[.int .i64 t290,.slice Ao25 t291.length co25,.int .i64 t294,.int .i64 t295,.int .i64 t296] 39 (0,0)) (by (with_reducible repeat (first|refine blk_drewN ?_ _|refine blk_drew ?_|refine blk_alloc ?_ _));exact BK300.out)) : gb300 ≠ gb349))
                have n17_:=Aside0.mk ((by rw [hg];exact Nat.ne_of_gt (blk_lt (g:=gb300) (o:=.cells #[.int .i64 t290,.slice Ao25 t291.length co25,.int .i64 t294,.int .i64 t295,.int .i64 t296] 39 (0,0)) (by (with_reducible repeat (first|refine blk_drewN ?_ _|refine blk_drew ?_|refine blk_alloc ?_ _));exact BK300.out)) : gb349 ≠ gb300))
                have n18_:=Aside0.mk ((by rw [hg];exact Nat.ne_of_lt (blk_lt (g:=gb317) (o:=.cells #[.int .i64 t307,.slice Ao40 t308.length co40,.int .i64 t311,.int .i64 t312,.int .i64 t313] 39 (0,0)) (by (with_reducible repeat (first|refine blk_drewN ?_ _|refine blk_drew ?_|refine blk_alloc ?_ _));exact BK317.out)) : gb317 ≠ gb349))
                have n19_:=Aside0.mk ((by rw [hg];exact Nat.ne_of_gt (blk_lt (g:=gb317) (o:=.cells #[.int .i64 t307,.slice Ao40 t308.length co40,.int .i64 t311,.int .i64 t312,.int .i64 t313] 39 (0,0)) (by (with_reducible repeat (first|refine blk_drewN ?_ _|refine blk_drew ?_|refine blk_alloc ?_ _));exact BK317.out)) : gb349 ≠ gb317))
                clear HO_9;clear HO_12;clear HO_301001;clear HO_318001;clear HO335;clear HO342;clear HO348;clear BK282;clear BK300;clear BK317;clear HB;have HO_9:=n0_;have HO_12:=n1_;have HO_301001:=n2_;have HO_318001:=n3_;have HO335:=n4_;have HO342:=n5_;have HO348:=n6_;have BK282:=n7_;have BK300:=n8_;have BK317:=n9_;have HB:=n10_;have BK349:=n11_;have GW349:=n12_;have GE349:=n13_;have NB282_349:=n14_;have NB349_282:=n15_;have NB300_349:=n16_;have NB349_300:=n17_;have NB317_349:=n18_;have NB349_317:=n19_;clear n0_ n1_ n2_ n3_ n4_ n5_ n6_ n7_ n8_ n9_ n10_ n11_ n12_ n13_ n14_ n15_ n16_ n17_ n18_ n19_;clear hb hbox hg;refine hK.out _ _ ⟨(blk_cell BK282.out 0).trans rfl,(blk_cell BK282.out 1).trans rfl,(blk_cell BK282.out 2).trans rfl⟩ (fun hHeld => ?_)
                clear hK K;refine norm_ (a':=?_) ?_ ?_
                rotate_left
                ·show Act.put _ (some 16) _ = _
                 simp only [Act.put,List.setIfInBounds_toArray,List.set_cons_zero,List.set_cons_succ,i64_w,i32_w]
                 rfl
                exact norm_ (by simp only [putAll,Act.put,List.setIfInBounds_toArray,List.set_cons_zero,List.set_cons_succ]) (hCont (.slice Ao99 t333.length co99,v341,v347,gb349) _ ⟨hHeld,(by (with_reducible repeat (first|apply Kd.S_alloc|apply Kd.S_drewN|apply Kd.S_drew));exact Kd.S_mono HO335.out (fun _ hk => ⟨hk.2,⟨hk.1.1.2,hk.1.2⟩⟩)),(by (with_reducible repeat (first|apply Kd.R_alloc|apply Kd.R_drewN|apply Kd.R_drew));exact Kd.R_mono HO342.out (fun _ hk => ⟨hk.1.2,hk.2⟩)),(by (with_reducible repeat (first|apply Kd.R_alloc|apply Kd.R_drewN|apply Kd.R_drew));exact Kd.R_mono HO348.out (fun _ hk => ⟨hk.2,hk.1.2⟩)),(by (with_reducible repeat (first|apply Kd.R_alloc|apply Kd.R_drewN|apply Kd.R_drew));exact Kd.R_mono HO_12.out (fun _ hk => ⟨hk.2,hk.1⟩)),(by (with_reducible repeat (first|apply Kd.R_alloc|apply Kd.R_drewN|apply Kd.R_drew));exact Kd.R_mono HO_301001.out (fun _ hk => ⟨hk.2,hk.1⟩)),(by (with_reducible repeat (first|apply Kd.R_alloc|apply Kd.R_drewN|apply Kd.R_drew));exact Kd.R_mono HO_318001.out (fun _ hk => ⟨hk.2,hk.1⟩)),(by (with_reducible repeat (first|apply Kd.R_alloc|apply Kd.R_drewN|apply Kd.R_drew));exact Kd.R_mono HO_9.out (fun _ hk => ⟨hk.2,hk.1⟩)),(by (with_reducible repeat (first|refine blk_drewN ?_ _|refine blk_drew ?_|refine blk_alloc ?_ _));exact BK282.out),(by (with_reducible repeat (first|refine blk_drewN ?_ _|refine blk_drew ?_|refine blk_alloc ?_ _));exact BK300.out),(by (with_reducible repeat (first|refine blk_drewN ?_ _|refine blk_drew ?_|refine blk_alloc ?_ _));exact BK317.out),(by (with_reducible repeat (first|refine blk_drewN ?_ _|refine blk_drew ?_|refine blk_alloc ?_ _));exact BK349.out),GW349.out,GE349.out,NB282_349.out,NB349_282.out,NB300_349.out,NB349_300.out,NB317_349.out,NB349_317.out,(by repeat (first|(with_reducible first|exact HB.out|apply below_alloc|apply pw_below_drewN|apply below_drew1|refine below_set ?_ GE282.out|refine below_set ?_ GE300.out|refine below_set ?_ GE317.out|refine below_set ?_ GE349.out)|exact HB.out))⟩)
               ·skip;refine box_step ?hg (N:=16) ?hd (cs:=#[.int .i64 0,.slice none 0 0,.int .i64 0,.int .i64 0,.int .i64 0]) (t:=39) ?hr ?_;(case hd => rfl);(case hg => rfl);(case hr => first|(go_simp;done)|(go_simp;rfl))
                intro gb349 hg w99 hbox hb;have n0_:=Aside0.mk (Kd.R_below (by (with_reducible repeat (first|apply Kd.R_alloc|apply Kd.R_drewN|apply Kd.R_drew));exact HO_9.out) hb)
                have n1_:=Aside0.mk (Kd.R_below (by (with_reducible repeat (first|apply Kd.R_alloc|apply Kd.R_drewN|apply Kd.R_drew));exact HO_12.out) hb)
                have n2_:=Aside0.mk (Kd.R_below (by (with_reducible repeat (first|apply Kd.R_alloc|apply Kd.R_drewN|apply Kd.R_drew));exact HO_301001.out) hb)
                have n3_:=Aside0.mk (Kd.R_below (by (with_reducible repeat (first|apply Kd.R_alloc|apply Kd.R_drewN|apply Kd.R_drew));exact HO_318001.out) hb)
                have n4_:=Aside0.mk (Kd.S_below (by (with_reducible repeat (first|apply Kd.S_alloc|apply Kd.S_drewN|apply Kd.S_drew));exact HO335.out) hb)
                have n5_:=Aside0.mk (blk_below (g:=gb282) (o:=.cells #[.int .i64 a1_0,.int .i64 a1_1,.int .i64 a1_2] 35 (0,0)) (by (with_reducible repeat (first|refine blk_drewN ?_ _|refine blk_drew ?_|refine blk_alloc ?_ _));exact BK282.out) hb)
                have n6_:=Aside0.mk (blk_below (g:=gb300) (o:=.cells #[.int .i64 t290,.slice Ao25 t291.length co25,.int .i64 t294,.int .i64 t295,.int .i64 t296] 39 (0,0)) (by (with_reducible repeat (first|refine blk_drewN ?_ _|refine blk_drew ?_|refine blk_alloc ?_ _));exact BK300.out) hb)
                have n7_:=Aside0.mk (blk_below (g:=gb317) (o:=.cells #[.int .i64 t307,.slice Ao40 t308.length co40,.int .i64 t311,.int .i64 t312,.int .i64 t313] 39 (0,0)) (by (with_reducible repeat (first|refine blk_drewN ?_ _|refine blk_drew ?_|refine blk_alloc ?_ _));exact BK317.out) hb)
                have n8_:=Aside0.mk (below_step (by repeat (first|(with_reducible first|exact HB.out|apply below_alloc|apply pw_below_drewN|apply below_drew1|refine below_set ?_ GE282.out|refine below_set ?_ GE300.out|refine below_set ?_ GE317.out)|exact HB.out)) hb)
                have n9_:=Aside0.mk (hbox)
                have n10_:=Aside0.mk ((by rw [hg];exact (below_size (by repeat (first|(with_reducible first|exact HB.out|apply below_alloc|apply pw_below_drewN|apply below_drew1|refine below_set ?_ GE282.out|refine below_set ?_ GE300.out|refine below_set ?_ GE317.out)|exact HB.out))) : w.heap.size ≤ gb349))
                have n11_:=Aside0.mk ((by rw [hg];exact (below_size (by repeat (first|(with_reducible first|exact HB.out|apply below_alloc|apply pw_below_drewN|apply below_drew1|refine below_set ?_ GE282.out|refine below_set ?_ GE300.out|refine below_set ?_ GE317.out)|exact HB.out))) : w.heap.size ≤ gb349))
                have n12_:=Aside0.mk ((by rw [hg];exact Nat.ne_of_lt (blk_lt (g:=gb282) (o:=.cells #[.int .i64 a1_0,.int .i64 a1_1,.int .i64 a1_2] 35 (0,0)) (by (with_reducible repeat (first|refine blk_drewN ?_ _|refine blk_drew ?_|refine blk_alloc ?_ _));exact BK282.out)) : gb282 ≠ gb349))
                have n13_:=Aside0.mk ((by rw [hg];exact Nat.ne_of_gt (blk_lt (g:=gb282) (o:=.cells #[.int .i64 a1_0,.int .i64 a1_1,.int .i64 a1_2] 35 (0,0)) (by (with_reducible repeat (first|refine blk_drewN ?_ _|refine blk_drew ?_|refine blk_alloc ?_ _));exact BK282.out)) : gb349 ≠ gb282))
                have n14_:=Aside0.mk ((by rw [hg];exact Nat.ne_of_lt (blk_lt (g:=gb300) (o:=.cells #[.int .i64 t290,.slice Ao25 t291.length co25,.int .i64 t294,.int .i64 t295,.int .i64 t296] 39 (0,0)) (by (with_reducible repeat (first|refine blk_drewN ?_ _|refine blk_drew ?_|refine blk_alloc ?_ _));exact BK300.out)) : gb300 ≠ gb349))
                have n15_:=Aside0.mk ((by rw [hg];exact Nat.ne_of_gt (blk_lt (g:=gb300) (o:=.cells #[.int .i64 t290,.slice Ao25 t291.length co25,.int .i64 t294,.int .i64 t295,.int .i64 t296] 39 (0,0)) (by (with_reducible repeat (first|refine blk_drewN ?_ _|refine blk_drew ?_|refine blk_alloc ?_ _));exact BK300.out)) : gb349 ≠ gb300))
                have n16_:=Aside0.mk ((by rw [hg];exact Nat.ne_of_lt (blk_lt (g:=gb317) (o:=.cells #[.int .i64 t307,.slice Ao40 t308.length co40,.int .i64 t311,.int .i64 t312,.int .i64 t313] 39 (0,0)) (by (with_reducible repeat (first|refine blk_drewN ?_ _|refine blk_drew ?_|refine blk_alloc ?_ _));exact BK317.out)) : gb317 ≠ gb349))
                have n17_:=Aside0.mk ((by rw [hg];exact Nat.ne_of_gt (blk_lt (g:=gb317) (o:=.cells #[.int .i64 t307,.slice Ao40 t308.length co40,.int .i64 t311,.int .i64 t312,.int .i64 t313] 39 (0,0)) (by (with_reducible repeat (first|refine blk_drewN ?_ _|refine blk_drew ?_|refine blk_alloc ?_ _));exact BK317.out)) : gb349 ≠ gb317))
                clear HO_9;clear HO_12;clear HO_301001;clear HO_318001;clear HO335;clear BK282;clear BK300;clear BK317;clear HB;have HO_9:=n0_;have HO_12:=n1_;have HO_301001:=n2_;have HO_318001:=n3_;have HO335:=n4_;have BK282:=n5_;have BK300:=n6_;have BK317:=n7_;have HB:=n8_;have BK349:=n9_;have GW349:=n10_;have GE349:=n11_;have NB282_349:=n12_;have NB349_282:=n13_;have NB300_349:=n14_;have NB349_300:=n15_;have NB317_349:=n16_;have NB349_317:=n17_;clear n0_ n1_ n2_ n3_ n4_ n5_ n6_ n7_ n8_ n9_ n10_ n11_ n12_ n13_ n14_ n15_ n16_ n17_;clear hb hbox hg;obtain ⟨Ao100,co100,eo100⟩:=Kd.S_slice HO335.out
                (first|subst eo100|(injection eo100 with f1_ f2_ f3_;have f4_:=f1_.symm;have f5_:=f3_.symm;clear f1_ f2_ f3_;subst f4_;subst f5_))
                refine hK.out _ _ ⟨(blk_cell BK282.out 0).trans rfl,(blk_cell BK282.out 1).trans rfl,(blk_cell BK282.out 2).trans rfl⟩ (fun hHeld => ?_)
                clear hK K;refine norm_ (a':=?_) ?_ ?_
                rotate_left
                ·show Act.put _ (some 16) _ = _
                 simp only [Act.put,List.setIfInBounds_toArray,List.set_cons_zero,List.set_cons_succ,i64_w,i32_w]
                 rfl
                refine one_ (i:=5) (N:=some 99) #[true,true,true,true,true,true,false,false,false,true,false,false] rfl rfl (one_of HT_.out (by kernel_rfl)) (by decide) (fun K hK => ?_)
                refine goes_ Try.func37 (by kernel_rfl) rfl #[.slice Ao100 t333.length co100,.agg #[.int .i64 t336,.int .i64 t337,.int .i64 t338],.int .i64 a2] (by rfl) rfl rfl (by (try simp only [List.map_toArray,List.map_cons,List.map_nil]);first|done|rfl|(simp only [List.length_drop,List.length_take];rfl)) ?_
                with_reducible refine (impl_FollowAt.calls kj57 _ _ t333 t336 t337 t338 a2 t339 t340 t343 t344 t345 t346 _ ?side1 ?side2 A86.out).mono ?_
                (case side1 => repeat (first|exact (Kd.S_reads' HO335.out).2.2|(with_reducible refine Kd.C_alloc ?_ _)|(with_reducible refine Kd.C_drewN ?_ _)|(with_reducible refine Kd.C_drew ?_)))
                (case side2 => exact (Kd.S_reads' HO335.out).2.1)
                rintro e w101 ⟨v341,v347,rfl,ho0,ho1,hb⟩
                refine ⟨_,rfl,?_⟩
                have n0_:=Aside0.mk (Kd.R_elder' (by (with_reducible repeat (first|apply Kd.R_alloc|apply Kd.R_drewN|apply Kd.R_drew));exact HO_9.out) (Kd.R_base ho1) hb)
                have n1_:=Aside0.mk (Kd.R_elder' (by (with_reducible repeat (first|apply Kd.R_alloc|apply Kd.R_drewN|apply Kd.R_drew));exact HO_12.out) (Kd.R_base ho1) hb)
                have n2_:=Aside0.mk (Kd.R_elder' (by (with_reducible repeat (first|apply Kd.R_alloc|apply Kd.R_drewN|apply Kd.R_drew));exact HO_301001.out) (Kd.R_base ho0) hb)
                have n3_:=Aside0.mk (Kd.R_elder' (by (with_reducible repeat (first|apply Kd.R_alloc|apply Kd.R_drewN|apply Kd.R_drew));exact HO_318001.out) (Kd.R_base ho0) hb)
                have n4_:=Aside0.mk (Kd.S_elder' (by (with_reducible repeat (first|apply Kd.S_alloc|apply Kd.S_drewN|apply Kd.S_drew));exact HO335.out) (Kd.R_base ho0) hb)
                have n5_:=Aside0.mk (Kd.R_lower (Kd.R_new' (Kd.R_new' ho0 (Kd.R_lt (by (with_reducible repeat (first|apply Kd.R_alloc|apply Kd.R_drewN|apply Kd.R_drew));exact HO_301001.out))) (Kd.R_lt (by (with_reducible repeat (first|apply Kd.R_alloc|apply Kd.R_drewN|apply Kd.R_drew));exact HO_318001.out))) (below_size (by repeat (first|(with_reducible first|exact HB.out|apply below_alloc|apply pw_below_drewN|apply below_drew1|refine below_set ?_ GE282.out|refine below_set ?_ GE300.out|refine below_set ?_ GE317.out|refine below_set ?_ GE349.out)|exact HB.out))))
                have n6_:=Aside0.mk (Kd.R_lower (Kd.R_new' (Kd.R_new' ho1 (Kd.R_lt (by (with_reducible repeat (first|apply Kd.R_alloc|apply Kd.R_drewN|apply Kd.R_drew));exact HO_9.out))) (Kd.R_lt (by (with_reducible repeat (first|apply Kd.R_alloc|apply Kd.R_drewN|apply Kd.R_drew));exact HO_12.out))) (below_size (by repeat (first|(with_reducible first|exact HB.out|apply below_alloc|apply pw_below_drewN|apply below_drew1|refine below_set ?_ GE282.out|refine below_set ?_ GE300.out|refine below_set ?_ GE317.out|refine below_set ?_ GE349.out)|exact HB.out))))
                have n7_:=Aside0.mk (blk_below (g:=gb282) (o:=.cells #[.int .i64 a1_0,.int .i64 a1_1,.int .i64 a1_2] 35 (0,0)) (by (with_reducible repeat (first|refine blk_drewN ?_ _|refine blk_drew ?_|refine blk_alloc ?_ _));exact BK282.out) hb)
                have n8_:=Aside0.mk (blk_below (g:=gb300) (o:=.cells #[.int .i64 t290,.slice Ao25 t291.length co25,.int .i64 t294,.int .i64 t295,.int .i64 t296] 39 (0,0)) (by (with_reducible repeat (first|refine blk_drewN ?_ _|refine blk_drew ?_|refine blk_alloc ?_ _));exact BK300.out) hb)
                have n9_:=Aside0.mk (blk_below (g:=gb317) (o:=.cells #[.int .i64 t307,.slice Ao40 t308.length co40,.int .i64 t311,.int .i64 t312,.int .i64 t313] 39 (0,0)) (by (with_reducible repeat (first|refine blk_drewN ?_ _|refine blk_drew ?_|refine blk_alloc ?_ _));exact BK317.out) hb)
                have n10_:=Aside0.mk (blk_below (g:=gb349) (o:=.cells #[.int .i64 0,.slice none 0 0,.int .i64 0,.int .i64 0,.int .i64 0] 39 (0,0)) (by (with_reducible repeat (first|refine blk_drewN ?_ _|refine blk_drew ?_|refine blk_alloc ?_ _));exact BK349.out) hb)
                have n11_:=Aside0.mk (below_step (by repeat (first|(with_reducible first|exact HB.out|apply below_alloc|apply pw_below_drewN|apply below_drew1|refine below_set ?_ GE282.out|refine below_set ?_ GE300.out|refine below_set ?_ GE317.out|refine below_set ?_ GE349.out)|exact HB.out)) hb)
                clear HO_9;clear HO_12;clear HO_301001;clear HO_318001;clear HO335;clear BK282;clear BK300;clear BK317;clear BK349;clear HB;have HO_9:=n0_;have HO_12:=n1_;have HO_301001:=n2_;have HO_318001:=n3_;have HO335:=n4_;have HO342:=n5_;have HO348:=n6_;have BK282:=n7_;have BK300:=n8_;have BK317:=n9_;have BK349:=n10_;have HB:=n11_;clear n0_ n1_ n2_ n3_ n4_ n5_ n6_ n7_ n8_ n9_ n10_ n11_;(try clear hb);(try clear hk);(try clear ho0);(try clear ho1);refine hK.out _ _ ⟨(blk_cell BK282.out 0).trans rfl,(blk_cell BK282.out 1).trans rfl,(blk_cell BK282.out 2).trans rfl⟩ (fun hHeld => ?_)
                clear hK K;refine norm_ (a':=?_) ?_ ?_
                rotate_left
                ·show Act.put _ (some 99) _ = _
                 simp only [Act.put,List.setIfInBounds_toArray,List.set_cons_zero,List.set_cons_succ,i64_w,i32_w]
                 rfl
                refine pure_ (i:=6) (N:=some 93) (v:=?_) (a':=?_) #[true,true,true,true,true,true,true,false,false,true,false,false] rfl rfl (any_of HT_.out (by kernel_rfl)) (fun _ _ _ h => h) (Or.inl ⟨by rfl,?_⟩) ?_ ?_
                rotate_left
                ·intro w';go_simp;with_reducible rfl
                rotate_left
                ·simp only [Act.put,List.setIfInBounds_toArray,List.set_cons_zero,List.set_cons_succ,i64_w,i32_w]
                 rfl
                refine pure_ (i:=7) (N:=some 100) (v:=?_) (a':=?_) #[true,true,true,true,true,true,true,true,false,true,false,false] rfl rfl (any_of HT_.out (by kernel_rfl)) (fun _ _ _ h => h) (Or.inl ⟨by rfl,?_⟩) ?_ ?_
                rotate_left
                ·intro w';go_simp;with_reducible rfl
                rotate_left
                ·simp only [Act.put,List.setIfInBounds_toArray,List.set_cons_zero,List.set_cons_succ,i64_w,i32_w]
                 rfl
                refine pure_ (i:=8) (N:=some 101) (v:=?_) (a':=?_) #[true,true,true,true,true,true,true,true,true,true,false,false] rfl rfl (any_of HT_.out (by kernel_rfl)) (fun _ _ _ h => h) (Or.inl ⟨by rfl,?_⟩) ?_ ?_
                rotate_left
                ·intro w';go_simp;with_reducible rfl
                rotate_left
                ·simp only [Act.put,List.setIfInBounds_toArray,List.set_cons_zero,List.set_cons_succ,i64_w,i32_w]
                 rfl
                exact norm_ (by simp only [putAll,Act.put,List.setIfInBounds_toArray,List.set_cons_zero,List.set_cons_succ]) (hCont (.slice Ao100 t333.length co100,v341,v347,gb349) _ ⟨hHeld,(by (with_reducible repeat (first|apply Kd.S_alloc|apply Kd.S_drewN|apply Kd.S_drew));exact Kd.S_mono HO335.out (fun _ hk => ⟨hk.2,⟨hk.1.1.2,hk.1.2⟩⟩)),(by (with_reducible repeat (first|apply Kd.R_alloc|apply Kd.R_drewN|apply Kd.R_drew));exact Kd.R_mono HO342.out (fun _ hk => ⟨hk.1.2,hk.2⟩)),(by (with_reducible repeat (first|apply Kd.R_alloc|apply Kd.R_drewN|apply Kd.R_drew));exact Kd.R_mono HO348.out (fun _ hk => ⟨hk.2,hk.1.2⟩)),(by (with_reducible repeat (first|apply Kd.R_alloc|apply Kd.R_drewN|apply Kd.R_drew));exact Kd.R_mono HO_12.out (fun _ hk => ⟨hk.2,hk.1⟩)),(by (with_reducible repeat (first|apply Kd.R_alloc|apply Kd.R_drewN|apply Kd.R_drew));exact Kd.R_mono HO_301001.out (fun _ hk => ⟨hk.2,hk.1⟩)),(by (with_reducible repeat (first|apply Kd.R_alloc|apply Kd.R_drewN|apply Kd.R_drew));exact Kd.R_mono HO_318001.out (fun _ hk => ⟨hk.2,hk.1⟩)),(by (with_reducible repeat (first|apply Kd.R_alloc|apply Kd.R_drewN|apply Kd.R_drew));exact Kd.R_mono HO_9.out (fun _ hk => ⟨hk.2,hk.1⟩)),(by (with_reducible repeat (first|refine blk_drewN ?_ _|refine blk_drew ?_|refine blk_alloc ?_ _));exact BK282.out),(by (with_reducible repeat (first|refine blk_drewN ?_ _|refine blk_drew ?_|refine blk_alloc ?_ _));exact BK300.out),(by (with_reducible repeat (first|refine blk_drewN ?_ _|refine blk_drew ?_|refine blk_alloc ?_ _));exact BK317.out),(by (with_reducible repeat (first|refine blk_drewN ?_ _|refine blk_drew ?_|refine blk_alloc ?_ _));exact BK349.out),GW349.out,GE349.out,NB282_349.out,NB349_282.out,NB300_349.out,NB349_300.out,NB317_349.out,NB349_317.out,(by repeat (first|(with_reducible first|exact HB.out|apply below_alloc|apply pw_below_drewN|apply below_drew1|refine below_set ?_ GE282.out|refine below_set ?_ GE300.out|refine below_set ?_ GE317.out|refine below_set ?_ GE349.out)|exact HB.out))⟩)
              ·skip;refine box_step ?hg (N:=16) ?hd (cs:=#[.int .i64 0,.slice none 0 0,.int .i64 0,.int .i64 0,.int .i64 0]) (t:=39) ?hr ?_;(case hd => rfl);(case hg => rfl);(case hr => first|(go_simp;done)|(go_simp;rfl))
               intro gb349 hg w98 hbox hb;have n0_:=Aside0.mk (Kd.R_below (by (with_reducible repeat (first|apply Kd.R_alloc|apply Kd.R_drewN|apply Kd.R_drew));exact HO_9.out) hb)
               have n1_:=Aside0.mk (Kd.R_below (by (with_reducible repeat (first|apply Kd.R_alloc|apply Kd.R_drewN|apply Kd.R_drew));exact HO_12.out) hb)
               have n2_:=Aside0.mk (Kd.R_below (by (with_reducible repeat (first|apply Kd.R_alloc|apply Kd.R_drewN|apply Kd.R_drew));exact HO_301001.out) hb)
               have n3_:=Aside0.mk (Kd.R_below (by (with_reducible repeat (first|apply Kd.R_alloc|apply Kd.R_drewN|apply Kd.R_drew));exact HO_318001.out) hb)
               have n4_:=Aside0.mk (Kd.S_below (by (with_reducible repeat (first|apply Kd.S_alloc|apply Kd.S_drewN|apply Kd.S_drew));exact HO335.out) hb)
               have n5_:=Aside0.mk (blk_below (g:=gb282) (o:=.cells #[.int .i64 a1_0,.int .i64 a1_1,.int .i64 a1_2] 35 (0,0)) (by (with_reducible repeat (first|refine blk_drewN ?_ _|refine blk_drew ?_|refine blk_alloc ?_ _));exact BK282.out) hb)
               have n6_:=Aside0.mk (blk_below (g:=gb300) (o:=.cells #[.int .i64 t290,.slice Ao25 t291.length co25,.int .i64 t294,.int .i64 t295,.int .i64 t296] 39 (0,0)) (by (with_reducible repeat (first|refine blk_drewN ?_ _|refine blk_drew ?_|refine blk_alloc ?_ _));exact BK300.out) hb)
               have n7_:=Aside0.mk (blk_below (g:=gb317) (o:=.cells #[.int .i64 t307,.slice Ao40 t308.length co40,.int .i64 t311,.int .i64 t312,.int .i64 t313] 39 (0,0)) (by (with_reducible repeat (first|refine blk_drewN ?_ _|refine blk_drew ?_|refine blk_alloc ?_ _));exact BK317.out) hb)
               have n8_:=Aside0.mk (below_step (by repeat (first|(with_reducible first|exact HB.out|apply below_alloc|apply pw_below_drewN|apply below_drew1|refine below_set ?_ GE282.out|refine below_set ?_ GE300.out|refine below_set ?_ GE317.out)|exact HB.out)) hb)
               have n9_:=Aside0.mk (hbox)
               have n10_:=Aside0.mk ((by rw [hg];exact (below_size (by repeat (first|(with_reducible first|exact HB.out|apply below_alloc|apply pw_below_drewN|apply below_drew1|refine below_set ?_ GE282.out|refine below_set ?_ GE300.out|refine below_set ?_ GE317.out)|exact HB.out))) : w.heap.size ≤ gb349))
               have n11_:=Aside0.mk ((by rw [hg];exact (below_size (by repeat (first|(with_reducible first|exact HB.out|apply below_alloc|apply pw_below_drewN|apply below_drew1|refine below_set ?_ GE282.out|refine below_set ?_ GE300.out|refine below_set ?_ GE317.out)|exact HB.out))) : w.heap.size ≤ gb349))
               have n12_:=Aside0.mk ((by rw [hg];exact Nat.ne_of_lt (blk_lt (g:=gb282) (o:=.cells #[.int .i64 a1_0,.int .i64 a1_1,.int .i64 a1_2] 35 (0,0)) (by (with_reducible repeat (first|refine blk_drewN ?_ _|refine blk_drew ?_|refine blk_alloc ?_ _));exact BK282.out)) : gb282 ≠ gb349))
               have n13_:=Aside0.mk ((by rw [hg];exact Nat.ne_of_gt (blk_lt (g:=gb282) (o:=.cells #[.int .i64 a1_0,.int .i64 a1_1,.int .i64 a1_2] 35 (0,0)) (by (with_reducible repeat (first|refine blk_drewN ?_ _|refine blk_drew ?_|refine blk_alloc ?_ _));exact BK282.out)) : gb349 ≠ gb282))
               have n14_:=Aside0.mk ((by rw [hg];exact Nat.ne_of_lt (blk_lt (g:=gb300) (o:=.cells #[.int .i64 t290,.slice Ao25 t291.length co25,.int .i64 t294,.int .i64 t295,.int .i64 t296] 39 (0,0)) (by (with_reducible repeat (first|refine blk_drewN ?_ _|refine blk_drew ?_|refine blk_alloc ?_ _));exact BK300.out)) : gb300 ≠ gb349))
               have n15_:=Aside0.mk ((by rw [hg];exact Nat.ne_of_gt (blk_lt (g:=gb300) (o:=.cells #[.int .i64 t290,.slice Ao25 t291.length co25,.int .i64 t294,.int .i64 t295,.int .i64 t296] 39 (0,0)) (by (with_reducible repeat (first|refine blk_drewN ?_ _|refine blk_drew ?_|refine blk_alloc ?_ _));exact BK300.out)) : gb349 ≠ gb300))
               have n16_:=Aside0.mk ((by rw [hg];exact Nat.ne_of_lt (blk_lt (g:=gb317) (o:=.cells #[.int .i64 t307,.slice Ao40 t308.length co40,.int .i64 t311,.int .i64 t312,.int .i64 t313] 39 (0,0)) (by (with_reducible repeat (first|refine blk_drewN ?_ _|refine blk_drew ?_|refine blk_alloc ?_ _));exact BK317.out)) : gb317 ≠ gb349))
               have n17_:=Aside0.mk ((by rw [hg];exact Nat.ne_of_gt (blk_lt (g:=gb317) (o:=.cells #[.int .i64 t307,.slice Ao40 t308.length co40,.int .i64 t311,.int .i64 t312,.int .i64 t313] 39 (0,0)) (by (with_reducible repeat (first|refine blk_drewN ?_ _|refine blk_drew ?_|refine blk_alloc ?_ _));exact BK317.out)) : gb349 ≠ gb317))
               clear HO_9;clear HO_12;clear HO_301001;clear HO_318001;clear HO335;clear BK282;clear BK300;clear BK317;clear HB;have HO_9:=n0_;have HO_12:=n1_;have HO_301001:=n2_;have HO_318001:=n3_;have HO335:=n4_;have BK282:=n5_;have BK300:=n6_;have BK317:=n7_;have HB:=n8_;have BK349:=n9_;have GW349:=n10_;have GE349:=n11_;have NB282_349:=n12_;have NB349_282:=n13_;have NB300_349:=n14_;have NB349_300:=n15_;have NB317_349:=n16_;have NB349_317:=n17_;clear n0_ n1_ n2_ n3_ n4_ n5_ n6_ n7_ n8_ n9_ n10_ n11_ n12_ n13_ n14_ n15_ n16_ n17_;clear hb hbox hg;refine hK.out _ _ ⟨(blk_cell BK282.out 0).trans rfl,(blk_cell BK282.out 1).trans rfl,(blk_cell BK282.out 2).trans rfl⟩ (fun hHeld => ?_)
               clear hK K;refine norm_ (a':=?_) ?_ ?_
               rotate_left
               ·show Act.put _ (some 16) _ = _
                simp only [Act.put,List.setIfInBounds_toArray,List.set_cons_zero,List.set_cons_succ,i64_w,i32_w]
                rfl
               refine one_ (i:=3) (N:=some 97) #[true,true,true,true,true,false,false,false,false,true,false,false] rfl rfl (one_of HT_.out (by kernel_rfl)) (by decide) (fun K hK => ?_)
               refine goes_ Try.func19 (by kernel_rfl) rfl #[.agg #[.int .i64 a1_0,.int .i64 a1_1,.int .i64 a1_2]] (by rfl) rfl rfl (by (try simp only [List.map_toArray,List.map_cons,List.map_nil]);first|done|rfl|(simp only [List.length_drop,List.length_take];rfl)) ?_
               with_reducible refine (laws_toAddress.calls a1_0 a1_1 a1_2 t336 t337 t338 _ A85.out).mono ?_
               rintro e w99 ⟨rfl,hb⟩
               refine ⟨_,rfl,?_⟩
               have n0_:=Aside0.mk (Kd.R_below (by (with_reducible repeat (first|apply Kd.R_alloc|apply Kd.R_drewN|apply Kd.R_drew));exact HO_9.out) hb)
               have n1_:=Aside0.mk (Kd.R_below (by (with_reducible repeat (first|apply Kd.R_alloc|apply Kd.R_drewN|apply Kd.R_drew));exact HO_12.out) hb)
               have n2_:=Aside0.mk (Kd.R_below (by (with_reducible repeat (first|apply Kd.R_alloc|apply Kd.R_drewN|apply Kd.R_drew));exact HO_301001.out) hb)
               have n3_:=Aside0.mk (Kd.R_below (by (with_reducible repeat (first|apply Kd.R_alloc|apply Kd.R_drewN|apply Kd.R_drew));exact HO_318001.out) hb)
               have n4_:=Aside0.mk (Kd.S_below (by (with_reducible repeat (first|apply Kd.S_alloc|apply Kd.S_drewN|apply Kd.S_drew));exact HO335.out) hb)
               have n5_:=Aside0.mk (blk_below (g:=gb282) (o:=.cells #[.int .i64 a1_0,.int .i64 a1_1,.int .i64 a1_2] 35 (0,0)) (by (with_reducible repeat (first|refine blk_drewN ?_ _|refine blk_drew ?_|refine blk_alloc ?_ _));exact BK282.out) hb)
               have n6_:=Aside0.mk (blk_below (g:=gb300) (o:=.cells #[.int .i64 t290,.slice Ao25 t291.length co25,.int .i64 t294,.int .i64 t295,.int .i64 t296] 39 (0,0)) (by (with_reducible repeat (first|refine blk_drewN ?_ _|refine blk_drew ?_|refine blk_alloc ?_ _));exact BK300.out) hb)
               have n7_:=Aside0.mk (blk_below (g:=gb317) (o:=.cells #[.int .i64 t307,.slice Ao40 t308.length co40,.int .i64 t311,.int .i64 t312,.int .i64 t313] 39 (0,0)) (by (with_reducible repeat (first|refine blk_drewN ?_ _|refine blk_drew ?_|refine blk_alloc ?_ _));exact BK317.out) hb)
               have n8_:=Aside0.mk (blk_below (g:=gb349) (o:=.cells #[.int .i64 0,.slice none 0 0,.int .i64 0,.int .i64 0,.int .i64 0] 39 (0,0)) (by (with_reducible repeat (first|refine blk_drewN ?_ _|refine blk_drew ?_|refine blk_alloc ?_ _));exact BK349.out) hb)
               have n9_:=Aside0.mk (below_step (by repeat (first|(with_reducible first|exact HB.out|apply below_alloc|apply pw_below_drewN|apply below_drew1|refine below_set ?_ GE282.out|refine below_set ?_ GE300.out|refine below_set ?_ GE317.out|refine below_set ?_ GE349.out)|exact HB.out)) hb)
               clear HO_9;clear HO_12;clear HO_301001;clear HO_318001;clear HO335;clear BK282;clear BK300;clear BK317;clear BK349;clear HB;have HO_9:=n0_;have HO_12:=n1_;have HO_301001:=n2_;have HO_318001:=n3_;have HO335:=n4_;have BK282:=n5_;have BK300:=n6_;have BK317:=n7_;have BK349:=n8_;have HB:=n9_;clear n0_ n1_ n2_ n3_ n4_ n5_ n6_ n7_ n8_ n9_;(try clear hb);(try clear hk);obtain ⟨Ao100,co100,eo100⟩:=Kd.S_slice HO335.out
               (first|subst eo100|(injection eo100 with f1_ f2_ f3_;have f4_:=f1_.symm;have f5_:=f3_.symm;clear f1_ f2_ f3_;subst f4_;subst f5_))
               refine hK.out _ _ ⟨(blk_cell BK282.out 0).trans rfl,(blk_cell BK282.out 1).trans rfl,(blk_cell BK282.out 2).trans rfl⟩ (fun hHeld => ?_)
               clear hK K;refine norm_ (a':=?_) ?_ ?_
               rotate_left
               ·show Act.put _ (some 97) _ = _
                simp only [Act.put,List.setIfInBounds_toArray,List.set_cons_zero,List.set_cons_succ,i64_w,i32_w]
                rfl
               refine one_ (i:=5) (N:=some 99) #[true,true,true,true,true,true,false,false,false,true,false,false] rfl rfl (one_of HT_.out (by kernel_rfl)) (by decide) (fun K hK => ?_)
               refine goes_ Try.func37 (by kernel_rfl) rfl #[.slice Ao100 t333.length co100,.agg #[.int .i64 t336,.int .i64 t337,.int .i64 t338],.int .i64 a2] (by rfl) rfl rfl (by (try simp only [List.map_toArray,List.map_cons,List.map_nil]);first|done|rfl|(simp only [List.length_drop,List.length_take];rfl)) ?_
               with_reducible refine (impl_FollowAt.calls kj57 _ _ t333 t336 t337 t338 a2 t339 t340 t343 t344 t345 t346 _ ?side1 ?side2 A86.out).mono ?_
               (case side1 => repeat (first|exact (Kd.S_reads' HO335.out).2.2|(with_reducible refine Kd.C_alloc ?_ _)|(with_reducible refine Kd.C_drewN ?_ _)|(with_reducible refine Kd.C_drew ?_)))
               (case side2 => exact (Kd.S_reads' HO335.out).2.1)
               rintro e w101 ⟨v341,v347,rfl,ho0,ho1,hb⟩
               refine ⟨_,rfl,?_⟩
               have n0_:=Aside0.mk (Kd.R_elder' (by (with_reducible repeat (first|apply Kd.R_alloc|apply Kd.R_drewN|apply Kd.R_drew));exact HO_9.out) (Kd.R_base ho1) hb)
               have n1_:=Aside0.mk (Kd.R_elder' (by (with_reducible repeat (first|apply Kd.R_alloc|apply Kd.R_drewN|apply Kd.R_drew));exact HO_12.out) (Kd.R_base ho1) hb)
               have n2_:=Aside0.mk (Kd.R_elder' (by (with_reducible repeat (first|apply Kd.R_alloc|apply Kd.R_drewN|apply Kd.R_drew));exact HO_301001.out) (Kd.R_base ho0) hb)
               have n3_:=Aside0.mk (Kd.R_elder' (by (with_reducible repeat (first|apply Kd.R_alloc|apply Kd.R_drewN|apply Kd.R_drew));exact HO_318001.out) (Kd.R_base ho0) hb)
               have n4_:=Aside0.mk (Kd.S_elder' (by (with_reducible repeat (first|apply Kd.S_alloc|apply Kd.S_drewN|apply Kd.S_drew));exact HO335.out) (Kd.R_base ho0) hb)
               have n5_:=Aside0.mk (Kd.R_lower (Kd.R_new' (Kd.R_new' ho0 (Kd.R_lt (by (with_reducible repeat (first|apply Kd.R_alloc|apply Kd.R_drewN|apply Kd.R_drew));exact HO_301001.out))) (Kd.R_lt (by (with_reducible repeat (first|apply Kd.R_alloc|apply Kd.R_drewN|apply Kd.R_drew));exact HO_318001.out))) (below_size (by repeat (first|(with_reducible first|exact HB.out|apply below_alloc|apply pw_below_drewN|apply below_drew1|refine below_set ?_ GE282.out|refine below_set ?_ GE300.out|refine below_set ?_ GE317.out|refine below_set ?_ GE349.out)|exact HB.out))))
               have n6_:=Aside0.mk (Kd.R_lower (Kd.R_new' (Kd.R_new' ho1 (Kd.R_lt (by (with_reducible repeat (first|apply Kd.R_alloc|apply Kd.R_drewN|apply Kd.R_drew));exact HO_9.out))) (Kd.R_lt (by (with_reducible repeat (first|apply Kd.R_alloc|apply Kd.R_drewN|apply Kd.R_drew));exact HO_12.out))) (below_size (by repeat (first|(with_reducible first|exact HB.out|apply below_alloc|apply pw_below_drewN|apply below_drew1|refine below_set ?_ GE282.out|refine below_set ?_ GE300.out|refine below_set ?_ GE317.out|refine below_set ?_ GE349.out)|exact HB.out))))
               have n7_:=Aside0.mk (blk_below (g:=gb282) (o:=.cells #[.int .i64 a1_0,.int .i64 a1_1,.int .i64 a1_2] 35 (0,0)) (by (with_reducible repeat (first|refine blk_drewN ?_ _|refine blk_drew ?_|refine blk_alloc ?_ _));exact BK282.out) hb)
               have n8_:=Aside0.mk (blk_below (g:=gb300) (o:=.cells #[.int .i64 t290,.slice Ao25 t291.length co25,.int .i64 t294,.int .i64 t295,.int .i64 t296] 39 (0,0)) (by (with_reducible repeat (first|refine blk_drewN ?_ _|refine blk_drew ?_|refine blk_alloc ?_ _));exact BK300.out) hb)
               have n9_:=Aside0.mk (blk_below (g:=gb317) (o:=.cells #[.int .i64 t307,.slice Ao40 t308.length co40,.int .i64 t311,.int .i64 t312,.int .i64 t313] 39 (0,0)) (by (with_reducible repeat (first|refine blk_drewN ?_ _|refine blk_drew ?_|refine blk_alloc ?_ _));exact BK317.out) hb)
               have n10_:=Aside0.mk (blk_below (g:=gb349) (o:=.cells #[.int .i64 0,.slice none 0 0,.int .i64 0,.int .i64 0,.int .i64 0] 39 (0,0)) (by (with_reducible repeat (first|refine blk_drewN ?_ _|refine blk_drew ?_|refine blk_alloc ?_ _));exact BK349.out) hb)
               have n11_:=Aside0.mk (below_step (by repeat (first|(with_reducible first|exact HB.out|apply below_alloc|apply pw_below_drewN|apply below_drew1|refine below_set ?_ GE282.out|refine below_set ?_ GE300.out|refine below_set ?_ GE317.out|refine below_set ?_ GE349.out)|exact HB.out)) hb)
               clear HO_9;clear HO_12;clear HO_301001;clear HO_318001;clear HO335;clear BK282;clear BK300;clear BK317;clear BK349;clear HB;have HO_9:=n0_;have HO_12:=n1_;have HO_301001:=n2_;have HO_318001:=n3_;have HO335:=n4_;have HO342:=n5_;have HO348:=n6_;have BK282:=n7_;have BK300:=n8_;have BK317:=n9_;have BK349:=n10_;have HB:=n11_;clear n0_ n1_ n2_ n3_ n4_ n5_ n6_ n7_ n8_ n9_ n10_ n11_;(try clear hb);(try clear hk);(try clear ho0);(try clear ho1);refine hK.out _ _ ⟨(blk_cell BK282.out 0).trans rfl,(blk_cell BK282.out 1).trans rfl,(blk_cell BK282.out 2).trans rfl⟩ (fun hHeld => ?_)
               clear hK K;refine norm_ (a':=?_) ?_ ?_
               rotate_left
               ·show Act.put _ (some 99) _ = _
                simp only [Act.put,List.setIfInBounds_toArray,List.set_cons_zero,List.set_cons_succ,i64_w,i32_w]
                rfl
               refine pure_ (i:=6) (N:=some 93) (v:=?_) (a':=?_) #[true,true,true,true,true,true,true,false,false,true,false,false] rfl rfl (any_of HT_.out (by kernel_rfl)) (fun _ _ _ h => h) (Or.inl ⟨by rfl,?_⟩) ?_ ?_
               rotate_left
               ·intro w';go_simp;with_reducible rfl
               rotate_left
               ·simp only [Act.put,List.setIfInBounds_toArray,List.set_cons_zero,List.set_cons_succ,i64_w,i32_w]
                rfl
               refine pure_ (i:=7) (N:=some 100) (v:=?_) (a':=?_) #[true,true,true,true,true,true,true,true,false,true,false,false] rfl rfl (any_of HT_.out (by kernel_rfl)) (fun _ _ _ h => h) (Or.inl ⟨by rfl,?_⟩) ?_ ?_
               rotate_left
               ·intro w';go_simp;with_reducible rfl
               rotate_left
               ·simp only [Act.put,List.setIfInBounds_toArray,List.set_cons_zero,List.set_cons_succ,i64_w,i32_w]
                rfl
               refine pure_ (i:=8) (N:=some 101) (v:=?_) (a':=?_) #[true,true,true,true,true,true,true,true,true,true,false,false] rfl rfl (any_of HT_.out (by kernel_rfl)) (fun _ _ _ h => h) (Or.inl ⟨by rfl,?_⟩) ?_ ?_
               rotate_left
               ·intro w';go_simp;with_reducible rfl
               rotate_left
               ·simp only [Act.put,List.setIfInBounds_toArray,List.set_cons_zero,List.set_cons_succ,i64_w,i32_w]
                rfl
               exact norm_ (by simp only [putAll,Act.put,List.setIfInBounds_toArray,List.set_cons_zero,List.set_cons_succ]) (hCont (.slice Ao100 t333.length co100,v341,v347,gb349) _ ⟨hHeld,(by (with_reducible repeat (first|apply Kd.S_alloc|apply Kd.S_drewN|apply Kd.S_drew));exact Kd.S_mono HO335.out (fun _ hk => ⟨hk.2,⟨hk.1.1.2,hk.1.2⟩⟩)),(by (with_reducible repeat (first|apply Kd.R_alloc|apply Kd.R_drewN|apply Kd.R_drew));exact Kd.R_mono HO342.out (fun _ hk => ⟨hk.1.2,hk.2⟩)),(by (with_reducible repeat (first|apply Kd.R_alloc|apply Kd.R_drewN|apply Kd.R_drew));exact Kd.R_mono HO348.out (fun _ hk => ⟨hk.2,hk.1.2⟩)),(by (with_reducible repeat (first|apply Kd.R_alloc|apply Kd.R_drewN|apply Kd.R_drew));exact Kd.R_mono HO_12.out (fun _ hk => ⟨hk.2,hk.1⟩)),(by (with_reducible repeat (first|apply Kd.R_alloc|apply Kd.R_drewN|apply Kd.R_drew));exact Kd.R_mono HO_301001.out (fun _ hk => ⟨hk.2,hk.1⟩)),(by (with_reducible repeat (first|apply Kd.R_alloc|apply Kd.R_drewN|apply Kd.R_drew));exact Kd.R_mono HO_318001.out (fun _ hk => ⟨hk.2,hk.1⟩)),(by (with_reducible repeat (first|apply Kd.R_alloc|apply Kd.R_drewN|apply Kd.R_drew));exact Kd.R_mono HO_9.out (fun _ hk => ⟨hk.2,hk.1⟩)),(by (with_reducible repeat (first|refine blk_drewN ?_ _|refine blk_drew ?_|refine blk_alloc ?_ _));exact BK282.out),(by (with_reducible repeat (first|refine blk_drewN ?_ _|refine blk_drew ?_|refine blk_alloc ?_ _));exact BK300.out),(by (with_reducible repeat (first|refine blk_drewN ?_ _|refine blk_drew ?_|refine blk_alloc ?_ _));exact BK317.out),(by (with_reducible repeat (first|refine blk_drewN ?_ _|refine blk_drew ?_|refine blk_alloc ?_ _));exact BK349.out),GW349.out,GE349.out,NB282_349.out,NB349_282.out,NB300_349.out,NB349_300.out,NB317_349.out,NB349_317.out,(by repeat (first|(with_reducible first|exact HB.out|apply below_alloc|apply pw_below_drewN|apply below_drew1|refine below_set ?_ GE282.out|refine below_set ?_ GE300.out|refine below_set ?_ GE317.out|refine below_set ?_ GE349.out)|exact HB.out))⟩)
             ·skip;refine box_step ?hg (N:=16) ?hd (cs:=#[.int .i64 0,.slice none 0 0,.int .i64 0,.int .i64 0,.int .i64 0]) (t:=39) ?hr ?_;(case hd => rfl);(case hg => rfl);(case hr => first|(go_simp;done)|(go_simp;rfl))
              intro gb349 hg w97 hbox hb;have n0_:=Aside0.mk (Kd.R_below (by (with_reducible repeat (first|apply Kd.R_alloc|apply Kd.R_drewN|apply Kd.R_drew));exact HO_9.out) hb)
              have n1_:=Aside0.mk (Kd.R_below (by (with_reducible repeat (first|apply Kd.R_alloc|apply Kd.R_drewN|apply Kd.R_drew));exact HO_12.out) hb)
              have n2_:=Aside0.mk (Kd.R_below (by (with_reducible repeat (first|apply Kd.R_alloc|apply Kd.R_drewN|apply Kd.R_drew));exact HO_301001.out) hb)
              have n3_:=Aside0.mk (Kd.R_below (by (with_reducible repeat (first|apply Kd.R_alloc|apply Kd.R_drewN|apply Kd.R_drew));exact HO_318001.out) hb)
              have n4_:=Aside0.mk (blk_below (g:=gb282) (o:=.cells #[.int .i64 a1_0,.int .i64 a1_1,.int .i64 a1_2] 35 (0,0)) (by (with_reducible repeat (first|refine blk_drewN ?_ _|refine blk_drew ?_|refine blk_alloc ?_ _));exact BK282.out) hb)
              have n5_:=Aside0.mk (blk_below (g:=gb300) (o:=.cells #[.int .i64 t290,.slice Ao25 t291.length co25,.int .i64 t294,.int .i64 t295,.int .i64 t296] 39 (0,0)) (by (with_reducible repeat (first|refine blk_drewN ?_ _|refine blk_drew ?_|refine blk_alloc ?_ _));exact BK300.out) hb)
              have n6_:=Aside0.mk (blk_below (g:=gb317) (o:=.cells #[.int .i64 t307,.slice Ao40 t308.length co40,.int .i64 t311,.int .i64 t312,.int .i64 t313] 39 (0,0)) (by (with_reducible repeat (first|refine blk_drewN ?_ _|refine blk_drew ?_|refine blk_alloc ?_ _));exact BK317.out) hb)
              have n7_:=Aside0.mk (below_step (by repeat (first|(with_reducible first|exact HB.out|apply below_alloc|apply pw_below_drewN|apply below_drew1|refine below_set ?_ GE282.out|refine below_set ?_ GE300.out|refine below_set ?_ GE317.out)|exact HB.out)) hb)
              have n8_:=Aside0.mk (hbox)
              have n9_:=Aside0.mk ((by rw [hg];exact (below_size (by repeat (first|(with_reducible first|exact HB.out|apply below_alloc|apply pw_below_drewN|apply below_drew1|refine below_set ?_ GE282.out|refine below_set ?_ GE300.out|refine below_set ?_ GE317.out)|exact HB.out))) : w.heap.size ≤ gb349))
              have n10_:=Aside0.mk ((by rw [hg];exact (below_size (by repeat (first|(with_reducible first|exact HB.out|apply below_alloc|apply pw_below_drewN|apply below_drew1|refine below_set ?_ GE282.out|refine below_set ?_ GE300.out|refine below_set ?_ GE317.out)|exact HB.out))) : w.heap.size ≤ gb349))
              have n11_:=Aside0.mk ((by rw [hg];exact Nat.ne_of_lt (blk_lt (g:=gb282) (o:=.cells #[.int .i64 a1_0,.int .i64 a1_1,.int .i64 a1_2] 35 (0,0)) (by (with_reducible repeat (first|refine blk_drewN ?_ _|refine blk_drew ?_|refine blk_alloc ?_ _));exact BK282.out)) : gb282 ≠ gb349))
              have n12_:=Aside0.mk ((by rw [hg];exact Nat.ne_of_gt (blk_lt (g:=gb282) (o:=.cells #[.int .i64 a1_0,.int .i64 a1_1,.int .i64 a1_2] 35 (0,0)) (by (with_reducible repeat (first|refine blk_drewN ?_ _|refine blk_drew ?_|refine blk_alloc ?_ _));exact BK282.out)) : gb349 ≠ gb282))
              have n13_:=Aside0.mk ((by rw [hg];exact Nat.ne_of_lt (blk_lt (g:=gb300) (o:=.cells #[.int .i64 t290,.slice Ao25 t291.length co25,.int .i64 t294,.int .i64 t295,.int .i64 t296] 39 (0,0)) (by (with_reducible repeat (first|refine blk_drewN ?_ _|refine blk_drew ?_|refine blk_alloc ?_ _));exact BK300.out)) : gb300 ≠ gb349))
              have n14_:=Aside0.mk ((by rw [hg];exact Nat.ne_of_gt (blk_lt (g:=gb300) (o:=.cells #[.int .i64 t290,.slice Ao25 t291.length co25,.int .i64 t294,.int .i64 t295,.int .i64 t296] 39 (0,0)) (by (with_reducible repeat (first|refine blk_drewN ?_ _|refine blk_drew ?_|refine blk_alloc ?_ _));exact BK300.out)) : gb349 ≠ gb300))
              have n15_:=Aside0.mk ((by rw [hg];exact Nat.ne_of_lt (blk_lt (g:=gb317) (o:=.cells #[.int .i64 t307,.slice Ao40 t308.length co40,.int .i64 t311,.int .i64 t312,.int .i64 t313] 39 (0,0)) (by (with_reducible repeat (first|refine blk_drewN ?_ _|refine blk_drew ?_|refine blk_alloc ?_ _));exact BK317.out)) : gb317 ≠ gb349))
              have n16_:=Aside0.mk ((by rw [hg];exact Nat.ne_of_gt (blk_lt (g:=gb317) (o:=.cells #[.int .i64 t307,.slice Ao40 t308.length co40,.int .i64 t311,.int .i64 t312,.int .i64 t313] 39 (0,0)) (by (with_reducible repeat (first|refine blk_drewN ?_ _|refine blk_drew ?_|refine blk_alloc ?_ _));exact BK317.out)) : gb349 ≠ gb317))
              clear HO_9;clear HO_12;clear HO_301001;clear HO_318001;clear BK282;clear BK300;clear BK317;clear HB;have HO_9:=n0_;have HO_12:=n1_;have HO_301001:=n2_;have HO_318001:=n3_;have BK282:=n4_;have BK300:=n5_;have BK317:=n6_;have HB:=n7_;have BK349:=n8_;have GW349:=n9_;have GE349:=n10_;have NB282_349:=n11_;have NB349_282:=n12_;have NB300_349:=n13_;have NB349_300:=n14_;have NB317_349:=n15_;have NB349_317:=n16_;clear n0_ n1_ n2_ n3_ n4_ n5_ n6_ n7_ n8_ n9_ n10_ n11_ n12_ n13_ n14_ n15_ n16_;clear hb hbox hg;refine hK.out _ _ ⟨(blk_cell BK282.out 0).trans rfl,(blk_cell BK282.out 1).trans rfl,(blk_cell BK282.out 2).trans rfl⟩ (fun hHeld => ?_)
              clear hK K;refine norm_ (a':=?_) ?_ ?_
              rotate_left
              ·show Act.put _ (some 16) _ = _
               simp only [Act.put,List.setIfInBounds_toArray,List.set_cons_zero,List.set_cons_succ,i64_w,i32_w]
               rfl
              refine one_ (i:=1) (N:=some 95) #[true,true,true,false,true,false,false,false,false,true,false,false] rfl rfl (one_of HT_.out (by kernel_rfl)) (by decide) (fun K hK => ?_)
              refine goes_ Try.func18 (by kernel_rfl) rfl #[.slice A0 l0.length c0] (by rfl) rfl rfl (by (try simp only [List.map_toArray,List.map_cons,List.map_nil]);first|done|rfl|(simp only [List.length_drop,List.length_take];rfl)) ?_
              with_reducible refine (laws_toVersionS.calls kj57 _ _ l0 t333 _ ?side1 ?side2 A84.out).mono ?_
              (case side1 => repeat (first|exact (Kd.C_below HR0.out HB.out)|(with_reducible refine Kd.C_alloc ?_ _)|(with_reducible refine Kd.C_drewN ?_ _)|(with_reducible refine Kd.C_drew ?_)))
              (case side2 => exact HC0.out)
              rintro e w98 ⟨v334,rfl,ho0,hb⟩
              refine ⟨_,rfl,?_⟩
              have n0_:=Aside0.mk (Kd.R_below (by (with_reducible repeat (first|apply Kd.R_alloc|apply Kd.R_drewN|apply Kd.R_drew));exact HO_9.out) hb)
              have n1_:=Aside0.mk (Kd.R_below (by (with_reducible repeat (first|apply Kd.R_alloc|apply Kd.R_drewN|apply Kd.R_drew));exact HO_12.out) hb)
              have n2_:=Aside0.mk (Kd.R_below (by (with_reducible repeat (first|apply Kd.R_alloc|apply Kd.R_drewN|apply Kd.R_drew));exact HO_301001.out) hb)
              have n3_:=Aside0.mk (Kd.R_below (by (with_reducible repeat (first|apply Kd.R_alloc|apply Kd.R_drewN|apply Kd.R_drew));exact HO_318001.out) hb)
              have n4_:=Aside0.mk (Kd.S_lower (Kd.S_new' (Kd.S_new' ho0 (Kd.R_lt (by (with_reducible repeat (first|apply Kd.R_alloc|apply Kd.R_drewN|apply Kd.R_drew));exact HO_301001.out))) (Kd.R_lt (by (with_reducible repeat (first|apply Kd.R_alloc|apply Kd.R_drewN|apply Kd.R_drew));exact HO_318001.out))) (below_size (by repeat (first|(with_reducible first|exact HB.out|apply below_alloc|apply pw_below_drewN|apply below_drew1|refine below_set ?_ GE282.out|refine below_set ?_ GE300.out|refine below_set ?_ GE317.out|refine below_set ?_ GE349.out)|exact HB.out))))
              have n5_:=Aside0.mk (blk_below (g:=gb282) (o:=.cells #[.int .i64 a1_0,.int .i64 a1_1,.int .i64 a1_2] 35 (0,0)) (by (with_reducible repeat (first|refine blk_drewN ?_ _|refine blk_drew ?_|refine blk_alloc ?_ _));exact BK282.out) hb)
              have n6_:=Aside0.mk (blk_below (g:=gb300) (o:=.cells #[.int .i64 t290,.slice Ao25 t291.length co25,.int .i64 t294,.int .i64 t295,.int .i64 t296] 39 (0,0)) (by (with_reducible repeat (first|refine blk_drewN ?_ _|refine blk_drew ?_|refine blk_alloc ?_ _));exact BK300.out) hb)
              have n7_:=Aside0.mk (blk_below (g:=gb317) (o:=.cells #[.int .i64 t307,.slice Ao40 t308.length co40,.int .i64 t311,.int .i64 t312,.int .i64 t313] 39 (0,0)) (by (with_reducible repeat (first|refine blk_drewN ?_ _|refine blk_drew ?_|refine blk_alloc ?_ _));exact BK317.out) hb)
              have n8_:=Aside0.mk (blk_below (g:=gb349) (o:=.cells #[.int .i64 0,.slice none 0 0,.int .i64 0,.int .i64 0,.int .i64 0] 39 (0,0)) (by (with_reducible repeat (first|refine blk_drewN ?_ _|refine blk_drew ?_|refine blk_alloc ?_ _));exact BK349.out) hb)
              have n9_:=Aside0.mk (below_step (by repeat (first|(with_reducible first|exact HB.out|apply below_alloc|apply pw_below_drewN|apply below_drew1|refine below_set ?_ GE282.out|refine below_set ?_ GE300.out|refine below_set ?_ GE317.out|refine below_set ?_ GE349.out)|exact HB.out)) hb)
              clear HO_9;clear HO_12;clear HO_301001;clear HO_318001;clear BK282;clear BK300;clear BK317;clear BK349;clear HB;have HO_9:=n0_;have HO_12:=n1_;have HO_301001:=n2_;have HO_318001:=n3_;have HO335:=n4_;have BK282:=n5_;have BK300:=n6_;have BK317:=n7_;have BK349:=n8_;have HB:=n9_;clear n0_ n1_ n2_ n3_ n4_ n5_ n6_ n7_ n8_ n9_;(try clear hb);(try clear hk);(try clear ho0);refine hK.out _ _ ⟨(blk_cell BK282.out 0).trans rfl,(blk_cell BK282.out 1).trans rfl,(blk_cell BK282.out 2).trans rfl⟩ (fun hHeld => ?_)
              clear hK K;refine norm_ (a':=?_) ?_ ?_
              rotate_left
              ·show Act.put _ (some 95) _ = _
               simp only [Act.put,List.setIfInBounds_toArray,List.set_cons_zero,List.set_cons_succ,i64_w,i32_w]
               rfl
              refine one_ (i:=3) (N:=some 97) #[true,true,true,true,true,false,false,false,false,true,false,false] rfl rfl (one_of HT_.out (by kernel_rfl)) (by decide) (fun K hK => ?_)
              refine goes_ Try.func19 (by kernel_rfl) rfl #[.agg #[.int .i64 a1_0,.int .i64 a1_1,.int .i64 a1_2]] (by rfl) rfl rfl (by (try simp only [List.map_toArray,List.map_cons,List.map_nil]);first|done|rfl|(simp only [List.length_drop,List.length_take];rfl)) ?_
              with_reducible refine (laws_toAddress.calls a1_0 a1_1 a1_2 t336 t337 t338 _ A85.out).mono ?_
              rintro e w99 ⟨rfl,hb⟩
              refine ⟨_,rfl,?_⟩
              have n0_:=Aside0.mk (Kd.R_below (by (with_reducible repeat (first|apply Kd.R_alloc|apply Kd.R_drewN|apply Kd.R_drew));exact HO_9.out) hb)
              have n1_:=Aside0.mk (Kd.R_below (by (with_reducible repeat (first|apply Kd.R_alloc|apply Kd.R_drewN|apply Kd.R_drew));exact HO_12.out) hb)
              have n2_:=Aside0.mk (Kd.R_below (by (with_reducible repeat (first|apply Kd.R_alloc|apply Kd.R_drewN|apply Kd.R_drew));exact HO_301001.out) hb)
              have n3_:=Aside0.mk (Kd.R_below (by (with_reducible repeat (first|apply Kd.R_alloc|apply Kd.R_drewN|apply Kd.R_drew));exact HO_318001.out) hb)
              have n4_:=Aside0.mk (Kd.S_below (by (with_reducible repeat (first|apply Kd.S_alloc|apply Kd.S_drewN|apply Kd.S_drew));exact HO335.out) hb)
              have n5_:=Aside0.mk (blk_below (g:=gb282) (o:=.cells #[.int .i64 a1_0,.int .i64 a1_1,.int .i64 a1_2] 35 (0,0)) (by (with_reducible repeat (first|refine blk_drewN ?_ _|refine blk_drew ?_|refine blk_alloc ?_ _));exact BK282.out) hb)
              have n6_:=Aside0.mk (blk_below (g:=gb300) (o:=.cells #[.int .i64 t290,.slice Ao25 t291.length co25,.int .i64 t294,.int .i64 t295,.int .i64 t296] 39 (0,0)) (by (with_reducible repeat (first|refine blk_drewN ?_ _|refine blk_drew ?_|refine blk_alloc ?_ _));exact BK300.out) hb)
              have n7_:=Aside0.mk (blk_below (g:=gb317) (o:=.cells #[.int .i64 t307,.slice Ao40 t308.length co40,.int .i64 t311,.int .i64 t312,.int .i64 t313] 39 (0,0)) (by (with_reducible repeat (first|refine blk_drewN ?_ _|refine blk_drew ?_|refine blk_alloc ?_ _));exact BK317.out) hb)
              have n8_:=Aside0.mk (blk_below (g:=gb349) (o:=.cells #[.int .i64 0,.slice none 0 0,.int .i64 0,.int .i64 0,.int .i64 0] 39 (0,0)) (by (with_reducible repeat (first|refine blk_drewN ?_ _|refine blk_drew ?_|refine blk_alloc ?_ _));exact BK349.out) hb)
              have n9_:=Aside0.mk (below_step (by repeat (first|(with_reducible first|exact HB.out|apply below_alloc|apply pw_below_drewN|apply below_drew1|refine below_set ?_ GE282.out|refine below_set ?_ GE300.out|refine below_set ?_ GE317.out|refine below_set ?_ GE349.out)|exact HB.out)) hb)
              clear HO_9;clear HO_12;clear HO_301001;clear HO_318001;clear HO335;clear BK282;clear BK300;clear BK317;clear BK349;clear HB;have HO_9:=n0_;have HO_12:=n1_;have HO_301001:=n2_;have HO_318001:=n3_;have HO335:=n4_;have BK282:=n5_;have BK300:=n6_;have BK317:=n7_;have BK349:=n8_;have HB:=n9_;clear n0_ n1_ n2_ n3_ n4_ n5_ n6_ n7_ n8_ n9_;(try clear hb);(try clear hk);obtain ⟨Ao100,co100,eo100⟩:=Kd.S_slice HO335.out
              (first|subst eo100|(injection eo100 with f1_ f2_ f3_;have f4_:=f1_.symm;have f5_:=f3_.symm;clear f1_ f2_ f3_;subst f4_;subst f5_))
              refine hK.out _ _ ⟨(blk_cell BK282.out 0).trans rfl,(blk_cell BK282.out 1).trans rfl,(blk_cell BK282.out 2).trans rfl⟩ (fun hHeld => ?_)
              clear hK K;refine norm_ (a':=?_) ?_ ?_
              rotate_left
              ·show Act.put _ (some 97) _ = _
               simp only [Act.put,List.setIfInBounds_toArray,List.set_cons_zero,List.set_cons_succ,i64_w,i32_w]
               rfl
              refine one_ (i:=5) (N:=some 99) #[true,true,true,true,true,true,false,false,false,true,false,false] rfl rfl (one_of HT_.out (by kernel_rfl)) (by decide) (fun K hK => ?_)
              refine goes_ Try.func37 (by kernel_rfl) rfl #[.slice Ao100 t333.length co100,.agg #[.int .i64 t336,.int .i64 t337,.int .i64 t338],.int .i64 a2] (by rfl) rfl rfl (by (try simp only [List.map_toArray,List.map_cons,List.map_nil]);first|done|rfl|(simp only [List.length_drop,List.length_take];rfl)) ?_
              with_reducible refine (impl_FollowAt.calls kj57 _ _ t333 t336 t337 t338 a2 t339 t340 t343 t344 t345 t346 _ ?side1 ?side2 A86.out).mono ?_
              (case side1 => repeat (first|exact (Kd.S_reads' HO335.out).2.2|(with_reducible refine Kd.C_alloc ?_ _)|(with_reducible refine Kd.C_drewN ?_ _)|(with_reducible refine Kd.C_drew ?_)))
              (case side2 => exact (Kd.S_reads' HO335.out).2.1)
              rintro e w101 ⟨v341,v347,rfl,ho0,ho1,hb⟩
              refine ⟨_,rfl,?_⟩
              have n0_:=Aside0.mk (Kd.R_elder' (by (with_reducible repeat (first|apply Kd.R_alloc|apply Kd.R_drewN|apply Kd.R_drew));exact HO_9.out) (Kd.R_base ho1) hb)
              have n1_:=Aside0.mk (Kd.R_elder' (by (with_reducible repeat (first|apply Kd.R_alloc|apply Kd.R_drewN|apply Kd.R_drew));exact HO_12.out) (Kd.R_base ho1) hb)
              have n2_:=Aside0.mk (Kd.R_elder' (by (with_reducible repeat (first|apply Kd.R_alloc|apply Kd.R_drewN|apply Kd.R_drew));exact HO_301001.out) (Kd.R_base ho0) hb)
              have n3_:=Aside0.mk (Kd.R_elder' (by (with_reducible repeat (first|apply Kd.R_alloc|apply Kd.R_drewN|apply Kd.R_drew));exact HO_318001.out) (Kd.R_base ho0) hb)
              have n4_:=Aside0.mk (Kd.S_elder' (by (with_reducible repeat (first|apply Kd.S_alloc|apply Kd.S_drewN|apply Kd.S_drew));exact HO335.out) (Kd.R_base ho0) hb)
              have n5_:=Aside0.mk (Kd.R_lower (Kd.R_new' (Kd.R_new' ho0 (Kd.R_lt (by (with_reducible repeat (first|apply Kd.R_alloc|apply Kd.R_drewN|apply Kd.R_drew));exact HO_301001.out))) (Kd.R_lt (by (with_reducible repeat (first|apply Kd.R_alloc|apply Kd.R_drewN|apply Kd.R_drew));exact HO_318001.out))) (below_size (by repeat (first|(with_reducible first|exact HB.out|apply below_alloc|apply pw_below_drewN|apply below_drew1|refine below_set ?_ GE282.out|refine below_set ?_ GE300.out|refine below_set ?_ GE317.out|refine below_set ?_ GE349.out)|exact HB.out))))
              have n6_:=Aside0.mk (Kd.R_lower (Kd.R_new' (Kd.R_new' ho1 (Kd.R_lt (by (with_reducible repeat (first|apply Kd.R_alloc|apply Kd.R_drewN|apply Kd.R_drew));exact HO_9.out))) (Kd.R_lt (by (with_reducible repeat (first|apply Kd.R_alloc|apply Kd.R_drewN|apply Kd.R_drew));exact HO_12.out))) (below_size (by repeat (first|(with_reducible first|exact HB.out|apply below_alloc|apply pw_below_drewN|apply below_drew1|refine below_set ?_ GE282.out|refine below_set ?_ GE300.out|refine below_set ?_ GE317.out|refine below_set ?_ GE349.out)|exact HB.out))))
              have n7_:=Aside0.mk (blk_below (g:=gb282) (o:=.cells #[.int .i64 a1_0,.int .i64 a1_1,.int .i64 a1_2] 35 (0,0)) (by (with_reducible repeat (first|refine blk_drewN ?_ _|refine blk_drew ?_|refine blk_alloc ?_ _));exact BK282.out) hb)
              have n8_:=Aside0.mk (blk_below (g:=gb300) (o:=.cells #[.int .i64 t290,.slice Ao25 t291.length co25,.int .i64 t294,.int .i64 t295,.int .i64 t296] 39 (0,0)) (by (with_reducible repeat (first|refine blk_drewN ?_ _|refine blk_drew ?_|refine blk_alloc ?_ _));exact BK300.out) hb)
              have n9_:=Aside0.mk (blk_below (g:=gb317) (o:=.cells #[.int .i64 t307,.slice Ao40 t308.length co40,.int .i64 t311,.int .i64 t312,.int .i64 t313] 39 (0,0)) (by (with_reducible repeat (first|refine blk_drewN ?_ _|refine blk_drew ?_|refine blk_alloc ?_ _));exact BK317.out) hb)
              have n10_:=Aside0.mk (blk_below (g:=gb349) (o:=.cells #[.int .i64 0,.slice none 0 0,.int .i64 0,.int .i64 0,.int .i64 0] 39 (0,0)) (by (with_reducible repeat (first|refine blk_drewN ?_ _|refine blk_drew ?_|refine blk_alloc ?_ _));exact BK349.out) hb)
              have n11_:=Aside0.mk (below_step (by repeat (first|(with_reducible first|exact HB.out|apply below_alloc|apply pw_below_drewN|apply below_drew1|refine below_set ?_ GE282.out|refine below_set ?_ GE300.out|refine below_set ?_ GE317.out|refine below_set ?_ GE349.out)|exact HB.out)) hb)
              clear HO_9;clear HO_12;clear HO_301001;clear HO_318001;clear HO335;clear BK282;clear BK300;clear BK317;clear BK349;clear HB;have HO_9:=n0_;have HO_12:=n1_;have HO_301001:=n2_;have HO_318001:=n3_;have HO335:=n4_;have HO342:=n5_;have HO348:=n6_;have BK282:=n7_;have BK300:=n8_;have BK317:=n9_;have BK349:=n10_;have HB:=n11_;clear n0_ n1_ n2_ n3_ n4_ n5_ n6_ n7_ n8_ n9_ n10_ n11_;(try clear hb);(try clear hk);(try clear ho0);(try clear ho1);refine hK.out _ _ ⟨(blk_cell BK282.out 0).trans rfl,(blk_cell BK282.out 1).trans rfl,(blk_cell BK282.out 2).trans rfl⟩ (fun hHeld => ?_)
              clear hK K;refine norm_ (a':=?_) ?_ ?_
              rotate_left
              ·show Act.put _ (some 99) _ = _
               simp only [Act.put,List.setIfInBounds_toArray,List.set_cons_zero,List.set_cons_succ,i64_w,i32_w]
               rfl
              refine pure_ (i:=6) (N:=some 93) (v:=?_) (a':=?_) #[true,true,true,true,true,true,true,false,false,true,false,false] rfl rfl (any_of HT_.out (by kernel_rfl)) (fun _ _ _ h => h) (Or.inl ⟨by rfl,?_⟩) ?_ ?_
              rotate_left
              ·intro w';go_simp;with_reducible rfl
              rotate_left
              ·simp only [Act.put,List.setIfInBounds_toArray,List.set_cons_zero,List.set_cons_succ,i64_w,i32_w]
               rfl
              refine pure_ (i:=7) (N:=some 100) (v:=?_) (a':=?_) #[true,true,true,true,true,true,true,true,false,true,false,false] rfl rfl (any_of HT_.out (by kernel_rfl)) (fun _ _ _ h => h) (Or.inl ⟨by rfl,?_⟩) ?_ ?_
              rotate_left
              ·intro w';go_simp;with_reducible rfl
              rotate_left
              ·simp only [Act.put,List.setIfInBounds_toArray,List.set_cons_zero,List.set_cons_succ,i64_w,i32_w]
               rfl
              refine pure_ (i:=8) (N:=some 101) (v:=?_) (a':=?_) #[true,true,true,true,true,true,true,true,true,true,false,false] rfl rfl (any_of HT_.out (by kernel_rfl)) (fun _ _ _ h => h) (Or.inl ⟨by rfl,?_⟩) ?_ ?_
              rotate_left
              ·intro w';go_simp;with_reducible rfl
              rotate_left
              ·simp only [Act.put,List.setIfInBounds_toArray,List.set_cons_zero,List.set_cons_succ,i64_w,i32_w]
               rfl
              exact norm_ (by simp only [putAll,Act.put,List.setIfInBounds_toArray,List.set_cons_zero,List.set_cons_succ]) (hCont (.slice Ao100 t333.length co100,v341,v347,gb349) _ ⟨hHeld,(by (with_reducible repeat (first|apply Kd.S_alloc|apply Kd.S_drewN|apply Kd.S_drew));exact Kd.S_mono HO335.out (fun _ hk => ⟨hk.2,⟨hk.1.1.2,hk.1.2⟩⟩)),(by (with_reducible repeat (first|apply Kd.R_alloc|apply Kd.R_drewN|apply Kd.R_drew));exact Kd.R_mono HO342.out (fun _ hk => ⟨hk.1.2,hk.2⟩)),(by (with_reducible repeat (first|apply Kd.R_alloc|apply Kd.R_drewN|apply Kd.R_drew));exact Kd.R_mono HO348.out (fun _ hk => ⟨hk.2,hk.1.2⟩)),(by (with_reducible repeat (first|apply Kd.R_alloc|apply Kd.R_drewN|apply Kd.R_drew));exact Kd.R_mono HO_12.out (fun _ hk => ⟨hk.2,hk.1⟩)),(by (with_reducible repeat (first|apply Kd.R_alloc|apply Kd.R_drewN|apply Kd.R_drew));exact Kd.R_mono HO_301001.out (fun _ hk => ⟨hk.2,hk.1⟩)),(by (with_reducible repeat (first|apply Kd.R_alloc|apply Kd.R_drewN|apply Kd.R_drew));exact Kd.R_mono HO_318001.out (fun _ hk => ⟨hk.2,hk.1⟩)),(by (with_reducible repeat (first|apply Kd.R_alloc|apply Kd.R_drewN|apply Kd.R_drew));exact Kd.R_mono HO_9.out (fun _ hk => ⟨hk.2,hk.1⟩)),(by (with_reducible repeat (first|refine blk_drewN ?_ _|refine blk_drew ?_|refine blk_alloc ?_ _));exact BK282.out),(by (with_reducible repeat (first|refine blk_drewN ?_ _|refine blk_drew ?_|refine blk_alloc ?_ _));exact BK300.out),(by (with_reducible repeat (first|refine blk_drewN ?_ _|refine blk_drew ?_|refine blk_alloc ?_ _));exact BK317.out),(by (with_reducible repeat (first|refine blk_drewN ?_ _|refine blk_drew ?_|refine blk_alloc ?_ _));exact BK349.out),GW349.out,GE349.out,NB282_349.out,NB349_282.out,NB300_349.out,NB349_300.out,NB317_349.out,NB349_317.out,(by repeat (first|(with_reducible first|exact HB.out|apply below_alloc|apply pw_below_drewN|apply below_drew1|refine below_set ?_ GE282.out|refine below_set ?_ GE300.out|refine below_set ?_ GE317.out|refine below_set ?_ GE349.out)|exact HB.out))⟩)
            rintro ⟨v334,v341,v347,gb349⟩ w102 ⟨hS_,h0_,h1_,h2_,h3_,h4_,h5_,h6_,h7_,h8_,h9_,h10_,h11_,h12_,h13_,h14_,h15_,h16_,h17_,h18_,h19_⟩
            have n0_ : Aside0 (Kd.S k82 82 w102 w.heap.size (fun k_ => some k_ ≠ (v341 : Value).ownBlock ∧ some k_ ≠ (.slice Ao25 t291.length co25 : Value).ownBlock ∧ some k_ ≠ (.slice Ao40 t308.length co40 : Value).ownBlock) v334 t333):=⟨h0_⟩
            have n1_ : Aside0 (Kd.R (Kd.int .i64) 3 w102 w.heap.size (fun k_ => some k_ ≠ (.slice Ao25 t291.length co25 : Value).ownBlock ∧ some k_ ≠ (.slice Ao40 t308.length co40 : Value).ownBlock) v341 t340):=⟨h1_⟩
            have n2_ : Aside0 (Kd.R k37 37 w102 w.heap.size (fun k_ => some k_ ≠ (.slice Ao92 t314.length co92 : Value).ownBlock ∧ some k_ ≠ (v298 : Value).ownBlock) v347 t346):=⟨h2_⟩
            have n3_ : Aside0 (Kd.R k37 37 w102 w.heap.size (fun k_ => some k_ ≠ (v347 : Value).ownBlock ∧ some k_ ≠ (v298 : Value).ownBlock) (.slice Ao92 t314.length co92) t330):=⟨h3_⟩
            have n4_ : Aside0 (Kd.R (Kd.int .i64) 3 w102 w.heap.size (fun k_ => some k_ ≠ (v341 : Value).ownBlock ∧ some k_ ≠ (.slice Ao40 t308.length co40 : Value).ownBlock) (.slice Ao25 t291.length co25) t291):=⟨h4_⟩
            have n5_ : Aside0 (Kd.R (Kd.int .i64) 3 w102 w.heap.size (fun k_ => some k_ ≠ (v341 : Value).ownBlock ∧ some k_ ≠ (.slice Ao25 t291.length co25 : Value).ownBlock) (.slice Ao40 t308.length co40) t328):=⟨h5_⟩
            have n6_ : Aside0 (Kd.R k37 37 w102 w.heap.size (fun k_ => some k_ ≠ (v347 : Value).ownBlock ∧ some k_ ≠ (.slice Ao92 t314.length co92 : Value).ownBlock) v298 t297):=⟨h6_⟩
            have n7_ : Aside0 (w102.heap[gb282]? = some (.cells #[.int .i64 a1_0,.int .i64 a1_1,.int .i64 a1_2] 35 (0,0))):=⟨h7_⟩
            have n8_ : Aside0 (w102.heap[gb300]? = some (.cells #[.int .i64 t290,.slice Ao25 t291.length co25,.int .i64 t294,.int .i64 t295,.int .i64 t296] 39 (0,0))):=⟨h8_⟩
            have n9_ : Aside0 (w102.heap[gb317]? = some (.cells #[.int .i64 t307,.slice Ao40 t308.length co40,.int .i64 t311,.int .i64 t312,.int .i64 t313] 39 (0,0))):=⟨h9_⟩
            have n10_ : Aside0 (w102.heap[gb349]? = some (.cells #[.int .i64 0,.slice none 0 0,.int .i64 0,.int .i64 0,.int .i64 0] 39 (0,0))):=⟨h10_⟩
            have n11_ : Aside0 (w.heap.size ≤ gb349):=⟨h11_⟩
            have n12_ : Aside0 (w.heap.size ≤ gb349):=⟨h12_⟩
            have n13_ : Aside0 (gb282 ≠ gb349):=⟨h13_⟩
            have n14_ : Aside0 (gb349 ≠ gb282):=⟨h14_⟩
            have n15_ : Aside0 (gb300 ≠ gb349):=⟨h15_⟩
            have n16_ : Aside0 (gb349 ≠ gb300):=⟨h16_⟩
            have n17_ : Aside0 (gb317 ≠ gb349):=⟨h17_⟩
            have n18_ : Aside0 (gb349 ≠ gb317):=⟨h18_⟩
            have n19_ : Aside0 (Below w.heap.size w w102):=⟨h19_⟩
            clear HO_9;clear HO_12;clear HO_301001;clear HO_318001;clear BK282;clear BK300;clear BK317;clear HB;clear h0_ h1_ h2_ h3_ h4_ h5_ h6_ h7_ h8_ h9_ h10_ h11_ h12_ h13_ h14_ h15_ h16_ h17_ h18_ h19_;have HO335:=n0_;have HO342:=n1_;have HO348:=n2_;have HO_12:=n3_;have HO_301001:=n4_;have HO_318001:=n5_;have HO_9:=n6_;have BK282:=n7_;have BK300:=n8_;have BK317:=n9_;have BK349:=n10_;have GW349:=n11_;have GE349:=n12_;have NB282_349:=n13_;have NB349_282:=n14_;have NB300_349:=n15_;have NB349_300:=n16_;have NB317_349:=n17_;have NB349_317:=n18_;have HB:=n19_;clear n0_ n1_ n2_ n3_ n4_ n5_ n6_ n7_ n8_ n9_ n10_ n11_ n12_ n13_ n14_ n15_ n16_ n17_ n18_ n19_;have hHeld : w102.cell? ⟨gb282,0,none⟩ = some (.int .i64 a1_0) ∧ w102.cell? ⟨gb282,1,none⟩ = some (.int .i64 a1_1) ∧ w102.cell? ⟨gb282,2,none⟩ = some (.int .i64 a1_2):=hS_
            obtain ⟨Ao104,co104,eo104⟩:=Kd.R_slice HO342.out
            (first|subst eo104|(injection eo104 with f1_ f2_ f3_;have f4_:=f1_.symm;have f5_:=f3_.symm;clear f1_ f2_ f3_;subst f4_;subst f5_))
            refine norm_ (a':=?_) ?_ ?_
            rotate_left
            ·simp only [putAll,Act.put,List.setIfInBounds_toArray,List.set_cons_zero,List.set_cons_succ]
             rfl
            refine one_ (i:=10) (N:=none) #[true,true,true,true,true,true,true,true,true,true,true,false] rfl rfl (one_of HT_.out (by kernel_rfl)) (by decide) (fun K hK => ?_)
            have hs103 : w102.cell? ⟨gb349,0,none⟩ = some (.int .i64 0):=(blk_cell BK349.out 0).trans rfl
            have hfs103:=blk_frozen BK349.out 0
            have hns103_0:=NB282_349.out;have hns103_1:=NB300_349.out;have hns103_2:=NB317_349.out;have hms103_0:=NB349_282.out;have hms103_1:=NB349_300.out;have hms103_2:=NB349_317.out;have hs105 : w102.cell? ⟨gb349,1,none⟩ = some (.slice none 0 0):=(blk_cell BK349.out 1).trans rfl
            have hfs105:=blk_frozen BK349.out 1
            have hns105_0:=NB282_349.out;have hns105_1:=NB300_349.out;have hns105_2:=NB317_349.out;have hms105_0:=NB349_282.out;have hms105_1:=NB349_300.out;have hms105_2:=NB349_317.out;have hs106 : w102.cell? ⟨gb349,2,none⟩ = some (.int .i64 0):=(blk_cell BK349.out 2).trans rfl
            have hfs106:=blk_frozen BK349.out 2
            have hns106_0:=NB282_349.out;have hns106_1:=NB300_349.out;have hns106_2:=NB317_349.out;have hms106_0:=NB349_282.out;have hms106_1:=NB349_300.out;have hms106_2:=NB349_317.out;have hs107 : w102.cell? ⟨gb349,3,none⟩ = some (.int .i64 0):=(blk_cell BK349.out 3).trans rfl
            have hfs107:=blk_frozen BK349.out 3
            have hns107_0:=NB282_349.out;have hns107_1:=NB300_349.out;have hns107_2:=NB317_349.out;have hms107_0:=NB349_282.out;have hms107_1:=NB349_300.out;have hms107_2:=NB349_317.out;have hs108 : w102.cell? ⟨gb349,4,none⟩ = some (.int .i64 0):=(blk_cell BK349.out 4).trans rfl
            have hfs108:=blk_frozen BK349.out 4
            have hns108_0:=NB282_349.out;have hns108_1:=NB300_349.out;have hns108_2:=NB317_349.out;have hms108_0:=NB349_282.out;have hms108_1:=NB349_300.out;have hms108_2:=NB349_317.out;refine skip_ (w1:=?_) (by rfl) rfl ?_ ?_
            rotate_left
            ·go_simp;rfl
            refine hK.out _ _ ⟨((cell_far (p:=⟨gb349,_,none⟩) NB282_349.out _).trans (((cell_far (p:=⟨gb349,_,none⟩) NB282_349.out _).trans (((cell_far (p:=⟨gb349,_,none⟩) NB282_349.out _).trans (((cell_far (p:=⟨gb349,_,none⟩) NB282_349.out _).trans (((cell_far (p:=⟨gb349,_,none⟩) NB282_349.out _).trans (hHeld.1)))))))))),((cell_far (p:=⟨gb349,_,none⟩) NB282_349.out _).trans (((cell_far (p:=⟨gb349,_,none⟩) NB282_349.out _).trans (((cell_far (p:=⟨gb349,_,none⟩) NB282_349.out _).trans (((cell_far (p:=⟨gb349,_,none⟩) NB282_349.out _).trans (((cell_far (p:=⟨gb349,_,none⟩) NB282_349.out _).trans (hHeld.2.1)))))))))),((cell_far (p:=⟨gb349,_,none⟩) NB282_349.out _).trans (((cell_far (p:=⟨gb349,_,none⟩) NB282_349.out _).trans (((cell_far (p:=⟨gb349,_,none⟩) NB282_349.out _).trans (((cell_far (p:=⟨gb349,_,none⟩) NB282_349.out _).trans (((cell_far (p:=⟨gb349,_,none⟩) NB282_349.out _).trans (hHeld.2.2))))))))))⟩ (fun hHeld => ?_)
            clear hK K;refine pure_ (i:=11) (N:=some 17) (v:=?_) (a':=?_) #[true,true,true,true,true,true,true,true,true,true,true,true] rfl rfl (any_of HT_.out (by kernel_rfl)) (fun _ _ _ h => h) (Or.inl ⟨by rfl,?_⟩) ?_ ?_
            rotate_left
            ·intro w';go_simp;with_reducible rfl
            rotate_left
            ·simp only [Act.put,List.setIfInBounds_toArray,List.set_cons_zero,List.set_cons_succ,i64_w,i32_w]
             rfl
            refine done_ (done_of HT_.out (by kernel_rfl)) ?_
            go_upto_region 29 with (fail)
            go_cut [111] (fun v111 wc => ∃ (kq : Nat) (x111_86 : Bool),v111 = .bool x111_86 ∧ Aside0 (laws_FnExactFollowAt.j2 kq t330 t329 x111_86 t307 t328 t311 t312 t313 = some r) ∧ Aside0 (kq ≤ kj57) ∧ Aside0 (Kd.R k37 37 wc w.heap.size (fun _ => True) (.slice Ao92 t314.length co92) t330) ∧ Aside0 (Kd.R (Kd.int .i64) 3 wc w.heap.size (fun k_ => some k_ ≠ ((.slice Ao40 t308.length co40) : Value).ownBlock ∧ some k_ ≠ ((.slice Ao104 t340.length co104) : Value).ownBlock) (.slice Ao25 t291.length co25) t291) ∧ Aside0 (Kd.R (Kd.int .i64) 3 wc w.heap.size (fun k_ => some k_ ≠ ((.slice Ao25 t291.length co25) : Value).ownBlock ∧ some k_ ≠ ((.slice Ao104 t340.length co104) : Value).ownBlock) (.slice Ao40 t308.length co40) t328) ∧ Aside0 (Kd.R (Kd.int .i64) 3 wc w.heap.size (fun k_ => some k_ ≠ ((.slice Ao25 t291.length co25) : Value).ownBlock ∧ some k_ ≠ ((.slice Ao40 t308.length co40) : Value).ownBlock) (.slice Ao104 t340.length co104) t340) ∧ Aside0 (wc.heap[gb282]? = some (.cells #[.int .i64 a1_0,.int .i64 a1_1,.int .i64 a1_2] 35 (0,0))) ∧ Aside0 (wc.heap[gb300]? = some (.cells #[.int .i64 t290,(.slice Ao25 t291.length co25),.int .i64 t294,.int .i64 t295,.int .i64 t296] 39 (0,0))) ∧ Aside0 (wc.heap[gb317]? = some (.cells #[.int .i64 t307,(.slice Ao40 t308.length co40),.int .i64 t311,.int .i64 t312,.int .i64 t313] 39 (0,0))) ∧ Aside0 (wc.heap[gb349]? = some (.cells #[.int .i64 t339,(.slice Ao104 t340.length co104),.int .i64 t343,.int .i64 t344,.int .i64 t345] 39 (0,0))) ∧ Aside0 (Below w.heap.size w wc))
            case first =>
             have H:=HC87.out;clear HC87;replace H:=Option.bind_eq_some_iff.mp H
             obtain ⟨t350,A1090,H⟩:=H;replace H : (if t350 = true then ((laws_eqAddressS.f kj57 t346 t297).bind fun t351 => (laws_FnExactFollowAt.j2 kj57 t330 t329 (!t351) t307 t328 t311 t312 t313)) else (laws_FnExactFollowAt.j2 kj57 t330 t329 true t307 t328 t311 t312 t313)) = some r:=H
             have A109:=Aside0.mk A1090;clear A1090;by_cases c110 : t350 = true
             ·subst c110
              have H1 : ((laws_eqAddressS.f kj57 t346 t297).bind fun t351 => (laws_FnExactFollowAt.j2 kj57 t330 t329 (!t351) t307 t328 t311 t312 t313)) = some r:=by rw [if_pos rfl] at H;exact H
              clear H;have H:=H1;clear H1;replace H:=Option.bind_eq_some_iff.mp H
              obtain ⟨t351,A1110,H⟩:=H;replace H : (laws_FnExactFollowAt.j2 kj57 t330 t329 (!t351) t307 t328 t311 t312 t313) = some r:=H
              have A111:=Aside0.mk A1110;clear A1110;have H':=Aside0.mk H;clear H;have hnb112:=NB349_282.out;have hnc112:=NB282_349.out;have hnb113:=NB349_300.out;have hnc113:=NB300_349.out;have hnb114:=NB349_317.out;have hnc114:=NB317_349.out;have hcz115_0 : w102.cell? ⟨gb349,0,none⟩ = some (.int .i64 0):=(blk_cell BK349.out 0).trans rfl
              have hcz115_1 : w102.cell? ⟨gb349,1,none⟩ = some (.slice none 0 0):=(blk_cell BK349.out 1).trans rfl
              have hcz115_2 : w102.cell? ⟨gb349,2,none⟩ = some (.int .i64 0):=(blk_cell BK349.out 2).trans rfl
              have hcz115_3 : w102.cell? ⟨gb349,3,none⟩ = some (.int .i64 0):=(blk_cell BK349.out 3).trans rfl
              have hcz115_4 : w102.cell? ⟨gb349,4,none⟩ = some (.int .i64 0):=(blk_cell BK349.out 4).trans rfl
              have hfz115_0:=blk_frozen BK349.out 0
              have hfz115_1:=blk_frozen BK349.out 1
              have hfz115_2:=blk_frozen BK349.out 2
              have hfz115_3:=blk_frozen BK349.out 3
              have hfz115_4:=blk_frozen BK349.out 4
              have hnb116:=NB300_282.out;have hnc116:=NB282_300.out;have hnb117:=NB300_317.out;have hnc117:=NB317_300.out;have hcz118_0 : w102.cell? ⟨gb300,0,none⟩ = some (.int .i64 t290):=(blk_cell BK300.out 0).trans rfl
              have hcz118_1 : w102.cell? ⟨gb300,1,none⟩ = some (.slice Ao25 t291.length co25):=(blk_cell BK300.out 1).trans rfl
              have hcz118_2 : w102.cell? ⟨gb300,2,none⟩ = some (.int .i64 t294):=(blk_cell BK300.out 2).trans rfl
              have hcz118_3 : w102.cell? ⟨gb300,3,none⟩ = some (.int .i64 t295):=(blk_cell BK300.out 3).trans rfl
              have hcz118_4 : w102.cell? ⟨gb300,4,none⟩ = some (.int .i64 t296):=(blk_cell BK300.out 4).trans rfl
              have hfz118_0:=blk_frozen BK300.out 0
              have hfz118_1:=blk_frozen BK300.out 1
              have hfz118_2:=blk_frozen BK300.out 2
              have hfz118_3:=blk_frozen BK300.out 3
              have hfz118_4:=blk_frozen BK300.out 4
              go_wp2_with (first|((with_reducible refine gate_callee (f:=21) rfl ?_);refine goesL_ (some 104) rfl rfl Try.func21 (by kernel_rfl) rfl #[.agg #[.int .i64 t339,.slice Ao104 t340.length co104,.int .i64 t343,.int .i64 t344,.int .i64 t345],.agg #[.int .i64 t290,.slice Ao25 t291.length co25,.int .i64 t294,.int .i64 t295,.int .i64 t296]] rfl (by (try simp only [List.map_toArray,List.map_cons,List.map_nil]);first|done|rfl|(simp only [List.length_drop,List.length_take];rfl)) ?_;(with_reducible refine (laws_eqResource.calls kj57 t339 _ _ t340 t343 t344 t345 t290 _ _ t291 t294 t295 t296 true _ ?side1 ?side2 ?side3 ?side4 A109.out).mono ?_);(case side1 => refine (Kd.R_reads' (e:=3) (base:=w.heap.size) (ok:=fun k_ => (some k_ ≠ (.slice Ao25 t291.length co25 : Value).ownBlock ∧ some k_ ≠ (.slice Ao40 t308.length co40 : Value).ownBlock)) (n:=t340.length) (c:=co104) ?_).2.2;exact (by (with_reducible repeat (first|apply Kd.R_alloc|apply Kd.R_drewN|apply Kd.R_drew));exact (Kd.R_mono (Kd.R_far (p:=⟨gb349,4,none⟩) (Kd.R_far (p:=⟨gb349,3,none⟩) (Kd.R_far (p:=⟨gb349,2,none⟩) (Kd.R_far (p:=⟨gb349,1,none⟩) (Kd.R_far (p:=⟨gb349,0,none⟩) (Kd.R_types HO342.out BK349.out (by decide)) (fun _ hk => hk.2) (.int .i64 t339)) (fun _ hk => hk.2) (.slice Ao104 t340.length co104)) (fun _ hk => hk.2) (.int .i64 t343)) (fun _ hk => hk.2) (.int .i64 t344)) (fun _ hk => hk.2) (.int .i64 t345)) (fun _ h_ => h_.1))));(case side2 => exact (Kd.R_reads' HO342.out).2.1);(case side3 => refine (Kd.R_reads' (e:=3) (base:=w.heap.size) (ok:=fun k_ => (some k_ ≠ (.slice Ao104 t340.length co104 : Value).ownBlock ∧ some k_ ≠ (.slice Ao40 t308.length co40 : Value).ownBlock)) (n:=t291.length) (c:=co25) ?_).2.2;exact (by (with_reducible repeat (first|apply Kd.R_alloc|apply Kd.R_drewN|apply Kd.R_drew));exact (Kd.R_mono (Kd.R_far (p:=⟨gb349,4,none⟩) (Kd.R_far (p:=⟨gb349,3,none⟩) (Kd.R_far (p:=⟨gb349,2,none⟩) (Kd.R_far (p:=⟨gb349,1,none⟩) (Kd.R_far (p:=⟨gb349,0,none⟩) (Kd.R_types HO_301001.out BK349.out (by decide)) (fun _ hk => hk.2) (.int .i64 t339)) (fun _ hk => hk.2) (.slice Ao104 t340.length co104)) (fun _ hk => hk.2) (.int .i64 t343)) (fun _ hk => hk.2) (.int .i64 t344)) (fun _ hk => hk.2) (.int .i64 t345)) (fun _ h_ => h_.1))));(case side4 => exact (Kd.R_reads' HO_301001.out).2.1);rintro e w119 ⟨rfl,hb⟩;refine ⟨_,rfl,?_⟩;have n0_:=Aside0.mk (Kd.R_below (by (with_reducible repeat (first|apply Kd.R_alloc|apply Kd.R_drewN|apply Kd.R_drew));exact (Kd.R_mono (Kd.R_far (p:=⟨gb349,4,none⟩) (Kd.R_far (p:=⟨gb349,3,none⟩) (Kd.R_far (p:=⟨gb349,2,none⟩) (Kd.R_far (p:=⟨gb349,1,none⟩) (Kd.R_far (p:=⟨gb349,0,none⟩) (Kd.R_types HO_9.out BK349.out (by decide)) (fun _ hk => hk.2) (.int .i64 t339)) (fun _ hk => hk.2) (.slice Ao104 t340.length co104)) (fun _ hk => hk.2) (.int .i64 t343)) (fun _ hk => hk.2) (.int .i64 t344)) (fun _ hk => hk.2) (.int .i64 t345)) (fun _ h_ => h_.1))) hb);have n1_:=Aside0.mk (Kd.R_below (by (with_reducible repeat (first|apply Kd.R_alloc|apply Kd.R_drewN|apply Kd.R_drew));exact (Kd.R_mono (Kd.R_far (p:=⟨gb349,4,none⟩) (Kd.R_far (p:=⟨gb349,3,none⟩) (Kd.R_far (p:=⟨gb349,2,none⟩) (Kd.R_far (p:=⟨gb349,1,none⟩) (Kd.R_far (p:=⟨gb349,0,none⟩) (Kd.R_types HO_12.out BK349.out (by decide)) (fun _ hk => hk.2) (.int .i64 t339)) (fun _ hk => hk.2) (.slice Ao104 t340.length co104)) (fun _ hk => hk.2) (.int .i64 t343)) (fun _ hk => hk.2) (.int .i64 t344)) (fun _ hk => hk.2) (.int .i64 t345)) (fun _ h_ => h_.1))) hb);have n2_:=Aside0.mk (Kd.R_below (by (with_reducible repeat (first|apply Kd.R_alloc|apply Kd.R_drewN|apply Kd.R_drew));exact (Kd.R_mono (Kd.R_far (p:=⟨gb349,4,none⟩) (Kd.R_far (p:=⟨gb349,3,none⟩) (Kd.R_far (p:=⟨gb349,2,none⟩) (Kd.R_far (p:=⟨gb349,1,none⟩) (Kd.R_far (p:=⟨gb349,0,none⟩) (Kd.R_types HO_301001.out BK349.out (by decide)) (fun _ hk => hk.2) (.int .i64 t339)) (fun _ hk => hk.2) (.slice Ao104 t340.length co104)) (fun _ hk => hk.2) (.int .i64 t343)) (fun _ hk => hk.2) (.int .i64 t344)) (fun _ hk => hk.2) (.int .i64 t345)) (fun _ h_ => h_.1))) hb);have n3_:=Aside0.mk (Kd.R_below (by (with_reducible repeat (first|apply Kd.R_alloc|apply Kd.R_drewN|apply Kd.R_drew));exact (Kd.R_mono (Kd.R_far (p:=⟨gb349,4,none⟩) (Kd.R_far (p:=⟨gb349,3,none⟩) (Kd.R_far (p:=⟨gb349,2,none⟩) (Kd.R_far (p:=⟨gb349,1,none⟩) (Kd.R_far (p:=⟨gb349,0,none⟩) (Kd.R_types HO_318001.out BK349.out (by decide)) (fun _ hk => hk.2) (.int .i64 t339)) (fun _ hk => hk.2) (.slice Ao104 t340.length co104)) (fun _ hk => hk.2) (.int .i64 t343)) (fun _ hk => hk.2) (.int .i64 t344)) (fun _ hk => hk.2) (.int .i64 t345)) (fun _ h_ => h_.1))) hb);have n4_:=Aside0.mk (Kd.S_below (by (with_reducible repeat (first|apply Kd.S_alloc|apply Kd.S_drewN|apply Kd.S_drew));exact (Kd.S_mono (Kd.S_far (p:=⟨gb349,4,none⟩) (Kd.S_far (p:=⟨gb349,3,none⟩) (Kd.S_far (p:=⟨gb349,2,none⟩) (Kd.S_far (p:=⟨gb349,1,none⟩) (Kd.S_far (p:=⟨gb349,0,none⟩) (Kd.S_types HO335.out BK349.out (by decide)) (fun _ hk => hk.2) (.int .i64 t339)) (fun _ hk => hk.2) (.slice Ao104 t340.length co104)) (fun _ hk => hk.2) (.int .i64 t343)) (fun _ hk => hk.2) (.int .i64 t344)) (fun _ hk => hk.2) (.int .i64 t345)) (fun _ h_ => h_.1))) hb);have n5_:=Aside0.mk (Kd.R_below (by (with_reducible repeat (first|apply Kd.R_alloc|apply Kd.R_drewN|apply Kd.R_drew));exact (Kd.R_mono (Kd.R_far (p:=⟨gb349,4,none⟩) (Kd.R_far (p:=⟨gb349,3,none⟩) (Kd.R_far (p:=⟨gb349,2,none⟩) (Kd.R_far (p:=⟨gb349,1,none⟩) (Kd.R_far (p:=⟨gb349,0,none⟩) (Kd.R_types HO342.out BK349.out (by decide)) (fun _ hk => hk.2) (.int .i64 t339)) (fun _ hk => hk.2) (.slice Ao104 t340.length co104)) (fun _ hk => hk.2) (.int .i64 t343)) (fun _ hk => hk.2) (.int .i64 t344)) (fun _ hk => hk.2) (.int .i64 t345)) (fun _ h_ => h_.1))) hb);have n6_:=Aside0.mk (Kd.R_below (by (with_reducible repeat (first|apply Kd.R_alloc|apply Kd.R_drewN|apply Kd.R_drew));exact (Kd.R_mono (Kd.R_far (p:=⟨gb349,4,none⟩) (Kd.R_far (p:=⟨gb349,3,none⟩) (Kd.R_far (p:=⟨gb349,2,none⟩) (Kd.R_far (p:=⟨gb349,1,none⟩) (Kd.R_far (p:=⟨gb349,0,none⟩) (Kd.R_types HO348.out BK349.out (by decide)) (fun _ hk => hk.2) (.int .i64 t339)) (fun _ hk => hk.2) (.slice Ao104 t340.length co104)) (fun _ hk => hk.2) (.int .i64 t343)) (fun _ hk => hk.2) (.int .i64 t344)) (fun _ hk => hk.2) (.int .i64 t345)) (fun _ h_ => h_.1))) hb);have n7_:=Aside0.mk (blk_below (g:=gb282) (o:=.cells #[.int .i64 a1_0,.int .i64 a1_1,.int .i64 a1_2] 35 (0,0)) (by (with_reducible repeat (first|refine blk_drewN ?_ _|refine blk_drew ?_|refine blk_alloc ?_ _));refine blk_far ?_ NB282_349.out _;(with_reducible repeat (first|refine blk_drewN ?_ _|refine blk_drew ?_|refine blk_alloc ?_ _));refine blk_far ?_ NB282_349.out _;(with_reducible repeat (first|refine blk_drewN ?_ _|refine blk_drew ?_|refine blk_alloc ?_ _));refine blk_far ?_ NB282_349.out _;(with_reducible repeat (first|refine blk_drewN ?_ _|refine blk_drew ?_|refine blk_alloc ?_ _));refine blk_far ?_ NB282_349.out _;(with_reducible repeat (first|refine blk_drewN ?_ _|refine blk_drew ?_|refine blk_alloc ?_ _));refine blk_far ?_ NB282_349.out _;(with_reducible repeat (first|refine blk_drewN ?_ _|refine blk_drew ?_|refine blk_alloc ?_ _));exact BK282.out) hb);have n8_:=Aside0.mk (blk_below (g:=gb300) (o:=.cells #[.int .i64 t290,.slice Ao25 t291.length co25,.int .i64 t294,.int .i64 t295,.int .i64 t296] 39 (0,0)) (by (with_reducible repeat (first|refine blk_drewN ?_ _|refine blk_drew ?_|refine blk_alloc ?_ _));refine blk_far ?_ NB300_349.out _;(with_reducible repeat (first|refine blk_drewN ?_ _|refine blk_drew ?_|refine blk_alloc ?_ _));refine blk_far ?_ NB300_349.out _;(with_reducible repeat (first|refine blk_drewN ?_ _|refine blk_drew ?_|refine blk_alloc ?_ _));refine blk_far ?_ NB300_349.out _;(with_reducible repeat (first|refine blk_drewN ?_ _|refine blk_drew ?_|refine blk_alloc ?_ _));refine blk_far ?_ NB300_349.out _;(with_reducible repeat (first|refine blk_drewN ?_ _|refine blk_drew ?_|refine blk_alloc ?_ _));refine blk_far ?_ NB300_349.out _;(with_reducible repeat (first|refine blk_drewN ?_ _|refine blk_drew ?_|refine blk_alloc ?_ _));exact BK300.out) hb);have n9_:=Aside0.mk (blk_below (g:=gb317) (o:=.cells #[.int .i64 t307,.slice Ao40 t308.length co40,.int .i64 t311,.int .i64 t312,.int .i64 t313] 39 (0,0)) (by (with_reducible repeat (first|refine blk_drewN ?_ _|refine blk_drew ?_|refine blk_alloc ?_ _));refine blk_far ?_ NB317_349.out _;(with_reducible repeat (first|refine blk_drewN ?_ _|refine blk_drew ?_|refine blk_alloc ?_ _));refine blk_far ?_ NB317_349.out _;(with_reducible repeat (first|refine blk_drewN ?_ _|refine blk_drew ?_|refine blk_alloc ?_ _));refine blk_far ?_ NB317_349.out _;(with_reducible repeat (first|refine blk_drewN ?_ _|refine blk_drew ?_|refine blk_alloc ?_ _));refine blk_far ?_ NB317_349.out _;(with_reducible repeat (first|refine blk_drewN ?_ _|refine blk_drew ?_|refine blk_alloc ?_ _));refine blk_far ?_ NB317_349.out _;(with_reducible repeat (first|refine blk_drewN ?_ _|refine blk_drew ?_|refine blk_alloc ?_ _));exact BK317.out) hb);have n10_:=Aside0.mk (blk_below (g:=gb349) (o:=.cells #[.int .i64 t339,.slice Ao104 t340.length co104,.int .i64 t343,.int .i64 t344,.int .i64 t345] 39 (0,0)) (by (with_reducible repeat (first|refine blk_drewN ?_ _|refine blk_drew ?_|refine blk_alloc ?_ _));refine blk_put (cs:=#[.int .i64 t339,.slice Ao104 t340.length co104,.int .i64 t343,.int .i64 t344,.int .i64 0]) ?_ 4 _ rfl;(with_reducible repeat (first|refine blk_drewN ?_ _|refine blk_drew ?_|refine blk_alloc ?_ _));refine blk_put (cs:=#[.int .i64 t339,.slice Ao104 t340.length co104,.int .i64 t343,.int .i64 0,.int .i64 0]) ?_ 3 _ rfl;(with_reducible repeat (first|refine blk_drewN ?_ _|refine blk_drew ?_|refine blk_alloc ?_ _));refine blk_put (cs:=#[.int .i64 t339,.slice Ao104 t340.length co104,.int .i64 0,.int .i64 0,.int .i64 0]) ?_ 2 _ rfl;(with_reducible repeat (first|refine blk_drewN ?_ _|refine blk_drew ?_|refine blk_alloc ?_ _));refine blk_put (cs:=#[.int .i64 t339,.slice none 0 0,.int .i64 0,.int .i64 0,.int .i64 0]) ?_ 1 _ rfl;(with_reducible repeat (first|refine blk_drewN ?_ _|refine blk_drew ?_|refine blk_alloc ?_ _));refine blk_put (cs:=#[.int .i64 0,.slice none 0 0,.int .i64 0,.int .i64 0,.int .i64 0]) ?_ 0 _ rfl;(with_reducible repeat (first|refine blk_drewN ?_ _|refine blk_drew ?_|refine blk_alloc ?_ _));exact BK349.out) hb);have n11_:=Aside0.mk (below_step (by repeat (first|(with_reducible first|exact HB.out|apply below_alloc|apply pw_below_drewN|apply below_drew1|refine below_set ?_ GE282.out|refine below_set ?_ GE300.out|refine below_set ?_ GE317.out|refine below_set ?_ GE349.out)|exact HB.out)) hb);clear HO_9;clear HO_12;clear HO_301001;clear HO_318001;clear HO335;clear HO342;clear HO348;clear BK282;clear BK300;clear BK317;clear BK349;clear HB;have HO_9:=n0_;have HO_12:=n1_;have HO_301001:=n2_;have HO_318001:=n3_;have HO335:=n4_;have HO342:=n5_;have HO348:=n6_;have BK282:=n7_;have BK300:=n8_;have BK317:=n9_;have BK349:=n10_;have HB:=n11_;clear n0_ n1_ n2_ n3_ n4_ n5_ n6_ n7_ n8_ n9_ n10_ n11_;(try clear hb);(try clear hk);obtain ⟨Ao120,co120,eo120⟩:=Kd.R_slice HO348.out;subst eo120;obtain ⟨Ao121,co121,eo121⟩:=Kd.R_slice HO_9.out;subst eo121)|(go_at_call 38;(with_reducible refine (laws_eqAddressS.calls kj57 _ _ t346 _ _ t297 t351 _ ?side1 ?side2 ?side3 ?side4 A111.out).mono ?_);(case side1 => repeat (first|exact (Kd.R_reads' HO348.out).2.2|(with_reducible refine Kd.C_alloc ?_ _)|(with_reducible refine Kd.C_drewN ?_ _)|(with_reducible refine Kd.C_drew ?_)));(case side2 => exact (Kd.R_reads' HO348.out).2.1);(case side3 => repeat (first|exact (Kd.R_reads' HO_9.out).2.2|(with_reducible refine Kd.C_alloc ?_ _)|(with_reducible refine Kd.C_drewN ?_ _)|(with_reducible refine Kd.C_drew ?_)));(case side4 => exact (Kd.R_reads' HO_9.out).2.1);rintro e w122 ⟨rfl,hb⟩;have n0_:=Aside0.mk (Kd.R_below (by (with_reducible repeat (first|apply Kd.R_alloc|apply Kd.R_drewN|apply Kd.R_drew));exact HO_9.out) hb);have n1_:=Aside0.mk (Kd.R_below (by (with_reducible repeat (first|apply Kd.R_alloc|apply Kd.R_drewN|apply Kd.R_drew));exact HO_12.out) hb);have n2_:=Aside0.mk (Kd.R_below (by (with_reducible repeat (first|apply Kd.R_alloc|apply Kd.R_drewN|apply Kd.R_drew));exact HO_301001.out) hb);have n3_:=Aside0.mk (Kd.R_below (by (with_reducible repeat (first|apply Kd.R_alloc|apply Kd.R_drewN|apply Kd.R_drew));exact HO_318001.out) hb);have n4_:=Aside0.mk (Kd.S_below (by (with_reducible repeat (first|apply Kd.S_alloc|apply Kd.S_drewN|apply Kd.S_drew));exact HO335.out) hb);have n5_:=Aside0.mk (Kd.R_below (by (with_reducible repeat (first|apply Kd.R_alloc|apply Kd.R_drewN|apply Kd.R_drew));exact HO342.out) hb);have n6_:=Aside0.mk (Kd.R_below (by (with_reducible repeat (first|apply Kd.R_alloc|apply Kd.R_drewN|apply Kd.R_drew));exact HO348.out) hb);have n7_:=Aside0.mk (blk_below (g:=gb282) (o:=.cells #[.int .i64 a1_0,.int .i64 a1_1,.int .i64 a1_2] 35 (0,0)) (by (with_reducible repeat (first|refine blk_drewN ?_ _|refine blk_drew ?_|refine blk_alloc ?_ _));exact BK282.out) hb);have n8_:=Aside0.mk (blk_below (g:=gb300) (o:=.cells #[.int .i64 t290,.slice Ao25 t291.length co25,.int .i64 t294,.int .i64 t295,.int .i64 t296] 39 (0,0)) (by (with_reducible repeat (first|refine blk_drewN ?_ _|refine blk_drew ?_|refine blk_alloc ?_ _));exact BK300.out) hb);have n9_:=Aside0.mk (blk_below (g:=gb317) (o:=.cells #[.int .i64 t307,.slice Ao40 t308.length co40,.int .i64 t311,.int .i64 t312,.int .i64 t313] 39 (0,0)) (by (with_reducible repeat (first|refine blk_drewN ?_ _|refine blk_drew ?_|refine blk_alloc ?_ _));exact BK317.out) hb);have n10_:=Aside0.mk (blk_below (g:=gb349) (o:=.cells #[.int .i64 t339,.slice Ao104 t340.length co104,.int .i64 t343,.int .i64 t344,.int .i64 t345] 39 (0,0)) (by (with_reducible repeat (first|refine blk_drewN ?_ _|refine blk_drew ?_|refine blk_alloc ?_ _));exact BK349.out) hb);have n11_:=Aside0.mk (below_step (by repeat (first|(with_reducible first|exact HB.out|apply below_alloc|apply pw_below_drewN|apply below_drew1|refine below_set ?_ GE282.out|refine below_set ?_ GE300.out|refine below_set ?_ GE317.out|refine below_set ?_ GE349.out)|exact HB.out)) hb);clear HO_9;clear HO_12;clear HO_301001;clear HO_318001;clear HO335;clear HO342;clear HO348;clear BK282;clear BK300;clear BK317;clear BK349;clear HB;have HO_9:=n0_;have HO_12:=n1_;have HO_301001:=n2_;have HO_318001:=n3_;have HO335:=n4_;have HO342:=n5_;have HO348:=n6_;have BK282:=n7_;have BK300:=n8_;have BK317:=n9_;have BK349:=n10_;have HB:=n11_;clear n0_ n1_ n2_ n3_ n4_ n5_ n6_ n7_ n8_ n9_ n10_ n11_;(try clear hb);(try clear hk)))
              go_meet
              case rel => exact ⟨_,(!t351),(by first|rfl|(simp;done)|(simp [*];done)),H',⟨by have:=HJ13.out;have:=HJ57.out;first|omega|exact Nat.le_refl _⟩,⟨by (with_reducible repeat (first|apply Kd.R_alloc|apply Kd.R_drewN|apply Kd.R_drew));exact Kd.R_mono HO_12.out (fun _ hk => trivial)⟩,⟨by (with_reducible repeat (first|apply Kd.R_alloc|apply Kd.R_drewN|apply Kd.R_drew));exact Kd.R_mono HO_301001.out (fun _ hk => ⟨hk.2,hk.1⟩)⟩,⟨by (with_reducible repeat (first|apply Kd.R_alloc|apply Kd.R_drewN|apply Kd.R_drew));exact Kd.R_mono HO_318001.out (fun _ hk => ⟨hk.2,hk.1⟩)⟩,⟨by (with_reducible repeat (first|apply Kd.R_alloc|apply Kd.R_drewN|apply Kd.R_drew));exact HO342.out⟩,⟨by (with_reducible repeat (first|refine blk_drewN ?_ _|refine blk_drew ?_|refine blk_alloc ?_ _));exact BK282.out⟩,⟨by (with_reducible repeat (first|refine blk_drewN ?_ _|refine blk_drew ?_|refine blk_alloc ?_ _));exact BK300.out⟩,⟨by (with_reducible repeat (first|refine blk_drewN ?_ _|refine blk_drew ?_|refine blk_alloc ?_ _));exact BK317.out⟩,⟨by (with_reducible repeat (first|refine blk_drewN ?_ _|refine blk_drew ?_|refine blk_alloc ?_ _));exact BK349.out⟩,⟨by repeat (first|(with_reducible first|exact HB.out|apply below_alloc|apply pw_below_drewN|apply below_drew1|refine below_set ?_ GE282.out|refine below_set ?_ GE300.out|refine below_set ?_ GE317.out|refine below_set ?_ GE349.out)|exact HB.out)⟩⟩
             ·replace c110:=Bool.eq_false_iff.mpr c110
              subst c110
              have H1 : (laws_FnExactFollowAt.j2 kj57 t330 t329 true t307 t328 t311 t312 t313) = some r:=by rw [if_neg (show ¬ (false = true) by decide)] at H;exact H
              clear H;have H:=H1;clear H1;exact absurd H (by rw [HTRUE.out];cases kj57 <;> simp [laws_FnExactFollowAt.j2])
            case rest =>
             clear HC87;try clear c1
             try clear c2
             try clear p2
             try clear c3
             try clear c11
             try clear c18
             try clear c19
             try clear c21
             try clear c37
             try clear c110
             try clear c112
             try clear c113
             try clear c114
             try clear c116
             try clear c117
             try clear hcz115_0
             try clear hcz115_1
             try clear hcz115_2
             try clear hcz115_3
             try clear hcz115_4
             try clear hcz118_0
             try clear hcz118_1
             try clear hcz118_2
             try clear hcz118_3
             try clear hcz118_4
             try clear hfz115_0
             try clear hfz115_1
             try clear hfz115_2
             try clear hfz115_3
             try clear hfz115_4
             try clear hfz118_0
             try clear hfz118_1
             try clear hfz118_2
             try clear hfz118_3
             try clear hfz118_4
             obtain ⟨kq,x111_86,rfl,HA,HJ86,HO_12,HO_301001,HO_318001,HO_350001,BK282,BK300,BK317,BK349,HB⟩:=hcut;have hl12_86:=(Kd.R_reads' HO_12.out).1
             rw [hl12_86] at HO_12
             (try simp only [hl12_86])
             (try simp only [hl12_86] at BK282)
             (try simp only [hl12_86] at BK300)
             (try simp only [hl12_86] at BK317)
             (try simp only [hl12_86] at BK349)
             (try simp only [hl12_86] at HO_301001)
             (try simp only [hl12_86] at HO_318001)
             (try simp only [hl12_86] at HO_350001)
             have hl318001_86:=(Kd.R_reads' HO_318001.out).1
             rw [hl318001_86] at HO_318001
             (try simp only [hl318001_86])
             (try simp only [hl318001_86] at BK282)
             (try simp only [hl318001_86] at BK300)
             (try simp only [hl318001_86] at BK317)
             (try simp only [hl318001_86] at BK349)
             (try simp only [hl318001_86] at HO_12)
             (try simp only [hl318001_86] at HO_301001)
             (try simp only [hl318001_86] at HO_350001)
             cases kq with
            |zero => exact absurd HA.out (by simp [laws_FnExactFollowAt.j2])
            |succ kj86 =>
              have H:=HA.out;clear HA;simp only [laws_FnExactFollowAt.j2] at H
              by_cases c123 : x111_86 = true
              ·subst c123
               have H1 : (some false) = some r:=by rw [if_pos rfl] at H;exact H
               clear H;have H:=H1;clear H1;exact absurd (Option.some.inj H) (by rw [HTRUE.out];decide)
              ·replace c123:=Bool.eq_false_iff.mpr c123
               subst c123
               have H1 : ((laws_heldResource.f kj86 t307 t328 t311 t312 t313 1).bind fun t352 => (if t352 < 0 then (some false) else ((laws_heldAddressS.f kj86 t330 t352).bind fun t353 => (if t353 < 0 then (some false) else (if t353 = t329 then (some true) else (some false)))))) = some r:=by rw [if_neg (show ¬ (false = true) by decide)] at H;exact H
               clear H;have H:=H1;clear H1;replace H:=Option.bind_eq_some_iff.mp H
               obtain ⟨t352,A1240,H⟩:=H;replace H : (if t352 < 0 then (some false) else ((laws_heldAddressS.f kj86 t330 t352).bind fun t353 => (if t353 < 0 then (some false) else (if t353 = t329 then (some true) else (some false))))) = some r:=H
               have A124:=Aside0.mk A1240;clear A1240;by_cases c125 : t352 < 0
               ·rw [if_pos c125] at H
                have c125b0 : decide (t352 < 0) = true:=decide_eq_true c125
                clear c125;exact absurd (Option.some.inj H) (by rw [HTRUE.out];decide)
               ·rw [if_neg c125] at H
                have c125b0 : decide (t352 < 0) = false:=decide_eq_false c125
                clear c125;replace H:=Option.bind_eq_some_iff.mp H
                obtain ⟨t353,A1260,H⟩:=H;replace H : (if t353 < 0 then (some false) else (if t353 = t329 then (some true) else (some false))) = some r:=H
                have A126:=Aside0.mk A1260;clear A1260;by_cases c127 : t353 < 0
                ·rw [if_pos c127] at H
                 have c127b0 : decide (t353 < 0) = true:=decide_eq_true c127
                 clear c127;exact absurd (Option.some.inj H) (by rw [HTRUE.out];decide)
                ·rw [if_neg c127] at H
                 have c127b0 : decide (t353 < 0) = false:=decide_eq_false c127
                 clear c127;by_cases c128 : t353 = t329
                 ·rw [if_pos c128] at H
                  have c128b0 : (t353 == t329) = true:=beq_iff_eq.mpr c128
                  have c128b1 : (t353 != t329) = false:=bne_eq_false_iff_eq.mpr c128
                  clear c128;obtain rfl:=Option.some.inj H
                  have hnb129:=NB317_282.out;have hnc129:=NB282_317.out;have hnb130:=NB317_300.out;have hnc130:=NB300_317.out;have hnb131:=NB317_349.out;have hnc131:=NB349_317.out;have hcz132_0 : wc.cell? ⟨gb317,0,none⟩ = some (.int .i64 t307):=(blk_cell BK317.out 0).trans rfl
                  have hcz132_1 : wc.cell? ⟨gb317,1,none⟩ = some (.slice Ao40 t328.length co40):=(blk_cell BK317.out 1).trans rfl
                  have hcz132_2 : wc.cell? ⟨gb317,2,none⟩ = some (.int .i64 t311):=(blk_cell BK317.out 2).trans rfl
                  have hcz132_3 : wc.cell? ⟨gb317,3,none⟩ = some (.int .i64 t312):=(blk_cell BK317.out 3).trans rfl
                  have hcz132_4 : wc.cell? ⟨gb317,4,none⟩ = some (.int .i64 t313):=(blk_cell BK317.out 4).trans rfl
                  have hfz132_0:=blk_frozen BK317.out 0
                  have hfz132_1:=blk_frozen BK317.out 1
                  have hfz132_2:=blk_frozen BK317.out 2
                  have hfz132_3:=blk_frozen BK317.out 3
                  have hfz132_4:=blk_frozen BK317.out 4
                  go_wp2_with (first|((with_reducible refine gate_callee (f:=25) rfl ?_);refine goesL_ (some 114) rfl rfl Try.func25 (by kernel_rfl) rfl #[.agg #[.int .i64 t307,.slice Ao40 t328.length co40,.int .i64 t311,.int .i64 t312,.int .i64 t313],.int .i64 1] rfl (by (try simp only [List.map_toArray,List.map_cons,List.map_nil]);first|done|rfl|(simp only [List.length_drop,List.length_take];rfl)) ?_;(with_reducible refine (laws_heldResource.calls kj86 t307 _ _ t328 t311 t312 t313 1 t352 _ ?side1 ?side2 A124.out).mono ?_);(case side1 => repeat (first|exact (Kd.R_reads' HO_318001.out).2.2|(with_reducible refine Kd.C_alloc ?_ _)|(with_reducible refine Kd.C_drewN ?_ _)|(with_reducible refine Kd.C_drew ?_)));(case side2 => exact (Kd.R_reads' HO_318001.out).2.1);rintro e w133 ⟨rfl,hb⟩;refine ⟨_,rfl,?_⟩;have n0_:=Aside0.mk (Kd.R_below (by (with_reducible repeat (first|apply Kd.R_alloc|apply Kd.R_drewN|apply Kd.R_drew));exact HO_12.out) hb);have n1_:=Aside0.mk (Kd.R_below (by (with_reducible repeat (first|apply Kd.R_alloc|apply Kd.R_drewN|apply Kd.R_drew));exact HO_301001.out) hb);have n2_:=Aside0.mk (Kd.R_below (by (with_reducible repeat (first|apply Kd.R_alloc|apply Kd.R_drewN|apply Kd.R_drew));exact HO_318001.out) hb);have n3_:=Aside0.mk (Kd.R_below (by (with_reducible repeat (first|apply Kd.R_alloc|apply Kd.R_drewN|apply Kd.R_drew));exact HO_350001.out) hb);have n4_:=Aside0.mk (blk_below (g:=gb282) (o:=.cells #[.int .i64 a1_0,.int .i64 a1_1,.int .i64 a1_2] 35 (0,0)) (by (with_reducible repeat (first|refine blk_drewN ?_ _|refine blk_drew ?_|refine blk_alloc ?_ _));exact BK282.out) hb);have n5_:=Aside0.mk (blk_below (g:=gb300) (o:=.cells #[.int .i64 t290,.slice Ao25 t291.length co25,.int .i64 t294,.int .i64 t295,.int .i64 t296] 39 (0,0)) (by (with_reducible repeat (first|refine blk_drewN ?_ _|refine blk_drew ?_|refine blk_alloc ?_ _));exact BK300.out) hb);have n6_:=Aside0.mk (blk_below (g:=gb317) (o:=.cells #[.int .i64 t307,.slice Ao40 t328.length co40,.int .i64 t311,.int .i64 t312,.int .i64 t313] 39 (0,0)) (by (with_reducible repeat (first|refine blk_drewN ?_ _|refine blk_drew ?_|refine blk_alloc ?_ _));exact BK317.out) hb);have n7_:=Aside0.mk (blk_below (g:=gb349) (o:=.cells #[.int .i64 t339,.slice Ao104 t340.length co104,.int .i64 t343,.int .i64 t344,.int .i64 t345] 39 (0,0)) (by (with_reducible repeat (first|refine blk_drewN ?_ _|refine blk_drew ?_|refine blk_alloc ?_ _));exact BK349.out) hb);have n8_:=Aside0.mk (below_step (by repeat (first|(with_reducible first|exact HB.out|apply below_alloc|apply pw_below_drewN|apply below_drew1|refine below_set ?_ GE282.out|refine below_set ?_ GE300.out|refine below_set ?_ GE317.out|refine below_set ?_ GE349.out)|exact HB.out)) hb);clear HO_12;clear HO_301001;clear HO_318001;clear HO_350001;clear BK282;clear BK300;clear BK317;clear BK349;clear HB;have HO_12:=n0_;have HO_301001:=n1_;have HO_318001:=n2_;have HO_350001:=n3_;have BK282:=n4_;have BK300:=n5_;have BK317:=n6_;have BK349:=n7_;have HB:=n8_;clear n0_ n1_ n2_ n3_ n4_ n5_ n6_ n7_ n8_;(try clear hb);(try clear hk))|((with_reducible refine gate_callee (f:=40) rfl ?_);refine goesL_ (some 119) rfl rfl Try.func40 (by kernel_rfl) rfl #[.slice Ao92 t330.length co92,.int .i64 t352] rfl (by (try simp only [List.map_toArray,List.map_cons,List.map_nil]);first|done|rfl|(simp only [List.length_drop,List.length_take];rfl)) ?_;(with_reducible refine (laws_heldAddressS.calls kj86 _ _ t330 t352 t353 _ ?side1 ?side2 A126.out).mono ?_);(case side1 => repeat (first|exact (Kd.R_reads' HO_12.out).2.2|(with_reducible refine Kd.C_alloc ?_ _)|(with_reducible refine Kd.C_drewN ?_ _)|(with_reducible refine Kd.C_drew ?_)));(case side2 => exact (Kd.R_reads' HO_12.out).2.1);rintro e w' ⟨rfl,⟨nd,rfl⟩⟩;refine ⟨_,rfl,?_⟩))
                  go_ret
                  exact ⟨by first|rfl|(simp [errW_none,errW_some] <;> rfl)|(simp [*,errW_none,errW_some] <;> rfl),by repeat (first|(with_reducible first|exact HB.out|apply below_alloc|apply pw_below_drewN|apply below_drew1|refine below_set ?_ GE282.out|refine below_set ?_ GE300.out|refine below_set ?_ GE317.out|refine below_set ?_ GE349.out)|exact HB.out)⟩
                 ·rw [if_neg c128] at H
                  have c128b0 : (t353 == t329) = false:=beq_eq_false_iff_ne.mpr c128
                  have c128b1 : (t353 != t329) = true:=bne_iff_ne.mpr c128
                  exact absurd (Option.some.inj H) (by rw [HTRUE.out];decide)
           ·rw [if_neg c83] at H
            have c83b0 : (t332 == t329) = false:=beq_eq_false_iff_ne.mpr c83
            have c83b1 : (t332 != t329) = true:=bne_iff_ne.mpr c83
            exact absurd (Option.some.inj H) (by rw [HTRUE.out];decide)
     ·replace c56:=Bool.eq_false_iff.mpr c56
      subst c56
      have H1 : (some false) = some r:=by rw [if_neg (show ¬ (false = true) by decide)] at H;exact H
      clear H;have H:=H1;clear H1;exact absurd (Option.some.inj H) (by rw [HTRUE.out];decide)
end Go.Proofs.Ytgcidlnhgpjdpad.QFnExactFollowAt
