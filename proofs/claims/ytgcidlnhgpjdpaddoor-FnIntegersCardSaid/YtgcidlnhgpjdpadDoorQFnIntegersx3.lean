/- The Go functions that the law FnIntegers comes to, each as a Lean function, with a proof that the call does what it says; written by a program of this session over the print of the kit. No conditions. -/
import Derived.Test.YtgcidlnhgpjdpadDoorQFnIntegersx0
import Derived.Test.YtgcidlnhgpjdpadDoorQFnIntegersx1
import Derived.Test.YtgcidlnhgpjdpadDoorQFnIntegersx2
namespace Go.Proofs.YtgcidlnhgpjdpadDoor.QFnIntegers
open Go.RowKit Go.Proofs.YtgcidlnhgpjdpadDoorW.PrintWords Go.Proofs.YtgcidlnhgpjdpadDoorW.PrintLast Go.Proofs.YtgcidlnhgpjdpadDoorW.PrintMore
attribute [local go_sem] max2_int min2_int max_two min_two max_three min_three max_four min_four   -- for this text's walks alone
set_option linter.unusedVariables false
set_option linter.unusedSimpArgs false

/-! ### laws_FnIntegers: function 6 -/
mutual
def laws_FnIntegers.j0 : Nat → Int → Int → Int → Int → Bool → Option (Bool)
  | 0, _, _, _, _, _ => none
  | k + 1, x9, x10, x11, x12, x65 => if x65 = true then (some false) else (if x10 < 1 then (laws_FnIntegers.j1 k x9 x10 x11 x12 true) else (laws_FnIntegers.j1 k x9 x10 x11 x12 (decide (x10 > 1000000000000))))
def laws_FnIntegers.j1 : Nat → Int → Int → Int → Int → Bool → Option (Bool)
  | 0, _, _, _, _, _ => none
  | k + 1, x9, x10, x11, x12, x71 => if x71 = true then (if x11 = 0 then (some (x12 == 0)) else (some false)) else (if x12 < 0 then (laws_FnIntegers.j2 k x9 x10 x11 true) else (if x12 ≥ x10 then (laws_FnIntegers.j2 k x9 x10 x11 true) else (if x10 = 0 then (none) else (laws_FnIntegers.j2 k x9 x10 x11 ((Int.tmod (wrap64 ((Int.tmod x9 x10) - x12)) x10) != 0)))))
def laws_FnIntegers.j2 : Nat → Int → Int → Int → Bool → Option (Bool)
  | 0, _, _, _, _ => none
  | k + 1, x9, x10, x11, x94 => if x94 = true then (some false) else (if x9 < 0 then (some (x11 == 0)) else (if x9 > 1000000000000 then (some (x11 == 0)) else (if (wrap64 (x11 * x10)) ≥ x9 then (some (decide ((wrap64 ((wrap64 (x11 * x10)) - x9)) < x10))) else (some false))))
end
def laws_FnIntegers.f (k : Nat) (l0 : List Int) : Option (Bool) := (laws_big.f l0).bind fun t221 => (if t221 = true then (some true) else ((spec_DrawParseInt.f k l0).bind fun t222 => ((impl_ParseInt.f k t222).bind fun bt223 => ((spec_DrawFormatInt.f k l0).bind fun t225 => ((impl_FormatInt.f t225).bind fun t226 => ((impl_ParseInt.f k t226).bind fun bt227 => ((spec_DrawCeilDiv.f k l0).bind fun bt229 => ((impl_CeilDiv.f bt229.1 bt229.2).bind fun t231 => ((impl_Mod.f bt229.1 bt229.2).bind fun t232 => (if bt223.2 = true then ((impl_FormatInt.f bt223.1).bind fun t233 => (if t233.toList = t222.toList then (if t225 ≥ 0 then (if (bt227.2 != (decide (t225 ≤ 1000000000000))) = true then (laws_FnIntegers.j0 k bt229.1 bt229.2 t231 t232 true) else (if bt227.2 = true then (laws_FnIntegers.j0 k bt229.1 bt229.2 t231 t232 (bt227.1 != t225)) else (laws_FnIntegers.j0 k bt229.1 bt229.2 t231 t232 false))) else (if (bt227.2 != false) = true then (laws_FnIntegers.j0 k bt229.1 bt229.2 t231 t232 true) else (if bt227.2 = true then (laws_FnIntegers.j0 k bt229.1 bt229.2 t231 t232 (bt227.1 != t225)) else (laws_FnIntegers.j0 k bt229.1 bt229.2 t231 t232 false)))) else (laws_FnIntegers.j0 k bt229.1 bt229.2 t231 t232 true))) else (if t225 ≥ 0 then (if (bt227.2 != (decide (t225 ≤ 1000000000000))) = true then (laws_FnIntegers.j0 k bt229.1 bt229.2 t231 t232 true) else (if bt227.2 = true then (laws_FnIntegers.j0 k bt229.1 bt229.2 t231 t232 (bt227.1 != t225)) else (laws_FnIntegers.j0 k bt229.1 bt229.2 t231 t232 false))) else (if (bt227.2 != false) = true then (laws_FnIntegers.j0 k bt229.1 bt229.2 t231 t232 true) else (if bt227.2 = true then (laws_FnIntegers.j0 k bt229.1 bt229.2 t231 t232 (bt227.1 != t225)) else (laws_FnIntegers.j0 k bt229.1 bt229.2 t231 t232 false))))))))))))))
theorem laws_FnIntegers.mono_l : ∀ k, (∀ y0 y1 y2 y3 y4, LeO (laws_FnIntegers.j0 k y0 y1 y2 y3 y4) (laws_FnIntegers.j0 (k + 1) y0 y1 y2 y3 y4)) ∧ (∀ y0 y1 y2 y3 y4, LeO (laws_FnIntegers.j1 k y0 y1 y2 y3 y4) (laws_FnIntegers.j1 (k + 1) y0 y1 y2 y3 y4)) ∧ (∀ y0 y1 y2 y3, LeO (laws_FnIntegers.j2 k y0 y1 y2 y3) (laws_FnIntegers.j2 (k + 1) y0 y1 y2 y3))
  | 0 => ⟨fun _ _ _ _ _ r h => by simp [laws_FnIntegers.j0] at h, fun _ _ _ _ _ r h => by simp [laws_FnIntegers.j1] at h, fun _ _ _ _ r h => by simp [laws_FnIntegers.j2] at h⟩
  | k + 1 => by
    obtain ⟨ih0, ih1, ih2⟩ := laws_FnIntegers.mono_l k
    refine ⟨?_, ?_, ?_⟩
    · intro y0 y1 y2 y3 y4
      unfold laws_FnIntegers.j0
      repeat' first
      | (with_reducible exact ih0 _ _ _ _ _)
      | (with_reducible exact ih1 _ _ _ _ _)
      | (with_reducible exact ih2 _ _ _ _)
      | (with_reducible exact impl_ParseInt.mono _ _)
      | (with_reducible exact spec_DrawCeilDiv.mono _ _)
      | (with_reducible exact spec_DrawFormatInt.mono _ _)
      | (with_reducible exact spec_DrawParseInt.mono _ _)
      | (with_reducible exact LeO.refl _)
      | (with_reducible exact LeO.none _)
      | (with_reducible refine LeO.ite ?_ ?_)
      | (with_reducible refine LeO.bind ?_ (fun _ => ?_))
      | exact ih0 _ _ _ _ _
      | exact ih1 _ _ _ _ _
      | exact ih2 _ _ _ _
      | exact impl_ParseInt.mono _ _
      | exact spec_DrawCeilDiv.mono _ _
      | exact spec_DrawFormatInt.mono _ _
      | exact spec_DrawParseInt.mono _ _
      | exact LeO.none _
      | refine LeO.ite ?_ ?_
      | refine LeO.bind ?_ (fun _ => ?_)
    · intro y0 y1 y2 y3 y4
      unfold laws_FnIntegers.j1
      repeat' first
      | (with_reducible exact ih0 _ _ _ _ _)
      | (with_reducible exact ih1 _ _ _ _ _)
      | (with_reducible exact ih2 _ _ _ _)
      | (with_reducible exact impl_ParseInt.mono _ _)
      | (with_reducible exact spec_DrawCeilDiv.mono _ _)
      | (with_reducible exact spec_DrawFormatInt.mono _ _)
      | (with_reducible exact spec_DrawParseInt.mono _ _)
      | (with_reducible exact LeO.refl _)
      | (with_reducible exact LeO.none _)
      | (with_reducible refine LeO.ite ?_ ?_)
      | (with_reducible refine LeO.bind ?_ (fun _ => ?_))
      | exact ih0 _ _ _ _ _
      | exact ih1 _ _ _ _ _
      | exact ih2 _ _ _ _
      | exact impl_ParseInt.mono _ _
      | exact spec_DrawCeilDiv.mono _ _
      | exact spec_DrawFormatInt.mono _ _
      | exact spec_DrawParseInt.mono _ _
      | exact LeO.none _
      | refine LeO.ite ?_ ?_
      | refine LeO.bind ?_ (fun _ => ?_)
    · intro y0 y1 y2 y3
      unfold laws_FnIntegers.j2
      repeat' first
      | (with_reducible exact ih0 _ _ _ _ _)
      | (with_reducible exact ih1 _ _ _ _ _)
      | (with_reducible exact ih2 _ _ _ _)
      | (with_reducible exact impl_ParseInt.mono _ _)
      | (with_reducible exact spec_DrawCeilDiv.mono _ _)
      | (with_reducible exact spec_DrawFormatInt.mono _ _)
      | (with_reducible exact spec_DrawParseInt.mono _ _)
      | (with_reducible exact LeO.refl _)
      | (with_reducible exact LeO.none _)
      | (with_reducible refine LeO.ite ?_ ?_)
      | (with_reducible refine LeO.bind ?_ (fun _ => ?_))
      | exact ih0 _ _ _ _ _
      | exact ih1 _ _ _ _ _
      | exact ih2 _ _ _ _
      | exact impl_ParseInt.mono _ _
      | exact spec_DrawCeilDiv.mono _ _
      | exact spec_DrawFormatInt.mono _ _
      | exact spec_DrawParseInt.mono _ _
      | exact LeO.none _
      | refine LeO.ite ?_ ?_
      | refine LeO.bind ?_ (fun _ => ?_)
theorem laws_FnIntegers.mono : ∀ a0 k, LeO (laws_FnIntegers.f k a0) (laws_FnIntegers.f (k + 1) a0) := by
  intro a0 k
  obtain ⟨ih0, ih1, ih2⟩ := laws_FnIntegers.mono_l k
  unfold laws_FnIntegers.f
  repeat' first
      | (with_reducible exact ih0 _ _ _ _ _)
      | (with_reducible exact ih1 _ _ _ _ _)
      | (with_reducible exact ih2 _ _ _ _)
      | (with_reducible exact impl_ParseInt.mono _ _)
      | (with_reducible exact spec_DrawCeilDiv.mono _ _)
      | (with_reducible exact spec_DrawFormatInt.mono _ _)
      | (with_reducible exact spec_DrawParseInt.mono _ _)
      | (with_reducible exact LeO.refl _)
      | (with_reducible exact LeO.none _)
      | (with_reducible refine LeO.ite ?_ ?_)
      | (with_reducible refine LeO.bind ?_ (fun _ => ?_))
      | exact ih0 _ _ _ _ _
      | exact ih1 _ _ _ _ _
      | exact ih2 _ _ _ _
      | exact impl_ParseInt.mono _ _
      | exact spec_DrawCeilDiv.mono _ _
      | exact spec_DrawFormatInt.mono _ _
      | exact spec_DrawParseInt.mono _ _
      | exact LeO.none _
      | refine LeO.ite ?_ ?_
      | refine LeO.bind ?_ (fun _ => ?_)
set_option maxHeartbeats 8000000 in
set_option maxRecDepth 100000 in
theorem laws_FnIntegers.calls (k : Nat) (A0 : Option Addr) (c0 : Nat) (l0 : List Int) (r : Bool) (w : World) (hr0 : Kd.C (Kd.int .u8) w A0 l0.length l0) (hc0 : l0.length ≤ c0) (hT0 : r = true) (hT : TabW w) (h : laws_FnIntegers.f k l0 = some r) :
    Calls Tryd.prog 6 #[.slice A0 l0.length c0] w fun e w' => e = .returned (.bool r) ∧ Below w.heap.size w w' := by
  have HTAB := Aside0.mk hT
  clear hT
  have HR0 := Aside0.mk hr0
  have HC0 := Aside0.mk hc0
  clear hr0 hc0
  have HB := Aside0.mk (Below.refl w.heap.size w)
  have HTRUE := Aside0.mk hT0
  clear hT0
  have H : ((laws_big.f l0).bind fun t221 => (if t221 = true then (some true) else ((spec_DrawParseInt.f k l0).bind fun t222 => ((impl_ParseInt.f k t222).bind fun bt223 => ((spec_DrawFormatInt.f k l0).bind fun t225 => ((impl_FormatInt.f t225).bind fun t226 => ((impl_ParseInt.f k t226).bind fun bt227 => ((spec_DrawCeilDiv.f k l0).bind fun bt229 => ((impl_CeilDiv.f bt229.1 bt229.2).bind fun t231 => ((impl_Mod.f bt229.1 bt229.2).bind fun t232 => (if bt223.2 = true then ((impl_FormatInt.f bt223.1).bind fun t233 => (if t233.toList = t222.toList then (if t225 ≥ 0 then (if (bt227.2 != (decide (t225 ≤ 1000000000000))) = true then (laws_FnIntegers.j0 k bt229.1 bt229.2 t231 t232 true) else (if bt227.2 = true then (laws_FnIntegers.j0 k bt229.1 bt229.2 t231 t232 (bt227.1 != t225)) else (laws_FnIntegers.j0 k bt229.1 bt229.2 t231 t232 false))) else (if (bt227.2 != false) = true then (laws_FnIntegers.j0 k bt229.1 bt229.2 t231 t232 true) else (if bt227.2 = true then (laws_FnIntegers.j0 k bt229.1 bt229.2 t231 t232 (bt227.1 != t225)) else (laws_FnIntegers.j0 k bt229.1 bt229.2 t231 t232 false)))) else (laws_FnIntegers.j0 k bt229.1 bt229.2 t231 t232 true))) else (if t225 ≥ 0 then (if (bt227.2 != (decide (t225 ≤ 1000000000000))) = true then (laws_FnIntegers.j0 k bt229.1 bt229.2 t231 t232 true) else (if bt227.2 = true then (laws_FnIntegers.j0 k bt229.1 bt229.2 t231 t232 (bt227.1 != t225)) else (laws_FnIntegers.j0 k bt229.1 bt229.2 t231 t232 false))) else (if (bt227.2 != false) = true then (laws_FnIntegers.j0 k bt229.1 bt229.2 t231 t232 true) else (if bt227.2 = true then (laws_FnIntegers.j0 k bt229.1 bt229.2 t231 t232 (bt227.1 != t225)) else (laws_FnIntegers.j0 k bt229.1 bt229.2 t231 t232 false))))))))))))))) = some r := h
  clear h
  replace H := Option.bind_eq_some_iff.mp H
  obtain ⟨t221, A20, H⟩ := H
  replace H : (if t221 = true then (some true) else ((spec_DrawParseInt.f k l0).bind fun t222 => ((impl_ParseInt.f k t222).bind fun bt223 => ((spec_DrawFormatInt.f k l0).bind fun t225 => ((impl_FormatInt.f t225).bind fun t226 => ((impl_ParseInt.f k t226).bind fun bt227 => ((spec_DrawCeilDiv.f k l0).bind fun bt229 => ((impl_CeilDiv.f bt229.1 bt229.2).bind fun t231 => ((impl_Mod.f bt229.1 bt229.2).bind fun t232 => (if bt223.2 = true then ((impl_FormatInt.f bt223.1).bind fun t233 => (if t233.toList = t222.toList then (if t225 ≥ 0 then (if (bt227.2 != (decide (t225 ≤ 1000000000000))) = true then (laws_FnIntegers.j0 k bt229.1 bt229.2 t231 t232 true) else (if bt227.2 = true then (laws_FnIntegers.j0 k bt229.1 bt229.2 t231 t232 (bt227.1 != t225)) else (laws_FnIntegers.j0 k bt229.1 bt229.2 t231 t232 false))) else (if (bt227.2 != false) = true then (laws_FnIntegers.j0 k bt229.1 bt229.2 t231 t232 true) else (if bt227.2 = true then (laws_FnIntegers.j0 k bt229.1 bt229.2 t231 t232 (bt227.1 != t225)) else (laws_FnIntegers.j0 k bt229.1 bt229.2 t231 t232 false)))) else (laws_FnIntegers.j0 k bt229.1 bt229.2 t231 t232 true))) else (if t225 ≥ 0 then (if (bt227.2 != (decide (t225 ≤ 1000000000000))) = true then (laws_FnIntegers.j0 k bt229.1 bt229.2 t231 t232 true) else (if bt227.2 = true then (laws_FnIntegers.j0 k bt229.1 bt229.2 t231 t232 (bt227.1 != t225)) else (laws_FnIntegers.j0 k bt229.1 bt229.2 t231 t232 false))) else (if (bt227.2 != false) = true then (laws_FnIntegers.j0 k bt229.1 bt229.2 t231 t232 true) else (if bt227.2 = true then (laws_FnIntegers.j0 k bt229.1 bt229.2 t231 t232 (bt227.1 != t225)) else (laws_FnIntegers.j0 k bt229.1 bt229.2 t231 t232 false)))))))))))))) = some r := H
  have A2 := Aside0.mk A20
  clear A20
  by_cases c3 : t221 = true
  · subst c3
    have H1 : (some true) = some r := by rw [if_pos rfl] at H; exact H
    clear H
    have H := H1
    clear H1
    obtain rfl := Option.some.inj H
    go_enter Tryd.func6, Tryd.ntmps6
    go_wp2_with (first | ((with_reducible refine gate_callee (f := 16) rfl ?_); refine goesL_ (some 14) rfl rfl Tryd.func16 (by kernel_rfl) rfl #[.slice A0 l0.length c0] rfl (by (try simp only [List.map_toArray, List.map_cons, List.map_nil]); first | done | rfl | (simp only [List.length_drop, List.length_take]; rfl)) ?_; (with_reducible refine (laws_big.calls _ _ l0 true _ ?side1 ?side2 A2.out).mono ?_); (case side1 => repeat (first | exact HR0.out | (with_reducible refine Kd.C_alloc ?_ _) | (with_reducible refine Kd.C_drewN ?_ _) | (with_reducible refine Kd.C_drew ?_))); (case side2 => exact HC0.out); rintro e w' ⟨rfl, ⟨nd, rfl⟩⟩; refine ⟨_, rfl, ?_⟩))
    go_ret
    exact ⟨by first | rfl | (simp [errW_none, errW_some] <;> rfl) | (simp [*, errW_none, errW_some] <;> rfl), by repeat (first | (with_reducible first | exact HB.out | apply below_alloc | apply pw_below_drewN | apply below_drew1) | exact HB.out)⟩
  · replace c3 := Bool.eq_false_iff.mpr c3
    subst c3
    have H1 : ((spec_DrawParseInt.f k l0).bind fun t222 => ((impl_ParseInt.f k t222).bind fun bt223 => ((spec_DrawFormatInt.f k l0).bind fun t225 => ((impl_FormatInt.f t225).bind fun t226 => ((impl_ParseInt.f k t226).bind fun bt227 => ((spec_DrawCeilDiv.f k l0).bind fun bt229 => ((impl_CeilDiv.f bt229.1 bt229.2).bind fun t231 => ((impl_Mod.f bt229.1 bt229.2).bind fun t232 => (if bt223.2 = true then ((impl_FormatInt.f bt223.1).bind fun t233 => (if t233.toList = t222.toList then (if t225 ≥ 0 then (if (bt227.2 != (decide (t225 ≤ 1000000000000))) = true then (laws_FnIntegers.j0 k bt229.1 bt229.2 t231 t232 true) else (if bt227.2 = true then (laws_FnIntegers.j0 k bt229.1 bt229.2 t231 t232 (bt227.1 != t225)) else (laws_FnIntegers.j0 k bt229.1 bt229.2 t231 t232 false))) else (if (bt227.2 != false) = true then (laws_FnIntegers.j0 k bt229.1 bt229.2 t231 t232 true) else (if bt227.2 = true then (laws_FnIntegers.j0 k bt229.1 bt229.2 t231 t232 (bt227.1 != t225)) else (laws_FnIntegers.j0 k bt229.1 bt229.2 t231 t232 false)))) else (laws_FnIntegers.j0 k bt229.1 bt229.2 t231 t232 true))) else (if t225 ≥ 0 then (if (bt227.2 != (decide (t225 ≤ 1000000000000))) = true then (laws_FnIntegers.j0 k bt229.1 bt229.2 t231 t232 true) else (if bt227.2 = true then (laws_FnIntegers.j0 k bt229.1 bt229.2 t231 t232 (bt227.1 != t225)) else (laws_FnIntegers.j0 k bt229.1 bt229.2 t231 t232 false))) else (if (bt227.2 != false) = true then (laws_FnIntegers.j0 k bt229.1 bt229.2 t231 t232 true) else (if bt227.2 = true then (laws_FnIntegers.j0 k bt229.1 bt229.2 t231 t232 (bt227.1 != t225)) else (laws_FnIntegers.j0 k bt229.1 bt229.2 t231 t232 false))))))))))))) = some r := by rw [if_neg (show ¬ (false = true) by decide)] at H; exact H
    clear H
    have H := H1
    clear H1
    replace H := Option.bind_eq_some_iff.mp H
    obtain ⟨t222, A40, H⟩ := H
    replace H : ((impl_ParseInt.f k t222).bind fun bt223 => ((spec_DrawFormatInt.f k l0).bind fun t225 => ((impl_FormatInt.f t225).bind fun t226 => ((impl_ParseInt.f k t226).bind fun bt227 => ((spec_DrawCeilDiv.f k l0).bind fun bt229 => ((impl_CeilDiv.f bt229.1 bt229.2).bind fun t231 => ((impl_Mod.f bt229.1 bt229.2).bind fun t232 => (if bt223.2 = true then ((impl_FormatInt.f bt223.1).bind fun t233 => (if t233.toList = t222.toList then (if t225 ≥ 0 then (if (bt227.2 != (decide (t225 ≤ 1000000000000))) = true then (laws_FnIntegers.j0 k bt229.1 bt229.2 t231 t232 true) else (if bt227.2 = true then (laws_FnIntegers.j0 k bt229.1 bt229.2 t231 t232 (bt227.1 != t225)) else (laws_FnIntegers.j0 k bt229.1 bt229.2 t231 t232 false))) else (if (bt227.2 != false) = true then (laws_FnIntegers.j0 k bt229.1 bt229.2 t231 t232 true) else (if bt227.2 = true then (laws_FnIntegers.j0 k bt229.1 bt229.2 t231 t232 (bt227.1 != t225)) else (laws_FnIntegers.j0 k bt229.1 bt229.2 t231 t232 false)))) else (laws_FnIntegers.j0 k bt229.1 bt229.2 t231 t232 true))) else (if t225 ≥ 0 then (if (bt227.2 != (decide (t225 ≤ 1000000000000))) = true then (laws_FnIntegers.j0 k bt229.1 bt229.2 t231 t232 true) else (if bt227.2 = true then (laws_FnIntegers.j0 k bt229.1 bt229.2 t231 t232 (bt227.1 != t225)) else (laws_FnIntegers.j0 k bt229.1 bt229.2 t231 t232 false))) else (if (bt227.2 != false) = true then (laws_FnIntegers.j0 k bt229.1 bt229.2 t231 t232 true) else (if bt227.2 = true then (laws_FnIntegers.j0 k bt229.1 bt229.2 t231 t232 (bt227.1 != t225)) else (laws_FnIntegers.j0 k bt229.1 bt229.2 t231 t232 false)))))))))))) = some r := H
    have A4 := Aside0.mk A40
    clear A40
    replace H := Option.bind_eq_some_iff.mp H
    obtain ⟨⟨t223, t224⟩, A50, H⟩ := H
    replace H : ((spec_DrawFormatInt.f k l0).bind fun t225 => ((impl_FormatInt.f t225).bind fun t226 => ((impl_ParseInt.f k t226).bind fun bt227 => ((spec_DrawCeilDiv.f k l0).bind fun bt229 => ((impl_CeilDiv.f bt229.1 bt229.2).bind fun t231 => ((impl_Mod.f bt229.1 bt229.2).bind fun t232 => (if t224 = true then ((impl_FormatInt.f t223).bind fun t233 => (if t233.toList = t222.toList then (if t225 ≥ 0 then (if (bt227.2 != (decide (t225 ≤ 1000000000000))) = true then (laws_FnIntegers.j0 k bt229.1 bt229.2 t231 t232 true) else (if bt227.2 = true then (laws_FnIntegers.j0 k bt229.1 bt229.2 t231 t232 (bt227.1 != t225)) else (laws_FnIntegers.j0 k bt229.1 bt229.2 t231 t232 false))) else (if (bt227.2 != false) = true then (laws_FnIntegers.j0 k bt229.1 bt229.2 t231 t232 true) else (if bt227.2 = true then (laws_FnIntegers.j0 k bt229.1 bt229.2 t231 t232 (bt227.1 != t225)) else (laws_FnIntegers.j0 k bt229.1 bt229.2 t231 t232 false)))) else (laws_FnIntegers.j0 k bt229.1 bt229.2 t231 t232 true))) else (if t225 ≥ 0 then (if (bt227.2 != (decide (t225 ≤ 1000000000000))) = true then (laws_FnIntegers.j0 k bt229.1 bt229.2 t231 t232 true) else (if bt227.2 = true then (laws_FnIntegers.j0 k bt229.1 bt229.2 t231 t232 (bt227.1 != t225)) else (laws_FnIntegers.j0 k bt229.1 bt229.2 t231 t232 false))) else (if (bt227.2 != false) = true then (laws_FnIntegers.j0 k bt229.1 bt229.2 t231 t232 true) else (if bt227.2 = true then (laws_FnIntegers.j0 k bt229.1 bt229.2 t231 t232 (bt227.1 != t225)) else (laws_FnIntegers.j0 k bt229.1 bt229.2 t231 t232 false))))))))))) = some r := H
    have A5 := Aside0.mk A50
    clear A50
    replace H := Option.bind_eq_some_iff.mp H
    obtain ⟨t225, A60, H⟩ := H
    replace H : ((impl_FormatInt.f t225).bind fun t226 => ((impl_ParseInt.f k t226).bind fun bt227 => ((spec_DrawCeilDiv.f k l0).bind fun bt229 => ((impl_CeilDiv.f bt229.1 bt229.2).bind fun t231 => ((impl_Mod.f bt229.1 bt229.2).bind fun t232 => (if t224 = true then ((impl_FormatInt.f t223).bind fun t233 => (if t233.toList = t222.toList then (if t225 ≥ 0 then (if (bt227.2 != (decide (t225 ≤ 1000000000000))) = true then (laws_FnIntegers.j0 k bt229.1 bt229.2 t231 t232 true) else (if bt227.2 = true then (laws_FnIntegers.j0 k bt229.1 bt229.2 t231 t232 (bt227.1 != t225)) else (laws_FnIntegers.j0 k bt229.1 bt229.2 t231 t232 false))) else (if (bt227.2 != false) = true then (laws_FnIntegers.j0 k bt229.1 bt229.2 t231 t232 true) else (if bt227.2 = true then (laws_FnIntegers.j0 k bt229.1 bt229.2 t231 t232 (bt227.1 != t225)) else (laws_FnIntegers.j0 k bt229.1 bt229.2 t231 t232 false)))) else (laws_FnIntegers.j0 k bt229.1 bt229.2 t231 t232 true))) else (if t225 ≥ 0 then (if (bt227.2 != (decide (t225 ≤ 1000000000000))) = true then (laws_FnIntegers.j0 k bt229.1 bt229.2 t231 t232 true) else (if bt227.2 = true then (laws_FnIntegers.j0 k bt229.1 bt229.2 t231 t232 (bt227.1 != t225)) else (laws_FnIntegers.j0 k bt229.1 bt229.2 t231 t232 false))) else (if (bt227.2 != false) = true then (laws_FnIntegers.j0 k bt229.1 bt229.2 t231 t232 true) else (if bt227.2 = true then (laws_FnIntegers.j0 k bt229.1 bt229.2 t231 t232 (bt227.1 != t225)) else (laws_FnIntegers.j0 k bt229.1 bt229.2 t231 t232 false)))))))))) = some r := H
    have A6 := Aside0.mk A60
    clear A60
    replace H := Option.bind_eq_some_iff.mp H
    obtain ⟨t226, A70, H⟩ := H
    replace H : ((impl_ParseInt.f k t226).bind fun bt227 => ((spec_DrawCeilDiv.f k l0).bind fun bt229 => ((impl_CeilDiv.f bt229.1 bt229.2).bind fun t231 => ((impl_Mod.f bt229.1 bt229.2).bind fun t232 => (if t224 = true then ((impl_FormatInt.f t223).bind fun t233 => (if t233.toList = t222.toList then (if t225 ≥ 0 then (if (bt227.2 != (decide (t225 ≤ 1000000000000))) = true then (laws_FnIntegers.j0 k bt229.1 bt229.2 t231 t232 true) else (if bt227.2 = true then (laws_FnIntegers.j0 k bt229.1 bt229.2 t231 t232 (bt227.1 != t225)) else (laws_FnIntegers.j0 k bt229.1 bt229.2 t231 t232 false))) else (if (bt227.2 != false) = true then (laws_FnIntegers.j0 k bt229.1 bt229.2 t231 t232 true) else (if bt227.2 = true then (laws_FnIntegers.j0 k bt229.1 bt229.2 t231 t232 (bt227.1 != t225)) else (laws_FnIntegers.j0 k bt229.1 bt229.2 t231 t232 false)))) else (laws_FnIntegers.j0 k bt229.1 bt229.2 t231 t232 true))) else (if t225 ≥ 0 then (if (bt227.2 != (decide (t225 ≤ 1000000000000))) = true then (laws_FnIntegers.j0 k bt229.1 bt229.2 t231 t232 true) else (if bt227.2 = true then (laws_FnIntegers.j0 k bt229.1 bt229.2 t231 t232 (bt227.1 != t225)) else (laws_FnIntegers.j0 k bt229.1 bt229.2 t231 t232 false))) else (if (bt227.2 != false) = true then (laws_FnIntegers.j0 k bt229.1 bt229.2 t231 t232 true) else (if bt227.2 = true then (laws_FnIntegers.j0 k bt229.1 bt229.2 t231 t232 (bt227.1 != t225)) else (laws_FnIntegers.j0 k bt229.1 bt229.2 t231 t232 false))))))))) = some r := H
    have A7 := Aside0.mk A70
    clear A70
    replace H := Option.bind_eq_some_iff.mp H
    obtain ⟨⟨t227, t228⟩, A80, H⟩ := H
    replace H : ((spec_DrawCeilDiv.f k l0).bind fun bt229 => ((impl_CeilDiv.f bt229.1 bt229.2).bind fun t231 => ((impl_Mod.f bt229.1 bt229.2).bind fun t232 => (if t224 = true then ((impl_FormatInt.f t223).bind fun t233 => (if t233.toList = t222.toList then (if t225 ≥ 0 then (if (t228 != (decide (t225 ≤ 1000000000000))) = true then (laws_FnIntegers.j0 k bt229.1 bt229.2 t231 t232 true) else (if t228 = true then (laws_FnIntegers.j0 k bt229.1 bt229.2 t231 t232 (t227 != t225)) else (laws_FnIntegers.j0 k bt229.1 bt229.2 t231 t232 false))) else (if (t228 != false) = true then (laws_FnIntegers.j0 k bt229.1 bt229.2 t231 t232 true) else (if t228 = true then (laws_FnIntegers.j0 k bt229.1 bt229.2 t231 t232 (t227 != t225)) else (laws_FnIntegers.j0 k bt229.1 bt229.2 t231 t232 false)))) else (laws_FnIntegers.j0 k bt229.1 bt229.2 t231 t232 true))) else (if t225 ≥ 0 then (if (t228 != (decide (t225 ≤ 1000000000000))) = true then (laws_FnIntegers.j0 k bt229.1 bt229.2 t231 t232 true) else (if t228 = true then (laws_FnIntegers.j0 k bt229.1 bt229.2 t231 t232 (t227 != t225)) else (laws_FnIntegers.j0 k bt229.1 bt229.2 t231 t232 false))) else (if (t228 != false) = true then (laws_FnIntegers.j0 k bt229.1 bt229.2 t231 t232 true) else (if t228 = true then (laws_FnIntegers.j0 k bt229.1 bt229.2 t231 t232 (t227 != t225)) else (laws_FnIntegers.j0 k bt229.1 bt229.2 t231 t232 false)))))))) = some r := H
    have A8 := Aside0.mk A80
    clear A80
    replace H := Option.bind_eq_some_iff.mp H
    obtain ⟨⟨t229, t230⟩, A90, H⟩ := H
    replace H : ((impl_CeilDiv.f t229 t230).bind fun t231 => ((impl_Mod.f t229 t230).bind fun t232 => (if t224 = true then ((impl_FormatInt.f t223).bind fun t233 => (if t233.toList = t222.toList then (if t225 ≥ 0 then (if (t228 != (decide (t225 ≤ 1000000000000))) = true then (laws_FnIntegers.j0 k t229 t230 t231 t232 true) else (if t228 = true then (laws_FnIntegers.j0 k t229 t230 t231 t232 (t227 != t225)) else (laws_FnIntegers.j0 k t229 t230 t231 t232 false))) else (if (t228 != false) = true then (laws_FnIntegers.j0 k t229 t230 t231 t232 true) else (if t228 = true then (laws_FnIntegers.j0 k t229 t230 t231 t232 (t227 != t225)) else (laws_FnIntegers.j0 k t229 t230 t231 t232 false)))) else (laws_FnIntegers.j0 k t229 t230 t231 t232 true))) else (if t225 ≥ 0 then (if (t228 != (decide (t225 ≤ 1000000000000))) = true then (laws_FnIntegers.j0 k t229 t230 t231 t232 true) else (if t228 = true then (laws_FnIntegers.j0 k t229 t230 t231 t232 (t227 != t225)) else (laws_FnIntegers.j0 k t229 t230 t231 t232 false))) else (if (t228 != false) = true then (laws_FnIntegers.j0 k t229 t230 t231 t232 true) else (if t228 = true then (laws_FnIntegers.j0 k t229 t230 t231 t232 (t227 != t225)) else (laws_FnIntegers.j0 k t229 t230 t231 t232 false))))))) = some r := H
    have A9 := Aside0.mk A90
    clear A90
    replace H := Option.bind_eq_some_iff.mp H
    obtain ⟨t231, A100, H⟩ := H
    replace H : ((impl_Mod.f t229 t230).bind fun t232 => (if t224 = true then ((impl_FormatInt.f t223).bind fun t233 => (if t233.toList = t222.toList then (if t225 ≥ 0 then (if (t228 != (decide (t225 ≤ 1000000000000))) = true then (laws_FnIntegers.j0 k t229 t230 t231 t232 true) else (if t228 = true then (laws_FnIntegers.j0 k t229 t230 t231 t232 (t227 != t225)) else (laws_FnIntegers.j0 k t229 t230 t231 t232 false))) else (if (t228 != false) = true then (laws_FnIntegers.j0 k t229 t230 t231 t232 true) else (if t228 = true then (laws_FnIntegers.j0 k t229 t230 t231 t232 (t227 != t225)) else (laws_FnIntegers.j0 k t229 t230 t231 t232 false)))) else (laws_FnIntegers.j0 k t229 t230 t231 t232 true))) else (if t225 ≥ 0 then (if (t228 != (decide (t225 ≤ 1000000000000))) = true then (laws_FnIntegers.j0 k t229 t230 t231 t232 true) else (if t228 = true then (laws_FnIntegers.j0 k t229 t230 t231 t232 (t227 != t225)) else (laws_FnIntegers.j0 k t229 t230 t231 t232 false))) else (if (t228 != false) = true then (laws_FnIntegers.j0 k t229 t230 t231 t232 true) else (if t228 = true then (laws_FnIntegers.j0 k t229 t230 t231 t232 (t227 != t225)) else (laws_FnIntegers.j0 k t229 t230 t231 t232 false)))))) = some r := H
    have A10 := Aside0.mk A100
    clear A100
    replace H := Option.bind_eq_some_iff.mp H
    obtain ⟨t232, A110, H⟩ := H
    replace H : (if t224 = true then ((impl_FormatInt.f t223).bind fun t233 => (if t233.toList = t222.toList then (if t225 ≥ 0 then (if (t228 != (decide (t225 ≤ 1000000000000))) = true then (laws_FnIntegers.j0 k t229 t230 t231 t232 true) else (if t228 = true then (laws_FnIntegers.j0 k t229 t230 t231 t232 (t227 != t225)) else (laws_FnIntegers.j0 k t229 t230 t231 t232 false))) else (if (t228 != false) = true then (laws_FnIntegers.j0 k t229 t230 t231 t232 true) else (if t228 = true then (laws_FnIntegers.j0 k t229 t230 t231 t232 (t227 != t225)) else (laws_FnIntegers.j0 k t229 t230 t231 t232 false)))) else (laws_FnIntegers.j0 k t229 t230 t231 t232 true))) else (if t225 ≥ 0 then (if (t228 != (decide (t225 ≤ 1000000000000))) = true then (laws_FnIntegers.j0 k t229 t230 t231 t232 true) else (if t228 = true then (laws_FnIntegers.j0 k t229 t230 t231 t232 (t227 != t225)) else (laws_FnIntegers.j0 k t229 t230 t231 t232 false))) else (if (t228 != false) = true then (laws_FnIntegers.j0 k t229 t230 t231 t232 true) else (if t228 = true then (laws_FnIntegers.j0 k t229 t230 t231 t232 (t227 != t225)) else (laws_FnIntegers.j0 k t229 t230 t231 t232 false))))) = some r := H
    have A11 := Aside0.mk A110
    clear A110
    have HC12 := Aside0.mk H
    clear H
    go_enter Tryd.func6, Tryd.ntmps6
    go_upto_region 10 with (first | ((with_reducible refine gate_callee (f := 16) rfl ?_); refine goesL_ (some 14) rfl rfl Tryd.func16 (by kernel_rfl) rfl #[.slice A0 l0.length c0] rfl (by (try simp only [List.map_toArray, List.map_cons, List.map_nil]); first | done | rfl | (simp only [List.length_drop, List.length_take]; rfl)) ?_; (with_reducible refine (laws_big.calls _ _ l0 false _ ?side1 ?side2 A2.out).mono ?_); (case side1 => repeat (first | exact HR0.out | (with_reducible refine Kd.C_alloc ?_ _) | (with_reducible refine Kd.C_drewN ?_ _) | (with_reducible refine Kd.C_drew ?_))); (case side2 => exact HC0.out); rintro e w' ⟨rfl, ⟨nd, rfl⟩⟩; refine ⟨_, rfl, ?_⟩) | ((with_reducible refine gate_callee (f := 17) rfl ?_); refine goesL_ (some 16) rfl rfl Tryd.func17 (by kernel_rfl) rfl #[.slice A0 l0.length c0] rfl (by (try simp only [List.map_toArray, List.map_cons, List.map_nil]); first | done | rfl | (simp only [List.length_drop, List.length_take]; rfl)) ?_; (with_reducible refine (spec_DrawParseInt.calls k _ _ l0 t222 _ ?side1 ?side2 A4.out).mono ?_); (case side1 => repeat (first | exact HR0.out | (with_reducible refine Kd.C_alloc ?_ _) | (with_reducible refine Kd.C_drewN ?_ _) | (with_reducible refine Kd.C_drew ?_))); (case side2 => exact HC0.out); rintro e w13 ⟨rfl, hb⟩; refine ⟨_, rfl, ?_⟩; have n0_ := Aside0.mk (below_step (by repeat (first | (with_reducible first | exact HB.out | apply below_alloc | apply pw_below_drewN | apply below_drew1) | exact HB.out)) hb); clear HB; have HB := n0_; clear n0_; (try clear hb); (try clear hb2); (try clear hk); (try clear hi)) | ((with_reducible refine gate_callee (f := 12) rfl ?_); refine goesL_ (some 19) rfl rfl Tryd.func12 (by kernel_rfl) rfl #[.string t222] rfl (by (try simp only [List.map_toArray, List.map_cons, List.map_nil]); first | done | rfl | (simp only [List.length_drop, List.length_take]; rfl)) ?_; (with_reducible refine (impl_ParseInt.calls k t222 t223 t224 _ (tab_on HTAB.out (by repeat (first | (with_reducible first | exact HB.out | apply below_alloc | apply pw_below_drewN | apply below_drew1) | exact HB.out))) A5.out).mono ?_); rintro e w14 ⟨rfl, hb⟩; refine ⟨_, rfl, ?_⟩; have n0_ := Aside0.mk (below_step (by repeat (first | (with_reducible first | exact HB.out | apply below_alloc | apply pw_below_drewN | apply below_drew1) | exact HB.out)) hb); clear HB; have HB := n0_; clear n0_; (try clear hb); (try clear hb2); (try clear hk); (try clear hi)) | ((with_reducible refine gate_callee (f := 18) rfl ?_); refine goesL_ (some 23) rfl rfl Tryd.func18 (by kernel_rfl) rfl #[.slice A0 l0.length c0] rfl (by (try simp only [List.map_toArray, List.map_cons, List.map_nil]); first | done | rfl | (simp only [List.length_drop, List.length_take]; rfl)) ?_; (with_reducible refine (spec_DrawFormatInt.calls k _ _ l0 t225 _ ?side1 ?side2 A6.out).mono ?_); (case side1 => repeat (first | exact (Kd.C_below HR0.out HB.out) | (with_reducible refine Kd.C_alloc ?_ _) | (with_reducible refine Kd.C_drewN ?_ _) | (with_reducible refine Kd.C_drew ?_))); (case side2 => exact HC0.out); rintro e w15 ⟨rfl, hb⟩; refine ⟨_, rfl, ?_⟩; have n0_ := Aside0.mk (below_step (by repeat (first | (with_reducible first | exact HB.out | apply below_alloc | apply pw_below_drewN | apply below_drew1) | exact HB.out)) hb); clear HB; have HB := n0_; clear n0_; (try clear hb); (try clear hb2); (try clear hk); (try clear hi)) | ((with_reducible refine gate_callee (f := 10) rfl ?_); refine goesL_ (some 26) rfl rfl Tryd.func10 (by kernel_rfl) rfl #[.int .i64 t225] rfl (by (try simp only [List.map_toArray, List.map_cons, List.map_nil]); first | done | rfl | (simp only [List.length_drop, List.length_take]; rfl)) ?_; (with_reducible refine (impl_FormatInt.calls t225 t226 _ (tab_on HTAB.out (by repeat (first | (with_reducible first | exact HB.out | apply below_alloc | apply pw_below_drewN | apply below_drew1) | exact HB.out))) A7.out).mono ?_); rintro e w16 ⟨rfl, hb⟩; refine ⟨_, rfl, ?_⟩; have n0_ := Aside0.mk (below_step (by repeat (first | (with_reducible first | exact HB.out | apply below_alloc | apply pw_below_drewN | apply below_drew1) | exact HB.out)) hb); clear HB; have HB := n0_; clear n0_; (try clear hb); (try clear hb2); (try clear hk); (try clear hi)) | ((with_reducible refine gate_callee (f := 12) rfl ?_); refine goesL_ (some 27) rfl rfl Tryd.func12 (by kernel_rfl) rfl #[.string t226] rfl (by (try simp only [List.map_toArray, List.map_cons, List.map_nil]); first | done | rfl | (simp only [List.length_drop, List.length_take]; rfl)) ?_; (with_reducible refine (impl_ParseInt.calls k t226 t227 t228 _ (tab_on HTAB.out (by repeat (first | (with_reducible first | exact HB.out | apply below_alloc | apply pw_below_drewN | apply below_drew1) | exact HB.out))) A8.out).mono ?_); rintro e w17 ⟨rfl, hb⟩; refine ⟨_, rfl, ?_⟩; have n0_ := Aside0.mk (below_step (by repeat (first | (with_reducible first | exact HB.out | apply below_alloc | apply pw_below_drewN | apply below_drew1) | exact HB.out)) hb); clear HB; have HB := n0_; clear n0_; (try clear hb); (try clear hb2); (try clear hk); (try clear hi)) | ((with_reducible refine gate_callee (f := 19) rfl ?_); refine goesL_ (some 32) rfl rfl Tryd.func19 (by kernel_rfl) rfl #[.slice A0 l0.length c0] rfl (by (try simp only [List.map_toArray, List.map_cons, List.map_nil]); first | done | rfl | (simp only [List.length_drop, List.length_take]; rfl)) ?_; (with_reducible refine (spec_DrawCeilDiv.calls k _ _ l0 t229 t230 _ ?side1 ?side2 A9.out).mono ?_); (case side1 => repeat (first | exact (Kd.C_below HR0.out HB.out) | (with_reducible refine Kd.C_alloc ?_ _) | (with_reducible refine Kd.C_drewN ?_ _) | (with_reducible refine Kd.C_drew ?_))); (case side2 => exact HC0.out); rintro e w18 ⟨rfl, hb⟩; refine ⟨_, rfl, ?_⟩; have n0_ := Aside0.mk (below_step (by repeat (first | (with_reducible first | exact HB.out | apply below_alloc | apply pw_below_drewN | apply below_drew1) | exact HB.out)) hb); clear HB; have HB := n0_; clear n0_; (try clear hb); (try clear hb2); (try clear hk); (try clear hi)) | ((with_reducible refine gate_callee (f := 20) rfl ?_); refine goesL_ (some 37) rfl rfl Tryd.func20 (by kernel_rfl) rfl #[.int .i64 t229, .int .i64 t230] rfl (by (try simp only [List.map_toArray, List.map_cons, List.map_nil]); first | done | rfl | (simp only [List.length_drop, List.length_take]; rfl)) ?_; (with_reducible refine (impl_CeilDiv.calls t229 t230 t231 _ A10.out).mono ?_); rintro e w' ⟨rfl, ⟨nd, rfl⟩⟩; refine ⟨_, rfl, ?_⟩) | ((with_reducible refine gate_callee (f := 21) rfl ?_); refine goesL_ (some 40) rfl rfl Tryd.func21 (by kernel_rfl) rfl #[.int .i64 t229, .int .i64 t230] rfl (by (try simp only [List.map_toArray, List.map_cons, List.map_nil]); first | done | rfl | (simp only [List.length_drop, List.length_take]; rfl)) ?_; (with_reducible refine (impl_Mod.calls t229 t230 t232 _ A11.out).mono ?_); rintro e w' ⟨rfl, ⟨nd, rfl⟩⟩; refine ⟨_, rfl, ?_⟩))
    (try simp only [Act.put, List.setIfInBounds_toArray, List.set_cons_zero, List.set_cons_succ])
    go_cut [65] (fun v65 wc => ∃ (kq : Nat) (x65_11 : Bool), v65 = .bool x65_11 ∧ Aside0 (laws_FnIntegers.j0 kq t229 t230 t231 t232 x65_11 = some r) ∧ Aside0 (kq ≤ k) ∧ Aside0 (Below w.heap.size w wc))
    case first =>
      have H := HC12.out
      clear HC12
      by_cases c19 : t224 = true
      · subst c19
        have H1 : ((impl_FormatInt.f t223).bind fun t233 => (if t233.toList = t222.toList then (if t225 ≥ 0 then (if (t228 != (decide (t225 ≤ 1000000000000))) = true then (laws_FnIntegers.j0 k t229 t230 t231 t232 true) else (if t228 = true then (laws_FnIntegers.j0 k t229 t230 t231 t232 (t227 != t225)) else (laws_FnIntegers.j0 k t229 t230 t231 t232 false))) else (if (t228 != false) = true then (laws_FnIntegers.j0 k t229 t230 t231 t232 true) else (if t228 = true then (laws_FnIntegers.j0 k t229 t230 t231 t232 (t227 != t225)) else (laws_FnIntegers.j0 k t229 t230 t231 t232 false)))) else (laws_FnIntegers.j0 k t229 t230 t231 t232 true))) = some r := by rw [if_pos rfl] at H; exact H
        clear H
        have H := H1
        clear H1
        replace H := Option.bind_eq_some_iff.mp H
        obtain ⟨t233, A200, H⟩ := H
        replace H : (if t233.toList = t222.toList then (if t225 ≥ 0 then (if (t228 != (decide (t225 ≤ 1000000000000))) = true then (laws_FnIntegers.j0 k t229 t230 t231 t232 true) else (if t228 = true then (laws_FnIntegers.j0 k t229 t230 t231 t232 (t227 != t225)) else (laws_FnIntegers.j0 k t229 t230 t231 t232 false))) else (if (t228 != false) = true then (laws_FnIntegers.j0 k t229 t230 t231 t232 true) else (if t228 = true then (laws_FnIntegers.j0 k t229 t230 t231 t232 (t227 != t225)) else (laws_FnIntegers.j0 k t229 t230 t231 t232 false)))) else (laws_FnIntegers.j0 k t229 t230 t231 t232 true)) = some r := H
        have A20 := Aside0.mk A200
        clear A200
        by_cases c21 : t233.toList = t222.toList
        · rw [if_pos c21] at H
          have c21b0 : (t233.toList == t222.toList) = true := beq_iff_eq.mpr c21
          have c21b1 : (t233.toList != t222.toList) = false := bne_eq_false_iff_eq.mpr c21
          clear c21
          (first | rw [c21b0] | (simp only [i64_w, i32_w]; rw [c21b0]) | skip)
          by_cases c22 : t225 ≥ 0
          · rw [if_pos c22] at H
            have c22b0 : decide (0 ≤ t225) = true := decide_eq_true c22
            clear c22
            by_cases c23 : (t228 != (decide (t225 ≤ 1000000000000))) = true
            · rw [if_pos c23] at H
              have c23b0 : (t228 != (decide (t225 ≤ 1000000000000))) = true := c23
              (try (have c23b1 : decide (t228 = (decide (t225 ≤ 1000000000000))) = false := by simpa using c23))
              (try (have c23b2 : (t228 == (decide (t225 ≤ 1000000000000))) = false := by simpa using c23))
              (try (have c23b3 : ¬ (t228 = (decide (t225 ≤ 1000000000000))) := by simpa using c23))
              clear c23
              exact absurd H (by rw [HTRUE.out]; cases k <;> simp [laws_FnIntegers.j0])
            · rw [if_neg c23] at H
              have c23b0 : (t228 != (decide (t225 ≤ 1000000000000))) = false := by simpa using c23
              (try (have c23b1 : decide (t228 = (decide (t225 ≤ 1000000000000))) = true := by simpa using c23))
              (try (have c23b2 : (t228 == (decide (t225 ≤ 1000000000000))) = true := by simpa using c23))
              clear c23
              by_cases c24 : t228 = true
              · subst c24
                have H1 : (laws_FnIntegers.j0 k t229 t230 t231 t232 (t227 != t225)) = some r := by rw [if_pos rfl] at H; exact H
                clear H
                have H := H1
                clear H1
                have H' := Aside0.mk H
                clear H
                go_wp2_with (first | (go_at_call 10; (with_reducible refine (impl_FormatInt.calls t223 t233 _ (tab_on HTAB.out (by repeat (first | (with_reducible first | exact HB.out | apply below_alloc | apply pw_below_drewN | apply below_drew1) | exact HB.out))) A20.out).mono ?_); rintro e w25 ⟨rfl, hb⟩; have n0_ := Aside0.mk (below_step (by repeat (first | (with_reducible first | exact HB.out | apply below_alloc | apply pw_below_drewN | apply below_drew1) | exact HB.out)) hb); clear HB; have HB := n0_; clear n0_; (try clear hb); (try clear hb2); (try clear hk); (try clear hi)))
                go_meet
                case rel => exact ⟨_, ((t227 != t225)), (by first | rfl | (simp; done) | (simp [*]; done)), H', ⟨by first | omega | exact Nat.le_refl _⟩, ⟨by repeat (first | (with_reducible first | exact HB.out | apply below_alloc | apply pw_below_drewN | apply below_drew1) | exact HB.out)⟩⟩
              · replace c24 := Bool.eq_false_iff.mpr c24
                subst c24
                have H1 : (laws_FnIntegers.j0 k t229 t230 t231 t232 false) = some r := by rw [if_neg (show ¬ (false = true) by decide)] at H; exact H
                clear H
                have H := H1
                clear H1
                have H' := Aside0.mk H
                clear H
                go_wp2_with (first | (go_at_call 10; (with_reducible refine (impl_FormatInt.calls t223 t233 _ (tab_on HTAB.out (by repeat (first | (with_reducible first | exact HB.out | apply below_alloc | apply pw_below_drewN | apply below_drew1) | exact HB.out))) A20.out).mono ?_); rintro e w26 ⟨rfl, hb⟩; have n0_ := Aside0.mk (below_step (by repeat (first | (with_reducible first | exact HB.out | apply below_alloc | apply pw_below_drewN | apply below_drew1) | exact HB.out)) hb); clear HB; have HB := n0_; clear n0_; (try clear hb); (try clear hb2); (try clear hk); (try clear hi)))
                go_meet
                case rel => exact ⟨_, (false), (by first | rfl | (simp; done) | (simp [*]; done)), H', ⟨by first | omega | exact Nat.le_refl _⟩, ⟨by repeat (first | (with_reducible first | exact HB.out | apply below_alloc | apply pw_below_drewN | apply below_drew1) | exact HB.out)⟩⟩
          · rw [if_neg c22] at H
            have c22b0 : decide (0 ≤ t225) = false := decide_eq_false c22
            clear c22
            by_cases c27 : (t228 != false) = true
            · rw [if_pos c27] at H
              have c27b0 : (t228 != false) = true := c27
              (try (have c27b1 : decide (t228 = false) = false := by simpa using c27))
              (try (have c27b2 : (t228 == false) = false := by simpa using c27))
              (try (have c27b3 : ¬ (t228 = false) := by simpa using c27))
              clear c27
              exact absurd H (by rw [HTRUE.out]; cases k <;> simp [laws_FnIntegers.j0])
            · rw [if_neg c27] at H
              have c27b0 : (t228 != false) = false := by simpa using c27
              (try (have c27b1 : decide (t228 = false) = true := by simpa using c27))
              (try (have c27b2 : (t228 == false) = true := by simpa using c27))
              clear c27
              by_cases c28 : t228 = true
              · subst c28
                have H1 : (laws_FnIntegers.j0 k t229 t230 t231 t232 (t227 != t225)) = some r := by rw [if_pos rfl] at H; exact H
                clear H
                have H := H1
                clear H1
                have H' := Aside0.mk H
                clear H
                go_wp2_with (first | (go_at_call 10; (with_reducible refine (impl_FormatInt.calls t223 t233 _ (tab_on HTAB.out (by repeat (first | (with_reducible first | exact HB.out | apply below_alloc | apply pw_below_drewN | apply below_drew1) | exact HB.out))) A20.out).mono ?_); rintro e w29 ⟨rfl, hb⟩; have n0_ := Aside0.mk (below_step (by repeat (first | (with_reducible first | exact HB.out | apply below_alloc | apply pw_below_drewN | apply below_drew1) | exact HB.out)) hb); clear HB; have HB := n0_; clear n0_; (try clear hb); (try clear hb2); (try clear hk); (try clear hi)))
                go_meet
                case rel => exact ⟨_, ((t227 != t225)), (by first | rfl | (simp; done) | (simp [*]; done)), H', ⟨by first | omega | exact Nat.le_refl _⟩, ⟨by repeat (first | (with_reducible first | exact HB.out | apply below_alloc | apply pw_below_drewN | apply below_drew1) | exact HB.out)⟩⟩
              · replace c28 := Bool.eq_false_iff.mpr c28
                subst c28
                have H1 : (laws_FnIntegers.j0 k t229 t230 t231 t232 false) = some r := by rw [if_neg (show ¬ (false = true) by decide)] at H; exact H
                clear H
                have H := H1
                clear H1
                have H' := Aside0.mk H
                clear H
                go_wp2_with (first | (go_at_call 10; (with_reducible refine (impl_FormatInt.calls t223 t233 _ (tab_on HTAB.out (by repeat (first | (with_reducible first | exact HB.out | apply below_alloc | apply pw_below_drewN | apply below_drew1) | exact HB.out))) A20.out).mono ?_); rintro e w30 ⟨rfl, hb⟩; have n0_ := Aside0.mk (below_step (by repeat (first | (with_reducible first | exact HB.out | apply below_alloc | apply pw_below_drewN | apply below_drew1) | exact HB.out)) hb); clear HB; have HB := n0_; clear n0_; (try clear hb); (try clear hb2); (try clear hk); (try clear hi)))
                go_meet
                case rel => exact ⟨_, (false), (by first | rfl | (simp; done) | (simp [*]; done)), H', ⟨by first | omega | exact Nat.le_refl _⟩, ⟨by repeat (first | (with_reducible first | exact HB.out | apply below_alloc | apply pw_below_drewN | apply below_drew1) | exact HB.out)⟩⟩
        · rw [if_neg c21] at H
          have c21b0 : (t233.toList == t222.toList) = false := beq_eq_false_iff_ne.mpr c21
          have c21b1 : (t233.toList != t222.toList) = true := bne_iff_ne.mpr c21
          (first | rw [c21b0] | (simp only [i64_w, i32_w]; rw [c21b0]) | skip)
          exact absurd H (by rw [HTRUE.out]; cases k <;> simp [laws_FnIntegers.j0])
      · replace c19 := Bool.eq_false_iff.mpr c19
        subst c19
        have H1 : (if t225 ≥ 0 then (if (t228 != (decide (t225 ≤ 1000000000000))) = true then (laws_FnIntegers.j0 k t229 t230 t231 t232 true) else (if t228 = true then (laws_FnIntegers.j0 k t229 t230 t231 t232 (t227 != t225)) else (laws_FnIntegers.j0 k t229 t230 t231 t232 false))) else (if (t228 != false) = true then (laws_FnIntegers.j0 k t229 t230 t231 t232 true) else (if t228 = true then (laws_FnIntegers.j0 k t229 t230 t231 t232 (t227 != t225)) else (laws_FnIntegers.j0 k t229 t230 t231 t232 false)))) = some r := by rw [if_neg (show ¬ (false = true) by decide)] at H; exact H
        clear H
        have H := H1
        clear H1
        by_cases c31 : t225 ≥ 0
        · rw [if_pos c31] at H
          have c31b0 : decide (0 ≤ t225) = true := decide_eq_true c31
          clear c31
          by_cases c32 : (t228 != (decide (t225 ≤ 1000000000000))) = true
          · rw [if_pos c32] at H
            have c32b0 : (t228 != (decide (t225 ≤ 1000000000000))) = true := c32
            (try (have c32b1 : decide (t228 = (decide (t225 ≤ 1000000000000))) = false := by simpa using c32))
            (try (have c32b2 : (t228 == (decide (t225 ≤ 1000000000000))) = false := by simpa using c32))
            (try (have c32b3 : ¬ (t228 = (decide (t225 ≤ 1000000000000))) := by simpa using c32))
            clear c32
            exact absurd H (by rw [HTRUE.out]; cases k <;> simp [laws_FnIntegers.j0])
          · rw [if_neg c32] at H
            have c32b0 : (t228 != (decide (t225 ≤ 1000000000000))) = false := by simpa using c32
            (try (have c32b1 : decide (t228 = (decide (t225 ≤ 1000000000000))) = true := by simpa using c32))
            (try (have c32b2 : (t228 == (decide (t225 ≤ 1000000000000))) = true := by simpa using c32))
            clear c32
            by_cases c33 : t228 = true
            · subst c33
              have H1 : (laws_FnIntegers.j0 k t229 t230 t231 t232 (t227 != t225)) = some r := by rw [if_pos rfl] at H; exact H
              clear H
              have H := H1
              clear H1
              have H' := Aside0.mk H
              clear H
              go_wp2
              go_meet
              case rel => exact ⟨_, ((t227 != t225)), (by first | rfl | (simp; done) | (simp [*]; done)), H', ⟨by first | omega | exact Nat.le_refl _⟩, ⟨by repeat (first | (with_reducible first | exact HB.out | apply below_alloc | apply pw_below_drewN | apply below_drew1) | exact HB.out)⟩⟩
            · replace c33 := Bool.eq_false_iff.mpr c33
              subst c33
              have H1 : (laws_FnIntegers.j0 k t229 t230 t231 t232 false) = some r := by rw [if_neg (show ¬ (false = true) by decide)] at H; exact H
              clear H
              have H := H1
              clear H1
              have H' := Aside0.mk H
              clear H
              go_wp2
              go_meet
              case rel => exact ⟨_, (false), (by first | rfl | (simp; done) | (simp [*]; done)), H', ⟨by first | omega | exact Nat.le_refl _⟩, ⟨by repeat (first | (with_reducible first | exact HB.out | apply below_alloc | apply pw_below_drewN | apply below_drew1) | exact HB.out)⟩⟩
        · rw [if_neg c31] at H
          have c31b0 : decide (0 ≤ t225) = false := decide_eq_false c31
          clear c31
          by_cases c34 : (t228 != false) = true
          · rw [if_pos c34] at H
            have c34b0 : (t228 != false) = true := c34
            (try (have c34b1 : decide (t228 = false) = false := by simpa using c34))
            (try (have c34b2 : (t228 == false) = false := by simpa using c34))
            (try (have c34b3 : ¬ (t228 = false) := by simpa using c34))
            clear c34
            exact absurd H (by rw [HTRUE.out]; cases k <;> simp [laws_FnIntegers.j0])
          · rw [if_neg c34] at H
            have c34b0 : (t228 != false) = false := by simpa using c34
            (try (have c34b1 : decide (t228 = false) = true := by simpa using c34))
            (try (have c34b2 : (t228 == false) = true := by simpa using c34))
            clear c34
            by_cases c35 : t228 = true
            · subst c35
              have H1 : (laws_FnIntegers.j0 k t229 t230 t231 t232 (t227 != t225)) = some r := by rw [if_pos rfl] at H; exact H
              clear H
              have H := H1
              clear H1
              have H' := Aside0.mk H
              clear H
              go_wp2
              go_meet
              case rel => exact ⟨_, ((t227 != t225)), (by first | rfl | (simp; done) | (simp [*]; done)), H', ⟨by first | omega | exact Nat.le_refl _⟩, ⟨by repeat (first | (with_reducible first | exact HB.out | apply below_alloc | apply pw_below_drewN | apply below_drew1) | exact HB.out)⟩⟩
            · replace c35 := Bool.eq_false_iff.mpr c35
              subst c35
              have H1 : (laws_FnIntegers.j0 k t229 t230 t231 t232 false) = some r := by rw [if_neg (show ¬ (false = true) by decide)] at H; exact H
              clear H
              have H := H1
              clear H1
              have H' := Aside0.mk H
              clear H
              go_wp2
              go_meet
              case rel => exact ⟨_, (false), (by first | rfl | (simp; done) | (simp [*]; done)), H', ⟨by first | omega | exact Nat.le_refl _⟩, ⟨by repeat (first | (with_reducible first | exact HB.out | apply below_alloc | apply pw_below_drewN | apply below_drew1) | exact HB.out)⟩⟩
    case rest =>
      clear HC12
      try clear c1
      try clear c2
      try clear p2
      try clear c3
      try clear c6
      try clear c10
      try clear c12
      try clear c16
      try clear c17
      try clear c18
      try clear c19
      try clear c20
      try clear c21
      try clear c21b0
      try clear c21b1
      try clear c22
      try clear c22b0
      try clear c23
      try clear c23b0
      try clear c23b1
      try clear c23b2
      try clear c24
      try clear c27
      try clear c27b0
      try clear c27b1
      try clear c27b2
      try clear c28
      try clear c31
      try clear c31b0
      try clear c32
      try clear c32b0
      try clear c32b1
      try clear c32b2
      try clear c33
      try clear c34
      try clear c34b0
      try clear c34b1
      try clear c34b2
      try clear c35
      obtain ⟨kq, x65_11, rfl, HA, HJ11, HB⟩ := hcut
      cases kq with
      | zero => exact absurd HA.out (by simp [laws_FnIntegers.j0])
      | succ kj11 =>
        have H := HA.out
        clear HA
        simp only [laws_FnIntegers.j0] at H
        by_cases c36 : x65_11 = true
        · subst c36
          have H1 : (some false) = some r := by rw [if_pos rfl] at H; exact H
          clear H
          have H := H1
          clear H1
          exact absurd (Option.some.inj H) (by rw [HTRUE.out]; decide)
        · replace c36 := Bool.eq_false_iff.mpr c36
          subst c36
          have H1 : (if t230 < 1 then (laws_FnIntegers.j1 kj11 t229 t230 t231 t232 true) else (laws_FnIntegers.j1 kj11 t229 t230 t231 t232 (decide (t230 > 1000000000000)))) = some r := by rw [if_neg (show ¬ (false = true) by decide)] at H; exact H
          clear H
          have H := H1
          clear H1
          have HC37 := Aside0.mk H
          clear H
          go_upto_region 12 with (fail)
          go_cut [71] (fun v71 wc => ∃ (kq : Nat) (x71_36 : Bool), v71 = .bool x71_36 ∧ Aside0 (laws_FnIntegers.j1 kq t229 t230 t231 t232 x71_36 = some r) ∧ Aside0 (kq ≤ kj11) ∧ Aside0 (Below w.heap.size w wc))
          case first =>
            have H := HC37.out
            clear HC37
            by_cases c38 : t230 < 1
            · rw [if_pos c38] at H
              have c38b0 : decide (t230 < 1) = true := decide_eq_true c38
              clear c38
              (first | rw [c38b0] | (simp only [i64_w, i32_w]; rw [c38b0]) | skip)
              have H' := Aside0.mk H
              clear H
              go_wp2
              go_meet
              case rel => exact ⟨_, (true), (by first | rfl | (simp; done) | (simp [*]; done)), H', ⟨by have := HJ11.out; first | omega | exact Nat.le_refl _⟩, ⟨by repeat (first | (with_reducible first | exact HB.out | apply below_alloc | apply pw_below_drewN | apply below_drew1) | exact HB.out)⟩⟩
            · rw [if_neg c38] at H
              have c38b0 : decide (t230 < 1) = false := decide_eq_false c38
              clear c38
              (first | rw [c38b0] | (simp only [i64_w, i32_w]; rw [c38b0]) | skip)
              have H' := Aside0.mk H
              clear H
              go_wp2
              go_meet
              case rel => exact ⟨_, (decide (t230 > 1000000000000)), (by first | rfl | (simp; done) | (simp [*]; done)), H', ⟨by have := HJ11.out; first | omega | exact Nat.le_refl _⟩, ⟨by repeat (first | (with_reducible first | exact HB.out | apply below_alloc | apply pw_below_drewN | apply below_drew1) | exact HB.out)⟩⟩
          case rest =>
            clear HC37
            try clear c1
            try clear c2
            try clear p2
            try clear c3
            try clear c6
            try clear c10
            try clear c12
            try clear c16
            try clear c17
            try clear c18
            try clear c19
            try clear c20
            try clear c21
            try clear c21b0
            try clear c21b1
            try clear c22
            try clear c22b0
            try clear c23
            try clear c23b0
            try clear c23b1
            try clear c23b2
            try clear c24
            try clear c27
            try clear c27b0
            try clear c27b1
            try clear c27b2
            try clear c28
            try clear c31
            try clear c31b0
            try clear c32
            try clear c32b0
            try clear c32b1
            try clear c32b2
            try clear c33
            try clear c34
            try clear c34b0
            try clear c34b1
            try clear c34b2
            try clear c35
            try clear c36
            try clear c38
            try clear c38b0
            try clear p2
            obtain ⟨kq, x71_36, rfl, HA, HJ36, HB⟩ := hcut
            cases kq with
            | zero => exact absurd HA.out (by simp [laws_FnIntegers.j1])
            | succ kj36 =>
              have H := HA.out
              clear HA
              simp only [laws_FnIntegers.j1] at H
              by_cases c39 : x71_36 = true
              · subst c39
                have H1 : (if t231 = 0 then (some (t232 == 0)) else (some false)) = some r := by rw [if_pos rfl] at H; exact H
                clear H
                have H := H1
                clear H1
                by_cases c40 : t231 = 0
                · rw [if_pos c40] at H
                  have c40b0 : (t231 == 0) = true := beq_iff_eq.mpr c40
                  have c40b1 : (t231 != 0) = false := bne_eq_false_iff_eq.mpr c40
                  clear c40
                  obtain rfl := Option.some.inj H
                  go_wp2
                  go_ret
                  exact ⟨by first | rfl | (simp [errW_none, errW_some] <;> rfl) | (simp [*, errW_none, errW_some] <;> rfl), by repeat (first | (with_reducible first | exact HB.out | apply below_alloc | apply pw_below_drewN | apply below_drew1) | exact HB.out)⟩
                · rw [if_neg c40] at H
                  have c40b0 : (t231 == 0) = false := beq_eq_false_iff_ne.mpr c40
                  have c40b1 : (t231 != 0) = true := bne_iff_ne.mpr c40
                  exact absurd (Option.some.inj H) (by rw [HTRUE.out]; decide)
              · replace c39 := Bool.eq_false_iff.mpr c39
                subst c39
                have H1 : (if t232 < 0 then (laws_FnIntegers.j2 kj36 t229 t230 t231 true) else (if t232 ≥ t230 then (laws_FnIntegers.j2 kj36 t229 t230 t231 true) else (if t230 = 0 then (none) else (laws_FnIntegers.j2 kj36 t229 t230 t231 ((Int.tmod (wrap64 ((Int.tmod t229 t230) - t232)) t230) != 0))))) = some r := by rw [if_neg (show ¬ (false = true) by decide)] at H; exact H
                clear H
                have H := H1
                clear H1
                have HC41 := Aside0.mk H
                clear H
                go_upto_region 14 with (fail)
                go_cut [94] (fun v94 wc => ∃ (kq : Nat) (x94_40 : Bool), v94 = .bool x94_40 ∧ Aside0 (laws_FnIntegers.j2 kq t229 t230 t231 x94_40 = some r) ∧ Aside0 (kq ≤ kj36) ∧ Aside0 (Below w.heap.size w wc))
                case first =>
                  have H := HC41.out
                  clear HC41
                  by_cases c42 : t232 < 0
                  · rw [if_pos c42] at H
                    have c42b0 : decide (t232 < 0) = true := decide_eq_true c42
                    clear c42
                    (first | rw [c42b0] | (simp only [i64_w, i32_w]; rw [c42b0]) | skip)
                    exact absurd H (by rw [HTRUE.out]; cases kj36 <;> simp [laws_FnIntegers.j2])
                  · rw [if_neg c42] at H
                    have c42b0 : decide (t232 < 0) = false := decide_eq_false c42
                    clear c42
                    (first | rw [c42b0] | (simp only [i64_w, i32_w]; rw [c42b0]) | skip)
                    by_cases c43 : t232 ≥ t230
                    · rw [if_pos c43] at H
                      have c43b0 : decide (t230 ≤ t232) = true := decide_eq_true c43
                      clear c43
                      exact absurd H (by rw [HTRUE.out]; cases kj36 <;> simp [laws_FnIntegers.j2])
                    · rw [if_neg c43] at H
                      have c43b0 : decide (t230 ≤ t232) = false := decide_eq_false c43
                      clear c43
                      by_cases c44 : t230 = 0
                      · rw [if_pos c44] at H
                        exact absurd H (by simp)
                      · rw [if_neg c44] at H
                        have c44b0 : (t230 == 0) = false := beq_eq_false_iff_ne.mpr c44
                        have c44b1 : (t230 != 0) = true := bne_iff_ne.mpr c44
                        have H' := Aside0.mk H
                        clear H
                        go_wp2
                        go_meet
                        case rel => exact ⟨_, (((Int.tmod (wrap64 ((Int.tmod t229 t230) - t232)) t230) != 0)), (by first | rfl | (simp; done) | (simp [*]; done)), H', ⟨by have := HJ11.out; have := HJ36.out; first | omega | exact Nat.le_refl _⟩, ⟨by repeat (first | (with_reducible first | exact HB.out | apply below_alloc | apply pw_below_drewN | apply below_drew1) | exact HB.out)⟩⟩
                case rest =>
                  clear HC41
                  try clear c1
                  try clear c2
                  try clear p2
                  try clear c3
                  try clear c4
                  try clear c6
                  try clear p6
                  try clear c10
                  try clear c12
                  try clear c16
                  try clear c17
                  try clear c18
                  try clear c19
                  try clear c20
                  try clear c21
                  try clear c21b0
                  try clear c21b1
                  try clear c22
                  try clear c22b0
                  try clear c23
                  try clear c23b0
                  try clear c23b1
                  try clear c23b2
                  try clear c24
                  try clear c27
                  try clear c27b0
                  try clear c27b1
                  try clear c27b2
                  try clear c28
                  try clear c31
                  try clear c31b0
                  try clear c32
                  try clear c32b0
                  try clear c32b1
                  try clear c32b2
                  try clear c33
                  try clear c34
                  try clear c34b0
                  try clear c34b1
                  try clear c34b2
                  try clear c35
                  try clear c36
                  try clear c38
                  try clear c38b0
                  try clear c39
                  try clear c40
                  try clear c40b0
                  try clear c40b1
                  try clear c42
                  try clear c42b0
                  try clear c43
                  try clear c43b0
                  try clear c44
                  try clear c44b0
                  try clear c44b1
                  try clear p2
                  obtain ⟨kq, x94_40, rfl, HA, HJ40, HB⟩ := hcut
                  cases kq with
                  | zero => exact absurd HA.out (by simp [laws_FnIntegers.j2])
                  | succ kj40 =>
                    have H := HA.out
                    clear HA
                    simp only [laws_FnIntegers.j2] at H
                    by_cases c45 : x94_40 = true
                    · subst c45
                      have H1 : (some false) = some r := by rw [if_pos rfl] at H; exact H
                      clear H
                      have H := H1
                      clear H1
                      exact absurd (Option.some.inj H) (by rw [HTRUE.out]; decide)
                    · replace c45 := Bool.eq_false_iff.mpr c45
                      subst c45
                      have H1 : (if t229 < 0 then (some (t231 == 0)) else (if t229 > 1000000000000 then (some (t231 == 0)) else (if (wrap64 (t231 * t230)) ≥ t229 then (some (decide ((wrap64 ((wrap64 (t231 * t230)) - t229)) < t230))) else (some false)))) = some r := by rw [if_neg (show ¬ (false = true) by decide)] at H; exact H
                      clear H
                      have H := H1
                      clear H1
                      by_cases c46 : t229 < 0
                      · rw [if_pos c46] at H
                        have c46b0 : decide (t229 < 0) = true := decide_eq_true c46
                        clear c46
                        obtain rfl := Option.some.inj H
                        go_wp2
                        go_ret
                        exact ⟨by first | rfl | (simp [errW_none, errW_some] <;> rfl) | (simp [*, errW_none, errW_some] <;> rfl), by repeat (first | (with_reducible first | exact HB.out | apply below_alloc | apply pw_below_drewN | apply below_drew1) | exact HB.out)⟩
                      · rw [if_neg c46] at H
                        have c46b0 : decide (t229 < 0) = false := decide_eq_false c46
                        clear c46
                        by_cases c47 : t229 > 1000000000000
                        · rw [if_pos c47] at H
                          have c47b0 : decide (1000000000000 < t229) = true := decide_eq_true c47
                          clear c47
                          obtain rfl := Option.some.inj H
                          go_wp2
                          go_ret
                          exact ⟨by first | rfl | (simp [errW_none, errW_some] <;> rfl) | (simp [*, errW_none, errW_some] <;> rfl), by repeat (first | (with_reducible first | exact HB.out | apply below_alloc | apply pw_below_drewN | apply below_drew1) | exact HB.out)⟩
                        · rw [if_neg c47] at H
                          have c47b0 : decide (1000000000000 < t229) = false := decide_eq_false c47
                          clear c47
                          by_cases c48 : (wrap64 (t231 * t230)) ≥ t229
                          · rw [if_pos c48] at H
                            have c48b0 : decide (t229 ≤ (wrap64 (t231 * t230))) = true := decide_eq_true c48
                            clear c48
                            obtain rfl := Option.some.inj H
                            go_wp2
                            go_ret
                            exact ⟨by first | rfl | (simp [errW_none, errW_some] <;> rfl) | (simp [*, errW_none, errW_some] <;> rfl), by repeat (first | (with_reducible first | exact HB.out | apply below_alloc | apply pw_below_drewN | apply below_drew1) | exact HB.out)⟩
                          · rw [if_neg c48] at H
                            have c48b0 : decide (t229 ≤ (wrap64 (t231 * t230))) = false := decide_eq_false c48
                            clear c48
                            exact absurd (Option.some.inj H) (by rw [HTRUE.out]; decide)


end Go.Proofs.YtgcidlnhgpjdpadDoor.QFnIntegers
