/- The Go functions that the law FnParts comes to, each as a Lean function, with a proof that the call does what it says; written by a program of this session over the print of the kit. No conditions. -/
import Derived.Test.YtlpfobakbgipbaaQFnPartsx0
import Derived.Test.YtlpfobakbgipbaaQFnPartsx1
import Derived.Test.YtlpfobakbgipbaaQFnPartsx5
namespace Go.Proofs.Ytlpfobakbgipbaa.QFnParts
open Go.RowKit Go.Proofs.YtlpfobakbgipbaaW.PrintWords Go.Proofs.YtlpfobakbgipbaaW.PrintLast Go.Proofs.YtlpfobakbgipbaaW.PrintMore
attribute [local go_sem] max2_int min2_int max_two min_two max_three min_three max_four min_four   -- for this text's walks alone
set_option linter.unusedVariables false
set_option linter.unusedSimpArgs false

attribute [local go_sem high] eqA34
/-! ### spec_l5Bytes: function 82 -/
def spec_l5Bytes.l0 : Nat → List Int → Int → Option (Bool)
  | 0, _, _ => none
  | k + 1, x0, x3 => if x3 < (x0.length : Int) then (if 0 ≤ x3 then ((spec_l1In.f (rd x0 x3) 0 255).bind fun t339 => (if t339 = true then (spec_l5Bytes.l0 k x0 (wrap64 (x3 + 1))) else (some false))) else (none)) else (some true)
def spec_l5Bytes.f (k : Nat) (l0 : List Int) : Option (Bool) := spec_l5Bytes.l0 k l0 0
set_option maxHeartbeats 8000000 in
set_option maxRecDepth 100000 in
theorem spec_l5Bytes.calls (k : Nat) (A0 : Option Addr) (c0 : Nat) (l0 : List Int) (r : Bool) (w : World) (hr0 : Kd.C (Kd.int .i64) w A0 l0.length l0) (hc0 : l0.length ≤ c0) (h : spec_l5Bytes.f k l0 = some r) :
    Calls Try.prog 82 #[.slice A0 l0.length c0] w fun e w' => e = .returned (.bool r) ∧ Drawn0 w w' := by
  have HR0 := Aside0.mk hr0
  have HC0 := Aside0.mk hc0
  clear hr0 hc0
  have H : (spec_l5Bytes.l0 k l0 0) = some r := h
  clear h
  have H' := Aside0.mk H
  clear H
  go_enter Try.func82, Try.ntmps82
  go_wp2
  go_loopg [3] k (fun kq v3 w' => ∃ (x3_1 : Int), v3 = .int .i64 x3_1 ∧ Aside0 (spec_l5Bytes.l0 kq l0 x3_1 = some r) ∧ Aside0 (kq ≤ k) ∧ Drawn0 w w')
  case atStart => exact ⟨(0), (by first | rfl | (simp; done) | (simp [*]; done)), H', ⟨Nat.le_refl _⟩, by repeat (first | exact Drawn0.refl _ | apply Drawn0.step)⟩
  case round =>
    clear H'
    obtain ⟨x3_1, rfl, HA, HK1, ⟨m1, rfl⟩⟩ := hrel
    cases gk with
    | zero => exact absurd HA.out (by simp [spec_l5Bytes.l0])
    | succ k1 =>
      have H := HA.out
      clear HA
      simp only [spec_l5Bytes.l0] at H
      by_cases c2 : x3_1 < (l0.length : Int)
      · rw [if_pos c2] at H
        have c2b0 : decide (x3_1 < (l0.length : Int)) = true := decide_eq_true c2
        clear c2
        by_cases c3 : 0 ≤ x3_1
        · rw [if_pos c3] at H
          have c3b0 : decide (0 ≤ x3_1) = true := decide_eq_true c3
          clear c3
          replace H := Option.bind_eq_some_iff.mp H
          obtain ⟨t339, A40, H⟩ := H
          replace H : (if t339 = true then (spec_l5Bytes.l0 k1 l0 (wrap64 (x3_1 + 1))) else (some false)) = some r := H
          have A4 := Aside0.mk A40
          clear A40
          by_cases c5 : t339 = true
          · subst c5
            have H1 : (spec_l5Bytes.l0 k1 l0 (wrap64 (x3_1 + 1))) = some r := by rw [if_pos rfl] at H; exact H
            clear H
            have H := H1
            clear H1
            have H' := Aside0.mk H
            clear H
            have p338 : 0 ≤ (x3_1 : Int) := of_decide_eq_true (by first | (with_reducible assumption) | assumption)
            have q338 : x3_1 < (l0.length : Int) := of_decide_eq_true (by first | (with_reducible assumption) | assumption)
            obtain ⟨ad338, e338, hx338_0⟩ := Kd.at_int HR0.out x3_1 p338 q338
            cases e338
            replace p338 := eq_true p338
            replace q338 := eq_true q338
            go_wp2_with (first | ((with_reducible refine gate_callee (f := 67) rfl ?_); refine goesL_ (some 14) rfl rfl Try.func67 (by kernel_rfl) rfl #[.int .i64 (rd l0 x3_1), .int .i64 0, .int .i64 255] rfl (by (try simp only [List.map_toArray, List.map_cons, List.map_nil]); first | done | rfl | (simp only [List.length_drop, List.length_take]; rfl)) ?_; (with_reducible refine (spec_l1In.calls (rd l0 x3_1) 0 255 true _ A4.out).mono ?_); rintro e w' ⟨rfl, ⟨nd, rfl⟩⟩; refine ⟨_, rfl, ?_⟩))
            go_roundg k1
            case measure => have := HK1.out; omega
            case rel => exact ⟨(wrap64 (x3_1 + 1)), (by first | rfl | (simp; done) | (simp [*]; done)), H', ⟨by have := HK1.out; omega⟩, by repeat (first | exact Drawn0.refl _ | apply Drawn0.step)⟩
          · replace c5 := Bool.eq_false_iff.mpr c5
            subst c5
            have H1 : (some false) = some r := by rw [if_neg (show ¬ (false = true) by decide)] at H; exact H
            clear H
            have H := H1
            clear H1
            obtain rfl := Option.some.inj H
            have p338 : 0 ≤ (x3_1 : Int) := of_decide_eq_true (by first | (with_reducible assumption) | assumption)
            have q338 : x3_1 < (l0.length : Int) := of_decide_eq_true (by first | (with_reducible assumption) | assumption)
            obtain ⟨ad338, e338, hx338_0⟩ := Kd.at_int HR0.out x3_1 p338 q338
            cases e338
            replace p338 := eq_true p338
            replace q338 := eq_true q338
            go_wp2_with (first | ((with_reducible refine gate_callee (f := 67) rfl ?_); refine goesL_ (some 14) rfl rfl Try.func67 (by kernel_rfl) rfl #[.int .i64 (rd l0 x3_1), .int .i64 0, .int .i64 255] rfl (by (try simp only [List.map_toArray, List.map_cons, List.map_nil]); first | done | rfl | (simp only [List.length_drop, List.length_take]; rfl)) ?_; (with_reducible refine (spec_l1In.calls (rd l0 x3_1) 0 255 false _ A4.out).mono ?_); rintro e w' ⟨rfl, ⟨nd, rfl⟩⟩; refine ⟨_, rfl, ?_⟩))
            go_ret
            exact ⟨by first | rfl | (simp; done) | (simp [*]; done), by repeat (first | exact Drawn0.refl _ | apply Drawn0.step)⟩
        · rw [if_neg c3] at H
          exact absurd H (by simp)
      · rw [if_neg c2] at H
        have c2b0 : decide (x3_1 < (l0.length : Int)) = false := decide_eq_false c2
        clear c2
        obtain rfl := Option.some.inj H
        go_wp2
        go_ret
        exact ⟨by first | rfl | (simp; done) | (simp [*]; done), by repeat (first | exact Drawn0.refl _ | apply Drawn0.step)⟩

/-! ### spec_IsAddress: function 83 -/
def spec_IsAddress.f (a0_0 : Int) (a0_1 : Int) (a0_2 : Int) : Option (Bool) := (spec_l1In.f a0_0 1 9).bind fun t341 => (if t341 = true then ((spec_l1In.f a0_1 0 99).bind fun t342 => (if t342 = true then ((spec_l1In.f a0_2 0 99).bind fun t343 => (some t343)) else (some false))) else (some false))
set_option maxHeartbeats 8000000 in
set_option maxRecDepth 100000 in
theorem spec_IsAddress.calls (a0_0 : Int) (a0_1 : Int) (a0_2 : Int) (r : Bool) (w : World) (h : spec_IsAddress.f a0_0 a0_1 a0_2 = some r) :
    Calls Try.prog 83 #[.agg #[.int .i64 a0_0, .int .i64 a0_1, .int .i64 a0_2]] w fun e w' => e = .returned (.bool r) ∧ Below w.heap.size w w' := by
  have hu34 := Try.underlying34
  have HB := Aside0.mk (Below.refl w.heap.size w)
  have H : ((spec_l1In.f a0_0 1 9).bind fun t341 => (if t341 = true then ((spec_l1In.f a0_1 0 99).bind fun t342 => (if t342 = true then ((spec_l1In.f a0_2 0 99).bind fun t343 => (some t343)) else (some false))) else (some false))) = some r := h
  clear h
  replace H := Option.bind_eq_some_iff.mp H
  obtain ⟨t341, A20, H⟩ := H
  replace H : (if t341 = true then ((spec_l1In.f a0_1 0 99).bind fun t342 => (if t342 = true then ((spec_l1In.f a0_2 0 99).bind fun t343 => (some t343)) else (some false))) else (some false)) = some r := H
  have A2 := Aside0.mk A20
  clear A20
  by_cases c3 : t341 = true
  · subst c3
    have H1 : ((spec_l1In.f a0_1 0 99).bind fun t342 => (if t342 = true then ((spec_l1In.f a0_2 0 99).bind fun t343 => (some t343)) else (some false))) = some r := by rw [if_pos rfl] at H; exact H
    clear H
    have H := H1
    clear H1
    replace H := Option.bind_eq_some_iff.mp H
    obtain ⟨t342, A40, H⟩ := H
    replace H : (if t342 = true then ((spec_l1In.f a0_2 0 99).bind fun t343 => (some t343)) else (some false)) = some r := H
    have A4 := Aside0.mk A40
    clear A40
    by_cases c5 : t342 = true
    · subst c5
      have H1 : ((spec_l1In.f a0_2 0 99).bind fun t343 => (some t343)) = some r := by rw [if_pos rfl] at H; exact H
      clear H
      have H := H1
      clear H1
      replace H := Option.bind_eq_some_iff.mp H
      obtain ⟨t343, A60, H⟩ := H
      replace H : (some t343) = some r := H
      have A6 := Aside0.mk A60
      clear A60
      obtain rfl := Option.some.inj H
      go_enter Try.func83, Try.ntmps83
      go_wp2_with (first | ((with_reducible refine gate_dst (N := 1) rfl ?_); refine box_event ?hg (N := 1) ?hd (cs := #[.int .i64 a0_0, .int .i64 a0_1, .int .i64 a0_2]) (t := 34) ?hr ?_; (case hd => rfl); (case hg => rfl); (case hr => first | (go_simp; done) | (go_simp; rfl)); intro gb340 hg w7 hbox hb; have n0_ := Aside0.mk (below_step (by repeat (first | (with_reducible first | exact HB.out | apply below_alloc | apply pw_below_drewN | apply below_drew1) | exact HB.out)) hb); have n1_ := Aside0.mk (hbox); have n2_ := Aside0.mk ((by rw [hg]; exact (below_size (by repeat (first | (with_reducible first | exact HB.out | apply below_alloc | apply pw_below_drewN | apply below_drew1) | exact HB.out))) : w.heap.size ≤ gb340)); have n3_ := Aside0.mk ((by rw [hg]; exact (below_size (by repeat (first | (with_reducible first | exact HB.out | apply below_alloc | apply pw_below_drewN | apply below_drew1) | exact HB.out))) : w.heap.size ≤ gb340)); clear HB; have HB := n0_; have BK340 := n1_; have GW340 := n2_; have GE340 := n3_; clear n0_ n1_ n2_ n3_; clear hb hbox hg; have hcz8_0 : w7.cell? ⟨gb340, 0, none⟩ = some (.int .i64 a0_0) := (blk_cell BK340.out 0).trans rfl; have hcz8_1 : w7.cell? ⟨gb340, 1, none⟩ = some (.int .i64 a0_1) := (blk_cell BK340.out 1).trans rfl; have hcz8_2 : w7.cell? ⟨gb340, 2, none⟩ = some (.int .i64 a0_2) := (blk_cell BK340.out 2).trans rfl; have hfz8_0 := blk_frozen BK340.out 0; have hfz8_1 := blk_frozen BK340.out 1; have hfz8_2 := blk_frozen BK340.out 2) | ((with_reducible refine gate_callee (f := 67) rfl ?_); refine goesL_ (some 5) rfl rfl Try.func67 (by kernel_rfl) rfl #[.int .i64 a0_0, .int .i64 1, .int .i64 9] rfl (by (try simp only [List.map_toArray, List.map_cons, List.map_nil]); first | done | rfl | (simp only [List.length_drop, List.length_take]; rfl)) ?_; (with_reducible refine (spec_l1In.calls a0_0 1 9 true _ A2.out).mono ?_); rintro e w' ⟨rfl, ⟨nd, rfl⟩⟩; refine ⟨_, rfl, ?_⟩) | (go_at_call 67; (with_reducible refine (spec_l1In.calls a0_1 0 99 true _ A4.out).mono ?_); rintro e w' ⟨rfl, ⟨nd, rfl⟩⟩) | (go_at_call 67; (with_reducible refine (spec_l1In.calls a0_2 0 99 t343 _ A6.out).mono ?_); rintro e w' ⟨rfl, ⟨nd, rfl⟩⟩))
      go_ret
      exact ⟨by first | rfl | (simp [errW_none, errW_some] <;> rfl) | (simp [*, errW_none, errW_some] <;> rfl), by repeat (first | (with_reducible first | exact HB.out | apply below_alloc | apply pw_below_drewN | apply below_drew1 | refine below_set ?_ GE340.out) | exact HB.out)⟩
    · replace c5 := Bool.eq_false_iff.mpr c5
      subst c5
      have H1 : (some false) = some r := by rw [if_neg (show ¬ (false = true) by decide)] at H; exact H
      clear H
      have H := H1
      clear H1
      obtain rfl := Option.some.inj H
      go_enter Try.func83, Try.ntmps83
      go_wp2_with (first | ((with_reducible refine gate_dst (N := 1) rfl ?_); refine box_event ?hg (N := 1) ?hd (cs := #[.int .i64 a0_0, .int .i64 a0_1, .int .i64 a0_2]) (t := 34) ?hr ?_; (case hd => rfl); (case hg => rfl); (case hr => first | (go_simp; done) | (go_simp; rfl)); intro gb340 hg w9 hbox hb; have n0_ := Aside0.mk (below_step (by repeat (first | (with_reducible first | exact HB.out | apply below_alloc | apply pw_below_drewN | apply below_drew1) | exact HB.out)) hb); have n1_ := Aside0.mk (hbox); have n2_ := Aside0.mk ((by rw [hg]; exact (below_size (by repeat (first | (with_reducible first | exact HB.out | apply below_alloc | apply pw_below_drewN | apply below_drew1) | exact HB.out))) : w.heap.size ≤ gb340)); have n3_ := Aside0.mk ((by rw [hg]; exact (below_size (by repeat (first | (with_reducible first | exact HB.out | apply below_alloc | apply pw_below_drewN | apply below_drew1) | exact HB.out))) : w.heap.size ≤ gb340)); clear HB; have HB := n0_; have BK340 := n1_; have GW340 := n2_; have GE340 := n3_; clear n0_ n1_ n2_ n3_; clear hb hbox hg; have hcz10_0 : w9.cell? ⟨gb340, 0, none⟩ = some (.int .i64 a0_0) := (blk_cell BK340.out 0).trans rfl; have hcz10_1 : w9.cell? ⟨gb340, 1, none⟩ = some (.int .i64 a0_1) := (blk_cell BK340.out 1).trans rfl; have hcz10_2 : w9.cell? ⟨gb340, 2, none⟩ = some (.int .i64 a0_2) := (blk_cell BK340.out 2).trans rfl; have hfz10_0 := blk_frozen BK340.out 0; have hfz10_1 := blk_frozen BK340.out 1; have hfz10_2 := blk_frozen BK340.out 2) | ((with_reducible refine gate_callee (f := 67) rfl ?_); refine goesL_ (some 5) rfl rfl Try.func67 (by kernel_rfl) rfl #[.int .i64 a0_0, .int .i64 1, .int .i64 9] rfl (by (try simp only [List.map_toArray, List.map_cons, List.map_nil]); first | done | rfl | (simp only [List.length_drop, List.length_take]; rfl)) ?_; (with_reducible refine (spec_l1In.calls a0_0 1 9 true _ A2.out).mono ?_); rintro e w' ⟨rfl, ⟨nd, rfl⟩⟩; refine ⟨_, rfl, ?_⟩) | (go_at_call 67; (with_reducible refine (spec_l1In.calls a0_1 0 99 false _ A4.out).mono ?_); rintro e w' ⟨rfl, ⟨nd, rfl⟩⟩))
      go_ret
      exact ⟨by first | rfl | (simp [errW_none, errW_some] <;> rfl) | (simp [*, errW_none, errW_some] <;> rfl), by repeat (first | (with_reducible first | exact HB.out | apply below_alloc | apply pw_below_drewN | apply below_drew1 | refine below_set ?_ GE340.out) | exact HB.out)⟩
  · replace c3 := Bool.eq_false_iff.mpr c3
    subst c3
    have H1 : (some false) = some r := by rw [if_neg (show ¬ (false = true) by decide)] at H; exact H
    clear H
    have H := H1
    clear H1
    obtain rfl := Option.some.inj H
    go_enter Try.func83, Try.ntmps83
    go_wp2_with (first | ((with_reducible refine gate_dst (N := 1) rfl ?_); refine box_event ?hg (N := 1) ?hd (cs := #[.int .i64 a0_0, .int .i64 a0_1, .int .i64 a0_2]) (t := 34) ?hr ?_; (case hd => rfl); (case hg => rfl); (case hr => first | (go_simp; done) | (go_simp; rfl)); intro gb340 hg w11 hbox hb; have n0_ := Aside0.mk (below_step (by repeat (first | (with_reducible first | exact HB.out | apply below_alloc | apply pw_below_drewN | apply below_drew1) | exact HB.out)) hb); have n1_ := Aside0.mk (hbox); have n2_ := Aside0.mk ((by rw [hg]; exact (below_size (by repeat (first | (with_reducible first | exact HB.out | apply below_alloc | apply pw_below_drewN | apply below_drew1) | exact HB.out))) : w.heap.size ≤ gb340)); have n3_ := Aside0.mk ((by rw [hg]; exact (below_size (by repeat (first | (with_reducible first | exact HB.out | apply below_alloc | apply pw_below_drewN | apply below_drew1) | exact HB.out))) : w.heap.size ≤ gb340)); clear HB; have HB := n0_; have BK340 := n1_; have GW340 := n2_; have GE340 := n3_; clear n0_ n1_ n2_ n3_; clear hb hbox hg; have hcz12_0 : w11.cell? ⟨gb340, 0, none⟩ = some (.int .i64 a0_0) := (blk_cell BK340.out 0).trans rfl; have hcz12_1 : w11.cell? ⟨gb340, 1, none⟩ = some (.int .i64 a0_1) := (blk_cell BK340.out 1).trans rfl; have hcz12_2 : w11.cell? ⟨gb340, 2, none⟩ = some (.int .i64 a0_2) := (blk_cell BK340.out 2).trans rfl; have hfz12_0 := blk_frozen BK340.out 0; have hfz12_1 := blk_frozen BK340.out 1; have hfz12_2 := blk_frozen BK340.out 2) | ((with_reducible refine gate_callee (f := 67) rfl ?_); refine goesL_ (some 5) rfl rfl Try.func67 (by kernel_rfl) rfl #[.int .i64 a0_0, .int .i64 1, .int .i64 9] rfl (by (try simp only [List.map_toArray, List.map_cons, List.map_nil]); first | done | rfl | (simp only [List.length_drop, List.length_take]; rfl)) ?_; (with_reducible refine (spec_l1In.calls a0_0 1 9 false _ A2.out).mono ?_); rintro e w' ⟨rfl, ⟨nd, rfl⟩⟩; refine ⟨_, rfl, ?_⟩))
    go_ret
    exact ⟨by first | rfl | (simp [errW_none, errW_some] <;> rfl) | (simp [*, errW_none, errW_some] <;> rfl), by repeat (first | (with_reducible first | exact HB.out | apply below_alloc | apply pw_below_drewN | apply below_drew1 | refine below_set ?_ GE340.out) | exact HB.out)⟩

/-! ### spec_IsResource: function 66 -/
def spec_IsResource.j0 : Nat → Bool → Int → List Int → Int → Int → Int → Option (Bool)
  | 0, _, _, _, _, _, _ => none
  | k + 1, x18, x345000, x345001, x345002, x345003, x345004 => if x18 = true then (some false) else (if x345000 = 3 then ((spec_IsAddress.f x345002 x345003 x345004).bind fun t347 => (if t347 = true then (some ((x345001.length : Int) == 0)) else (some false))) else (if (x345002 == 0 && (x345003 == 0 && (x345004 == 0))) = true then (if x345000 = 4 then (some ((x345001.length : Int) == 0)) else (some true)) else (some false)))
def spec_IsResource.f (k : Nat) (a0_0 : Int) (l0_1 : List Int) (a0_2 : Int) (a0_3 : Int) (a0_4 : Int) : Option (Bool) := (spec_l1In.f a0_0 1 4).bind fun t345 => (if t345 = true then ((spec_l5Bytes.f k l0_1).bind fun t346 => (if t346 = true then (spec_IsResource.j0 k (decide ((l0_1.length : Int) > 6)) a0_0 l0_1 a0_2 a0_3 a0_4) else (spec_IsResource.j0 k true a0_0 l0_1 a0_2 a0_3 a0_4))) else (spec_IsResource.j0 k true a0_0 l0_1 a0_2 a0_3 a0_4))
set_option maxHeartbeats 8000000 in
set_option maxRecDepth 100000 in
theorem spec_IsResource.calls (k : Nat) (a0_0 : Int) (A0_1 : Option Addr) (c0_1 : Nat) (l0_1 : List Int) (a0_2 : Int) (a0_3 : Int) (a0_4 : Int) (r : Bool) (w : World) (hr0_1 : Kd.C (Kd.int .i64) w A0_1 l0_1.length l0_1) (hc0_1 : l0_1.length ≤ c0_1) (h : spec_IsResource.f k a0_0 l0_1 a0_2 a0_3 a0_4 = some r) :
    Calls Try.prog 66 #[.agg #[.int .i64 a0_0, .slice A0_1 l0_1.length c0_1, .int .i64 a0_2, .int .i64 a0_3, .int .i64 a0_4]] w fun e w' => e = .returned (.bool r) ∧ Below w.heap.size w w' := by
  have hu36 := Try.underlying36
  have hu34 := Try.underlying34
  have HR0_1 := Aside0.mk hr0_1
  have HC0_1 := Aside0.mk hc0_1
  clear hr0_1 hc0_1
  have HB := Aside0.mk (Below.refl w.heap.size w)
  have H : ((spec_l1In.f a0_0 1 4).bind fun t345 => (if t345 = true then ((spec_l5Bytes.f k l0_1).bind fun t346 => (if t346 = true then (spec_IsResource.j0 k (decide ((l0_1.length : Int) > 6)) a0_0 l0_1 a0_2 a0_3 a0_4) else (spec_IsResource.j0 k true a0_0 l0_1 a0_2 a0_3 a0_4))) else (spec_IsResource.j0 k true a0_0 l0_1 a0_2 a0_3 a0_4))) = some r := h
  clear h
  have HC2 := Aside0.mk H
  clear H
  go_enter Try.func66, Try.ntmps66
  go_upto_region 1 with (first | ((with_reducible refine gate_dst (N := 1) rfl ?_); (try (refine gate_guard (by rfl) ?_; dsimp only)); refine box_event ?hg (N := 1) ?hd (cs := #[.int .i64 a0_0, .slice A0_1 l0_1.length c0_1, .int .i64 a0_2, .int .i64 a0_3, .int .i64 a0_4]) (t := 36) ?hr ?_; (case hd => rfl); (case hg => rfl); (case hr => first | (go_simp; done) | (go_simp; rfl)); intro gb344 hg w3 hbox hb; have n0_ := Aside0.mk (below_step (by repeat (first | (with_reducible first | exact HB.out | apply below_alloc | apply pw_below_drewN | apply below_drew1) | exact HB.out)) hb); have n1_ := Aside0.mk (hbox); have n2_ := Aside0.mk ((by rw [hg]; exact (below_size (by repeat (first | (with_reducible first | exact HB.out | apply below_alloc | apply pw_below_drewN | apply below_drew1) | exact HB.out))) : w.heap.size ≤ gb344)); have n3_ := Aside0.mk ((by rw [hg]; exact (below_size (by repeat (first | (with_reducible first | exact HB.out | apply below_alloc | apply pw_below_drewN | apply below_drew1) | exact HB.out))) : w.heap.size ≤ gb344)); clear HB; have HB := n0_; have BK344 := n1_; have GW344 := n2_; have GE344 := n3_; clear n0_ n1_ n2_ n3_; clear hb hbox hg))
  (try simp only [Act.put, List.setIfInBounds_toArray, List.set_cons_zero, List.set_cons_succ])
  go_cut [18] (fun v18 wc => ∃ (kq : Nat) (x18_1 : Bool), v18 = .bool x18_1 ∧ Aside0 (spec_IsResource.j0 kq x18_1 a0_0 l0_1 a0_2 a0_3 a0_4 = some r) ∧ Aside0 (kq ≤ k) ∧ Aside0 (wc.heap[gb344]? = some (.cells #[.int .i64 a0_0, (.slice A0_1 l0_1.length c0_1), .int .i64 a0_2, .int .i64 a0_3, .int .i64 a0_4] 36 (0, 0))) ∧ Aside0 (Below w.heap.size w wc))
  case first =>
    have H := HC2.out
    clear HC2
    replace H := Option.bind_eq_some_iff.mp H
    obtain ⟨t345, A40, H⟩ := H
    replace H : (if t345 = true then ((spec_l5Bytes.f k l0_1).bind fun t346 => (if t346 = true then (spec_IsResource.j0 k (decide ((l0_1.length : Int) > 6)) a0_0 l0_1 a0_2 a0_3 a0_4) else (spec_IsResource.j0 k true a0_0 l0_1 a0_2 a0_3 a0_4))) else (spec_IsResource.j0 k true a0_0 l0_1 a0_2 a0_3 a0_4)) = some r := H
    have A4 := Aside0.mk A40
    clear A40
    by_cases c5 : t345 = true
    · subst c5
      have H1 : ((spec_l5Bytes.f k l0_1).bind fun t346 => (if t346 = true then (spec_IsResource.j0 k (decide ((l0_1.length : Int) > 6)) a0_0 l0_1 a0_2 a0_3 a0_4) else (spec_IsResource.j0 k true a0_0 l0_1 a0_2 a0_3 a0_4))) = some r := by rw [if_pos rfl] at H; exact H
      clear H
      have H := H1
      clear H1
      replace H := Option.bind_eq_some_iff.mp H
      obtain ⟨t346, A60, H⟩ := H
      replace H : (if t346 = true then (spec_IsResource.j0 k (decide ((l0_1.length : Int) > 6)) a0_0 l0_1 a0_2 a0_3 a0_4) else (spec_IsResource.j0 k true a0_0 l0_1 a0_2 a0_3 a0_4)) = some r := H
      have A6 := Aside0.mk A60
      clear A60
      by_cases c7 : t346 = true
      · subst c7
        have H1 : (spec_IsResource.j0 k (decide ((l0_1.length : Int) > 6)) a0_0 l0_1 a0_2 a0_3 a0_4) = some r := by rw [if_pos rfl] at H; exact H
        clear H
        have H := H1
        clear H1
        have H' := Aside0.mk H
        clear H
        have hcz8_0 : w3.cell? ⟨gb344, 0, none⟩ = some (.int .i64 a0_0) := (blk_cell BK344.out 0).trans rfl
        have hcz8_1 : w3.cell? ⟨gb344, 1, none⟩ = some (.slice A0_1 l0_1.length c0_1) := (blk_cell BK344.out 1).trans rfl
        have hcz8_2 : w3.cell? ⟨gb344, 2, none⟩ = some (.int .i64 a0_2) := (blk_cell BK344.out 2).trans rfl
        have hcz8_3 : w3.cell? ⟨gb344, 3, none⟩ = some (.int .i64 a0_3) := (blk_cell BK344.out 3).trans rfl
        have hcz8_4 : w3.cell? ⟨gb344, 4, none⟩ = some (.int .i64 a0_4) := (blk_cell BK344.out 4).trans rfl
        have hfz8_0 := blk_frozen BK344.out 0
        have hfz8_1 := blk_frozen BK344.out 1
        have hfz8_2 := blk_frozen BK344.out 2
        have hfz8_3 := blk_frozen BK344.out 3
        have hfz8_4 := blk_frozen BK344.out 4
        go_wp2_with (first | ((with_reducible refine gate_callee (f := 67) rfl ?_); refine goesL_ (some 5) rfl rfl Try.func67 (by kernel_rfl) rfl #[.int .i64 a0_0, .int .i64 1, .int .i64 4] rfl (by (try simp only [List.map_toArray, List.map_cons, List.map_nil]); first | done | rfl | (simp only [List.length_drop, List.length_take]; rfl)) ?_; (with_reducible refine (spec_l1In.calls a0_0 1 4 true _ A4.out).mono ?_); rintro e w' ⟨rfl, ⟨nd, rfl⟩⟩; refine ⟨_, rfl, ?_⟩) | (go_at_call 82; (with_reducible refine (spec_l5Bytes.calls k _ _ l0_1 true _ ?side1 ?side2 A6.out).mono ?_); (case side1 => repeat (first | exact (Kd.C_below HR0_1.out (by repeat (first | (with_reducible first | exact HB.out | apply below_alloc | apply pw_below_drewN | apply below_drew1 | refine below_set ?_ GE344.out) | exact HB.out))) | (with_reducible refine Kd.C_alloc ?_ _) | (with_reducible refine Kd.C_drewN ?_ _) | (with_reducible refine Kd.C_drew ?_))); (case side2 => exact HC0_1.out); rintro e w' ⟨rfl, ⟨nd, rfl⟩⟩))
        go_meet
        case rel => exact ⟨_, (decide ((l0_1.length : Int) > 6)), (by first | rfl | (simp; done) | (simp [*]; done)), H', ⟨by first | omega | exact Nat.le_refl _⟩, ⟨by (with_reducible repeat (first | refine blk_drewN ?_ _ | refine blk_drew ?_ | refine blk_alloc ?_ _)); exact BK344.out⟩, ⟨by repeat (first | (with_reducible first | exact HB.out | apply below_alloc | apply pw_below_drewN | apply below_drew1 | refine below_set ?_ GE344.out) | exact HB.out)⟩⟩
      · replace c7 := Bool.eq_false_iff.mpr c7
        subst c7
        have H1 : (spec_IsResource.j0 k true a0_0 l0_1 a0_2 a0_3 a0_4) = some r := by rw [if_neg (show ¬ (false = true) by decide)] at H; exact H
        clear H
        have H := H1
        clear H1
        have H' := Aside0.mk H
        clear H
        have hcz9_0 : w3.cell? ⟨gb344, 0, none⟩ = some (.int .i64 a0_0) := (blk_cell BK344.out 0).trans rfl
        have hcz9_1 : w3.cell? ⟨gb344, 1, none⟩ = some (.slice A0_1 l0_1.length c0_1) := (blk_cell BK344.out 1).trans rfl
        have hcz9_2 : w3.cell? ⟨gb344, 2, none⟩ = some (.int .i64 a0_2) := (blk_cell BK344.out 2).trans rfl
        have hcz9_3 : w3.cell? ⟨gb344, 3, none⟩ = some (.int .i64 a0_3) := (blk_cell BK344.out 3).trans rfl
        have hcz9_4 : w3.cell? ⟨gb344, 4, none⟩ = some (.int .i64 a0_4) := (blk_cell BK344.out 4).trans rfl
        have hfz9_0 := blk_frozen BK344.out 0
        have hfz9_1 := blk_frozen BK344.out 1
        have hfz9_2 := blk_frozen BK344.out 2
        have hfz9_3 := blk_frozen BK344.out 3
        have hfz9_4 := blk_frozen BK344.out 4
        go_wp2_with (first | ((with_reducible refine gate_callee (f := 67) rfl ?_); refine goesL_ (some 5) rfl rfl Try.func67 (by kernel_rfl) rfl #[.int .i64 a0_0, .int .i64 1, .int .i64 4] rfl (by (try simp only [List.map_toArray, List.map_cons, List.map_nil]); first | done | rfl | (simp only [List.length_drop, List.length_take]; rfl)) ?_; (with_reducible refine (spec_l1In.calls a0_0 1 4 true _ A4.out).mono ?_); rintro e w' ⟨rfl, ⟨nd, rfl⟩⟩; refine ⟨_, rfl, ?_⟩) | (go_at_call 82; (with_reducible refine (spec_l5Bytes.calls k _ _ l0_1 false _ ?side1 ?side2 A6.out).mono ?_); (case side1 => repeat (first | exact (Kd.C_below HR0_1.out (by repeat (first | (with_reducible first | exact HB.out | apply below_alloc | apply pw_below_drewN | apply below_drew1 | refine below_set ?_ GE344.out) | exact HB.out))) | (with_reducible refine Kd.C_alloc ?_ _) | (with_reducible refine Kd.C_drewN ?_ _) | (with_reducible refine Kd.C_drew ?_))); (case side2 => exact HC0_1.out); rintro e w' ⟨rfl, ⟨nd, rfl⟩⟩))
        go_meet
        case rel => exact ⟨_, (true), (by first | rfl | (simp; done) | (simp [*]; done)), H', ⟨by first | omega | exact Nat.le_refl _⟩, ⟨by (with_reducible repeat (first | refine blk_drewN ?_ _ | refine blk_drew ?_ | refine blk_alloc ?_ _)); exact BK344.out⟩, ⟨by repeat (first | (with_reducible first | exact HB.out | apply below_alloc | apply pw_below_drewN | apply below_drew1 | refine below_set ?_ GE344.out) | exact HB.out)⟩⟩
    · replace c5 := Bool.eq_false_iff.mpr c5
      subst c5
      have H1 : (spec_IsResource.j0 k true a0_0 l0_1 a0_2 a0_3 a0_4) = some r := by rw [if_neg (show ¬ (false = true) by decide)] at H; exact H
      clear H
      have H := H1
      clear H1
      have H' := Aside0.mk H
      clear H
      have hcz10_0 : w3.cell? ⟨gb344, 0, none⟩ = some (.int .i64 a0_0) := (blk_cell BK344.out 0).trans rfl
      have hcz10_1 : w3.cell? ⟨gb344, 1, none⟩ = some (.slice A0_1 l0_1.length c0_1) := (blk_cell BK344.out 1).trans rfl
      have hcz10_2 : w3.cell? ⟨gb344, 2, none⟩ = some (.int .i64 a0_2) := (blk_cell BK344.out 2).trans rfl
      have hcz10_3 : w3.cell? ⟨gb344, 3, none⟩ = some (.int .i64 a0_3) := (blk_cell BK344.out 3).trans rfl
      have hcz10_4 : w3.cell? ⟨gb344, 4, none⟩ = some (.int .i64 a0_4) := (blk_cell BK344.out 4).trans rfl
      have hfz10_0 := blk_frozen BK344.out 0
      have hfz10_1 := blk_frozen BK344.out 1
      have hfz10_2 := blk_frozen BK344.out 2
      have hfz10_3 := blk_frozen BK344.out 3
      have hfz10_4 := blk_frozen BK344.out 4
      go_wp2_with (first | ((with_reducible refine gate_callee (f := 67) rfl ?_); refine goesL_ (some 5) rfl rfl Try.func67 (by kernel_rfl) rfl #[.int .i64 a0_0, .int .i64 1, .int .i64 4] rfl (by (try simp only [List.map_toArray, List.map_cons, List.map_nil]); first | done | rfl | (simp only [List.length_drop, List.length_take]; rfl)) ?_; (with_reducible refine (spec_l1In.calls a0_0 1 4 false _ A4.out).mono ?_); rintro e w' ⟨rfl, ⟨nd, rfl⟩⟩; refine ⟨_, rfl, ?_⟩))
      go_meet
      case rel => exact ⟨_, (true), (by first | rfl | (simp; done) | (simp [*]; done)), H', ⟨by first | omega | exact Nat.le_refl _⟩, ⟨by (with_reducible repeat (first | refine blk_drewN ?_ _ | refine blk_drew ?_ | refine blk_alloc ?_ _)); exact BK344.out⟩, ⟨by repeat (first | (with_reducible first | exact HB.out | apply below_alloc | apply pw_below_drewN | apply below_drew1 | refine below_set ?_ GE344.out) | exact HB.out)⟩⟩
  case rest =>
    clear HC2
    try clear p2
    try clear c5
    try clear c6
    try clear c7
    try clear hcz10_0
    try clear hcz10_1
    try clear hcz10_2
    try clear hcz10_3
    try clear hcz10_4
    try clear hcz8_0
    try clear hcz8_1
    try clear hcz8_2
    try clear hcz8_3
    try clear hcz8_4
    try clear hcz9_0
    try clear hcz9_1
    try clear hcz9_2
    try clear hcz9_3
    try clear hcz9_4
    try clear hfz10_0
    try clear hfz10_1
    try clear hfz10_2
    try clear hfz10_3
    try clear hfz10_4
    try clear hfz8_0
    try clear hfz8_1
    try clear hfz8_2
    try clear hfz8_3
    try clear hfz8_4
    try clear hfz9_0
    try clear hfz9_1
    try clear hfz9_2
    try clear hfz9_3
    try clear hfz9_4
    obtain ⟨kq, x18_1, rfl, HA, HJ1, BK344, HB⟩ := hcut
    cases kq with
    | zero => exact absurd HA.out (by simp [spec_IsResource.j0])
    | succ kj1 =>
      have H := HA.out
      clear HA
      simp only [spec_IsResource.j0] at H
      by_cases c11 : x18_1 = true
      · subst c11
        have H1 : (some false) = some r := by rw [if_pos rfl] at H; exact H
        clear H
        have H := H1
        clear H1
        obtain rfl := Option.some.inj H
        go_wp2
        go_ret
        exact ⟨by first | rfl | (simp [errW_none, errW_some] <;> rfl) | (simp [*, errW_none, errW_some] <;> rfl), by repeat (first | (with_reducible first | exact HB.out | apply below_alloc | apply pw_below_drewN | apply below_drew1 | refine below_set ?_ GE344.out) | exact HB.out)⟩
      · replace c11 := Bool.eq_false_iff.mpr c11
        subst c11
        have H1 : (if a0_0 = 3 then ((spec_IsAddress.f a0_2 a0_3 a0_4).bind fun t347 => (if t347 = true then (some ((l0_1.length : Int) == 0)) else (some false))) else (if (a0_2 == 0 && (a0_3 == 0 && (a0_4 == 0))) = true then (if a0_0 = 4 then (some ((l0_1.length : Int) == 0)) else (some true)) else (some false))) = some r := by rw [if_neg (show ¬ (false = true) by decide)] at H; exact H
        clear H
        have H := H1
        clear H1
        by_cases c12 : a0_0 = 3
        · rw [if_pos c12] at H
          have c12b0 : (a0_0 == 3) = true := beq_iff_eq.mpr c12
          have c12b1 : (a0_0 != 3) = false := bne_eq_false_iff_eq.mpr c12
          clear c12
          replace H := Option.bind_eq_some_iff.mp H
          obtain ⟨t347, A130, H⟩ := H
          replace H : (if t347 = true then (some ((l0_1.length : Int) == 0)) else (some false)) = some r := H
          have A13 := Aside0.mk A130
          clear A130
          by_cases c14 : t347 = true
          · subst c14
            have H1 : (some ((l0_1.length : Int) == 0)) = some r := by rw [if_pos rfl] at H; exact H
            clear H
            have H := H1
            clear H1
            obtain rfl := Option.some.inj H
            have hcz15_0 : wc.cell? ⟨gb344, 0, none⟩ = some (.int .i64 a0_0) := (blk_cell BK344.out 0).trans rfl
            have hcz15_1 : wc.cell? ⟨gb344, 1, none⟩ = some (.slice A0_1 l0_1.length c0_1) := (blk_cell BK344.out 1).trans rfl
            have hcz15_2 : wc.cell? ⟨gb344, 2, none⟩ = some (.int .i64 a0_2) := (blk_cell BK344.out 2).trans rfl
            have hcz15_3 : wc.cell? ⟨gb344, 3, none⟩ = some (.int .i64 a0_3) := (blk_cell BK344.out 3).trans rfl
            have hcz15_4 : wc.cell? ⟨gb344, 4, none⟩ = some (.int .i64 a0_4) := (blk_cell BK344.out 4).trans rfl
            have hfz15_0 := blk_frozen BK344.out 0
            have hfz15_1 := blk_frozen BK344.out 1
            have hfz15_2 := blk_frozen BK344.out 2
            have hfz15_3 := blk_frozen BK344.out 3
            have hfz15_4 := blk_frozen BK344.out 4
            go_wp2_with (first | ((with_reducible refine gate_callee (f := 83) rfl ?_); refine goesL_ (some 24) rfl rfl Try.func83 (by kernel_rfl) rfl #[.agg #[.int .i64 a0_2, .int .i64 a0_3, .int .i64 a0_4]] rfl (by (try simp only [List.map_toArray, List.map_cons, List.map_nil]); first | done | rfl | (simp only [List.length_drop, List.length_take]; rfl)) ?_; (with_reducible refine (spec_IsAddress.calls a0_2 a0_3 a0_4 true _ A13.out).mono ?_); rintro e w16 ⟨rfl, hb⟩; refine ⟨_, rfl, ?_⟩; have n0_ := Aside0.mk (blk_below (g := gb344) (o := .cells #[.int .i64 a0_0, .slice A0_1 l0_1.length c0_1, .int .i64 a0_2, .int .i64 a0_3, .int .i64 a0_4] 36 (0, 0)) (by (with_reducible repeat (first | refine blk_drewN ?_ _ | refine blk_drew ?_ | refine blk_alloc ?_ _)); exact BK344.out) hb); have n1_ := Aside0.mk (below_step (by repeat (first | (with_reducible first | exact HB.out | apply below_alloc | apply pw_below_drewN | apply below_drew1 | refine below_set ?_ GE344.out) | exact HB.out)) hb); clear BK344; clear HB; have BK344 := n0_; have HB := n1_; clear n0_ n1_; (try clear hb); (try clear hb2); (try clear hk); (try clear hi); have hcz17_0 : w16.cell? ⟨gb344, 0, none⟩ = some (.int .i64 a0_0) := (blk_cell BK344.out 0).trans rfl; have hcz17_1 : w16.cell? ⟨gb344, 1, none⟩ = some (.slice A0_1 l0_1.length c0_1) := (blk_cell BK344.out 1).trans rfl; have hcz17_2 : w16.cell? ⟨gb344, 2, none⟩ = some (.int .i64 a0_2) := (blk_cell BK344.out 2).trans rfl; have hcz17_3 : w16.cell? ⟨gb344, 3, none⟩ = some (.int .i64 a0_3) := (blk_cell BK344.out 3).trans rfl; have hcz17_4 : w16.cell? ⟨gb344, 4, none⟩ = some (.int .i64 a0_4) := (blk_cell BK344.out 4).trans rfl; have hfz17_0 := blk_frozen BK344.out 0; have hfz17_1 := blk_frozen BK344.out 1; have hfz17_2 := blk_frozen BK344.out 2; have hfz17_3 := blk_frozen BK344.out 3; have hfz17_4 := blk_frozen BK344.out 4))
            go_ret
            exact ⟨by first | rfl | (simp [errW_none, errW_some] <;> rfl) | (simp [*, errW_none, errW_some] <;> rfl), by repeat (first | (with_reducible first | exact HB.out | apply below_alloc | apply pw_below_drewN | apply below_drew1 | refine below_set ?_ GE344.out) | exact HB.out)⟩
          · replace c14 := Bool.eq_false_iff.mpr c14
            subst c14
            have H1 : (some false) = some r := by rw [if_neg (show ¬ (false = true) by decide)] at H; exact H
            clear H
            have H := H1
            clear H1
            obtain rfl := Option.some.inj H
            have hcz18_0 : wc.cell? ⟨gb344, 0, none⟩ = some (.int .i64 a0_0) := (blk_cell BK344.out 0).trans rfl
            have hcz18_1 : wc.cell? ⟨gb344, 1, none⟩ = some (.slice A0_1 l0_1.length c0_1) := (blk_cell BK344.out 1).trans rfl
            have hcz18_2 : wc.cell? ⟨gb344, 2, none⟩ = some (.int .i64 a0_2) := (blk_cell BK344.out 2).trans rfl
            have hcz18_3 : wc.cell? ⟨gb344, 3, none⟩ = some (.int .i64 a0_3) := (blk_cell BK344.out 3).trans rfl
            have hcz18_4 : wc.cell? ⟨gb344, 4, none⟩ = some (.int .i64 a0_4) := (blk_cell BK344.out 4).trans rfl
            have hfz18_0 := blk_frozen BK344.out 0
            have hfz18_1 := blk_frozen BK344.out 1
            have hfz18_2 := blk_frozen BK344.out 2
            have hfz18_3 := blk_frozen BK344.out 3
            have hfz18_4 := blk_frozen BK344.out 4
            go_wp2_with (first | ((with_reducible refine gate_callee (f := 83) rfl ?_); refine goesL_ (some 24) rfl rfl Try.func83 (by kernel_rfl) rfl #[.agg #[.int .i64 a0_2, .int .i64 a0_3, .int .i64 a0_4]] rfl (by (try simp only [List.map_toArray, List.map_cons, List.map_nil]); first | done | rfl | (simp only [List.length_drop, List.length_take]; rfl)) ?_; (with_reducible refine (spec_IsAddress.calls a0_2 a0_3 a0_4 false _ A13.out).mono ?_); rintro e w19 ⟨rfl, hb⟩; refine ⟨_, rfl, ?_⟩; have n0_ := Aside0.mk (blk_below (g := gb344) (o := .cells #[.int .i64 a0_0, .slice A0_1 l0_1.length c0_1, .int .i64 a0_2, .int .i64 a0_3, .int .i64 a0_4] 36 (0, 0)) (by (with_reducible repeat (first | refine blk_drewN ?_ _ | refine blk_drew ?_ | refine blk_alloc ?_ _)); exact BK344.out) hb); have n1_ := Aside0.mk (below_step (by repeat (first | (with_reducible first | exact HB.out | apply below_alloc | apply pw_below_drewN | apply below_drew1 | refine below_set ?_ GE344.out) | exact HB.out)) hb); clear BK344; clear HB; have BK344 := n0_; have HB := n1_; clear n0_ n1_; (try clear hb); (try clear hb2); (try clear hk); (try clear hi)))
            go_ret
            exact ⟨by first | rfl | (simp [errW_none, errW_some] <;> rfl) | (simp [*, errW_none, errW_some] <;> rfl), by repeat (first | (with_reducible first | exact HB.out | apply below_alloc | apply pw_below_drewN | apply below_drew1 | refine below_set ?_ GE344.out) | exact HB.out)⟩
        · rw [if_neg c12] at H
          have c12b0 : (a0_0 == 3) = false := beq_eq_false_iff_ne.mpr c12
          have c12b1 : (a0_0 != 3) = true := bne_iff_ne.mpr c12
          by_cases c20 : (a0_2 == 0 && (a0_3 == 0 && (a0_4 == 0))) = true
          · rw [if_pos c20] at H
            have c20b0 : (a0_2 == 0 && (a0_3 == 0 && (a0_4 == 0))) = true := c20
            (try (have c20b1 : decide (a0_2 = 0 && (a0_3 == 0 && (a0_4 == 0))) = true := by simpa using c20))
            (try (have c20b2 : (a0_2 == 0 && (a0_3 == 0 && (a0_4 == 0))) = true := by simpa using c20))
            clear c20
            by_cases c21 : a0_0 = 4
            · rw [if_pos c21] at H
              have c21b0 : (a0_0 == 4) = true := beq_iff_eq.mpr c21
              have c21b1 : (a0_0 != 4) = false := bne_eq_false_iff_eq.mpr c21
              clear c21
              obtain rfl := Option.some.inj H
              have hcz22_0 : wc.cell? ⟨gb344, 0, none⟩ = some (.int .i64 a0_0) := (blk_cell BK344.out 0).trans rfl
              have hcz22_1 : wc.cell? ⟨gb344, 1, none⟩ = some (.slice A0_1 l0_1.length c0_1) := (blk_cell BK344.out 1).trans rfl
              have hcz22_2 : wc.cell? ⟨gb344, 2, none⟩ = some (.int .i64 a0_2) := (blk_cell BK344.out 2).trans rfl
              have hcz22_3 : wc.cell? ⟨gb344, 3, none⟩ = some (.int .i64 a0_3) := (blk_cell BK344.out 3).trans rfl
              have hcz22_4 : wc.cell? ⟨gb344, 4, none⟩ = some (.int .i64 a0_4) := (blk_cell BK344.out 4).trans rfl
              have hfz22_0 := blk_frozen BK344.out 0
              have hfz22_1 := blk_frozen BK344.out 1
              have hfz22_2 := blk_frozen BK344.out 2
              have hfz22_3 := blk_frozen BK344.out 3
              have hfz22_4 := blk_frozen BK344.out 4
              go_wp2
              go_ret
              exact ⟨by first | rfl | (simp [errW_none, errW_some] <;> rfl) | (simp [*, errW_none, errW_some] <;> rfl), by repeat (first | (with_reducible first | exact HB.out | apply below_alloc | apply pw_below_drewN | apply below_drew1 | refine below_set ?_ GE344.out) | exact HB.out)⟩
            · rw [if_neg c21] at H
              have c21b0 : (a0_0 == 4) = false := beq_eq_false_iff_ne.mpr c21
              have c21b1 : (a0_0 != 4) = true := bne_iff_ne.mpr c21
              obtain rfl := Option.some.inj H
              have hcz23_0 : wc.cell? ⟨gb344, 0, none⟩ = some (.int .i64 a0_0) := (blk_cell BK344.out 0).trans rfl
              have hcz23_1 : wc.cell? ⟨gb344, 1, none⟩ = some (.slice A0_1 l0_1.length c0_1) := (blk_cell BK344.out 1).trans rfl
              have hcz23_2 : wc.cell? ⟨gb344, 2, none⟩ = some (.int .i64 a0_2) := (blk_cell BK344.out 2).trans rfl
              have hcz23_3 : wc.cell? ⟨gb344, 3, none⟩ = some (.int .i64 a0_3) := (blk_cell BK344.out 3).trans rfl
              have hcz23_4 : wc.cell? ⟨gb344, 4, none⟩ = some (.int .i64 a0_4) := (blk_cell BK344.out 4).trans rfl
              have hfz23_0 := blk_frozen BK344.out 0
              have hfz23_1 := blk_frozen BK344.out 1
              have hfz23_2 := blk_frozen BK344.out 2
              have hfz23_3 := blk_frozen BK344.out 3
              have hfz23_4 := blk_frozen BK344.out 4
              go_wp2
              go_ret
              exact ⟨by first | rfl | (simp [errW_none, errW_some] <;> rfl) | (simp [*, errW_none, errW_some] <;> rfl), by repeat (first | (with_reducible first | exact HB.out | apply below_alloc | apply pw_below_drewN | apply below_drew1 | refine below_set ?_ GE344.out) | exact HB.out)⟩
          · rw [if_neg c20] at H
            have c20b0 : (a0_2 == 0 && (a0_3 == 0 && (a0_4 == 0))) = false := by simpa using c20
            (try (have c20b1 : decide (a0_2 = 0 && (a0_3 == 0 && (a0_4 == 0))) = false := by simpa using c20))
            (try (have c20b2 : (a0_2 == 0 && (a0_3 == 0 && (a0_4 == 0))) = false := by simpa using c20))
            (try (have c20b3 : ¬ (a0_2 = 0 && (a0_3 == 0 && (a0_4 == 0))) := by simpa using c20))
            clear c20
            obtain rfl := Option.some.inj H
            have hcz24_0 : wc.cell? ⟨gb344, 0, none⟩ = some (.int .i64 a0_0) := (blk_cell BK344.out 0).trans rfl
            have hcz24_1 : wc.cell? ⟨gb344, 1, none⟩ = some (.slice A0_1 l0_1.length c0_1) := (blk_cell BK344.out 1).trans rfl
            have hcz24_2 : wc.cell? ⟨gb344, 2, none⟩ = some (.int .i64 a0_2) := (blk_cell BK344.out 2).trans rfl
            have hcz24_3 : wc.cell? ⟨gb344, 3, none⟩ = some (.int .i64 a0_3) := (blk_cell BK344.out 3).trans rfl
            have hcz24_4 : wc.cell? ⟨gb344, 4, none⟩ = some (.int .i64 a0_4) := (blk_cell BK344.out 4).trans rfl
            have hfz24_0 := blk_frozen BK344.out 0
            have hfz24_1 := blk_frozen BK344.out 1
            have hfz24_2 := blk_frozen BK344.out 2
            have hfz24_3 := blk_frozen BK344.out 3
            have hfz24_4 := blk_frozen BK344.out 4
            go_wp2
            go_ret
            exact ⟨by first | rfl | (simp [errW_none, errW_some] <;> rfl) | (simp [*, errW_none, errW_some] <;> rfl), by repeat (first | (with_reducible first | exact HB.out | apply below_alloc | apply pw_below_drewN | apply below_drew1 | refine below_set ?_ GE344.out) | exact HB.out)⟩

/-! ### spec_IsStore: function 34 -/
def spec_IsStore.l0 : Nat → List (S63) → Int → Option (Bool)
  | 0, _, _ => none
  | k + 1, x0, x3 => if x3 < (x0.length : Int) then (if 0 ≤ x3 then ((spec_IsResource.f k ((rd_T63 x0 x3).f1.f0) ((rd_T63 x0 x3).f1.f1) ((rd_T63 x0 x3).f1.f2.f0) ((rd_T63 x0 x3).f1.f2.f1) ((rd_T63 x0 x3).f1.f2.f2)).bind fun t349 => (if t349 = true then ((spec_DigestOf.f k ((rd_T63 x0 x3).f1.f0) ((rd_T63 x0 x3).f1.f1) ((rd_T63 x0 x3).f1.f2.f0) ((rd_T63 x0 x3).f1.f2.f1) ((rd_T63 x0 x3).f1.f2.f2)).bind fun t352 => (if ((rd_T63 x0 x3).f0) = t352 then ((spec_l1In.f ((rd_T63 x0 x3).f2) 1 1000).bind fun t354 => (if t354 = true then (if x3 > 0 then (if 0 ≤ (wrap64 (x3 - 1)) then (if (wrap64 (x3 - 1)) < (x0.length : Int) then (if ((rd_T63 x0 (wrap64 (x3 - 1))).f0) ≥ ((rd_T63 x0 x3).f0) then (some false) else (spec_IsStore.l0 k x0 (wrap64 (x3 + 1)))) else (none)) else (none)) else (spec_IsStore.l0 k x0 (wrap64 (x3 + 1)))) else (some false))) else (some false))) else (some false))) else (none)) else (some (decide ((x0.length : Int) ≤ 30)))
def spec_IsStore.f (k : Nat) (l0 : List (S63)) : Option (Bool) := spec_IsStore.l0 k l0 0
def spec_IsStore.T4 : Bool × List (List Nat × List Nat) := (true, [([], []), ([], []), ([0, 1], [0, 1]), ([2], [2]), ([3], [3]), ([4], [4]), ([5], [5]), ([6, 5], [6]), ([7], [7]), ([7], [7]), ([8, 9, 7], [7, 8, 9]), ([10, 7], [7, 10]), ([11, 7], [7, 11]), ([7], [7]), ([7], [7]), ([13, 14, 7], [7, 13, 14]), ([15, 7], [7, 15]), ([16, 7], [7, 16]), ([17, 7, 7], [7, 17]), ([12, 18, 7], [7, 12, 18]), ([7, 19], [7, 19]), ([20, 18], [20]), ([21], [21]), ([21], [21]), ([22, 23, 21], [21, 22, 23]), ([24, 21], [21, 24]), ([25, 21], [21, 25]), ([26, 21, 21], [21, 26]), ([27, 21], [21, 27]), ([21, 28], [21, 28]), ([29, 27], [29]), ([30], [30]), ([31, 30], [30, 31]), ([32, 30, 30], [30, 32]), ([33], [33]), ([33], [33]), ([35, 33], [33, 35]), ([34, 36, 33], [33, 34, 36]), ([37, 33], [33, 37]), ([38, 33], [33, 38]), ([33], [33]), ([33], [33]), ([40, 41, 33], [33, 40, 41]), ([42, 33], [33, 42]), ([43, 33], [33, 43]), ([39, 44, 33], [33, 39, 44]), ([33, 45, 30], [30, 33, 45]), ([30, 46], [30, 46])])
def spec_IsStore.B4 : List Nat := [0, 0, 3, 7, 15, 31, 63, 127, 255, 255, 1023, 2047, 4095, 255, 255, 24831, 57599, 123135, 254207, 524287, 1048575, 2097151, 4194303, 4194303, 16777215, 33554431, 67108863, 134217727, 268435455, 536870911, 1073741823, 2147483647, 4294967295, 8589934591, 17179869183, 17179869183, 51539607551, 137438953471, 274877906943, 549755813887, 17179869183, 17179869183, 3315714752511, 7713761263615, 16509854285823, 35184372088831, 70368744177663, 140737488355327]
theorem spec_IsStore.tab4 : rtab .any (opsOf Try.f34 4) = spec_IsStore.T4 := by kernel_rfl
theorem spec_IsStore.bits4 : waitsOk spec_IsStore.T4.2 spec_IsStore.B4 = true := by kernel_rfl
set_option maxHeartbeats 8000000 in
set_option maxRecDepth 100000 in
theorem spec_IsStore.calls (k : Nat) (A0 : Option Addr) (c0 : Nat) (l0 : List (S63)) (r : Bool) (w : World) (hr0 : Kd.C k63 w A0 l0.length l0) (hc0 : l0.length ≤ c0) (h : spec_IsStore.f k l0 = some r) :
    Calls Try.prog 34 #[.slice A0 l0.length c0] w fun e w' => e = .returned (.bool r) ∧ Below w.heap.size w w' := by
  have hu63 := Try.underlying63
  have hu36 := Try.underlying36
  have HR0 := Aside0.mk hr0
  have HM := Aside0.mk (Kd.C_max hr0)
  clear hr0 hc0
  have HB := Aside0.mk (Below.refl w.heap.size w)
  have H' := Aside0.mk (show spec_IsStore.l0 k l0 0 = some r from h)
  clear h
  go_enter Try.func34, Try.ntmps34
  go_wp2
  go_loopg [3] k (fun kq v3 w' => ∃ (x3_1 : Int), v3 = .int .i64 x3_1 ∧ Aside0 (spec_IsStore.l0 kq l0 x3_1 = some r) ∧ Aside0 (kq ≤ k) ∧ Aside0 (Below w.heap.size w w'))
  case atStart => exact ⟨0, (by first | rfl | (simp; done)), H', ⟨Nat.le_refl _⟩, HB⟩
  case round =>
    clear H' HB
    try clear p2
    obtain ⟨i, rfl, HA, HK1, HB⟩ := hrel
    cases gk with
    | zero => exact absurd HA.out (by simp [spec_IsStore.l0])
    | succ k1 =>
      have H := HA.out
      clear HA
      simp only [spec_IsStore.l0] at H
      by_cases c3 : i < (l0.length : Int)
      · rw [if_pos c3] at H
        by_cases c4 : 0 ≤ i
        · rw [if_pos c4] at H
          have c3b0 : decide (i < (l0.length : Int)) = true := decide_eq_true c3
          obtain ⟨ad, A2, c2, e2, hx0, hx1, hx2, hx3, hx4, hx5, hx6, hl2, hi2⟩ := at_T63 HR0.out i c4 c3
          cases e2
          have HJ : ∃ aj dj, w.cell? aj = some (.int .i64 dj) ∧ (i > 0 → aj = ad.add ((wrap64 (i - 1)).toNat * 7) ∧ dj = (rd_T63 l0 (wrap64 (i - 1))).f0 ∧ 0 ≤ wrap64 (i - 1) ∧ wrap64 (i - 1) < (l0.length : Int)) := by
            by_cases c6 : i > 0
            · have e : wrap64 (i - 1) = i - 1 := by have := HM.out; unfold wrap64; omega
              obtain ⟨ad1, _, _, e2, hy, _, _, _, _, _, _, _, _⟩ := at_T63 HR0.out (wrap64 (i - 1)) (by omega) (by omega)
              obtain rfl : ad = ad1 := by injection e2
              exact ⟨_, _, hy, fun _ => ⟨rfl, rfl, by omega, by omega⟩⟩
            · exact ⟨_, _, hx0, fun h => absurd h c6⟩
          obtain ⟨aj, dj, hy, HJ⟩ := HJ
          replace HJ := Aside0.mk HJ
          obtain ⟨⟨d, ⟨kd, bd, ⟨ho, pa, qu⟩⟩, us⟩, hx⟩ : ∃ x, rd_T63 l0 i = x := ⟨_, rfl⟩
          simp only [hx] at H hx0 hx1 hx2 hx3 hx4 hx5 hx6 hi2 hl2
          have PF := Aside0.mk (fun w' (hb : Below w.heap.size w w') => (show w'.cell? (ad.add (i.toNat * 7)) = some (.int .i64 d) ∧ w'.cell? ⟨(ad.add (i.toNat * 7)).block, (ad.add (i.toNat * 7)).off + 1, none⟩ = some (.int .i64 kd) ∧ w'.cell? ⟨(ad.add (i.toNat * 7)).block, (ad.add (i.toNat * 7)).off + 2, none⟩ = some (.slice A2 bd.length c2) ∧ w'.cell? ⟨(ad.add (i.toNat * 7)).block, (ad.add (i.toNat * 7)).off + 3, none⟩ = some (.int .i64 ho) ∧ w'.cell? ⟨(ad.add (i.toNat * 7)).block, (ad.add (i.toNat * 7)).off + 4, none⟩ = some (.int .i64 pa) ∧ w'.cell? ⟨(ad.add (i.toNat * 7)).block, (ad.add (i.toNat * 7)).off + 5, none⟩ = some (.int .i64 qu) ∧ w'.cell? ⟨(ad.add (i.toNat * 7)).block, (ad.add (i.toNat * 7)).off + 6, none⟩ = some (.int .i64 us) ∧ w'.cell? aj = some (.int .i64 dj) from by obtain ⟨h0, h1, h2, h3, h4, h5, h6⟩ := cells7 hb hx0 hx1 hx2 hx3 hx4 hx5 hx6; exact ⟨h0, h1, h2, h3, h4, h5, h6, cell_on hb hy⟩))
          have HR2 := Aside0.mk hi2
          have HC2 := Aside0.mk hl2
          clear hi2 hl2 hx hx0 hx1 hx2 hx3 hx4 hx5 hx6 hy
          have c4b := eq_true c4
          have c3b := eq_true c3
          have HH := Aside0.mk H
          clear H
          go_wp2
          have H := HH.out
          clear HH
          have n0_ := Aside0.mk (below_drew1 HB.out)
          clear HB
          have HB := n0_
          clear n0_
          refine start_ (n := 48) (S := fun w' => w'.cell? (ad.add (i.toNat * 7)) = some (.int .i64 d) ∧ w'.cell? ⟨(ad.add (i.toNat * 7)).block, (ad.add (i.toNat * 7)).off + 1, none⟩ = some (.int .i64 kd) ∧ w'.cell? ⟨(ad.add (i.toNat * 7)).block, (ad.add (i.toNat * 7)).off + 2, none⟩ = some (.slice A2 bd.length c2) ∧ w'.cell? ⟨(ad.add (i.toNat * 7)).block, (ad.add (i.toNat * 7)).off + 3, none⟩ = some (.int .i64 ho) ∧ w'.cell? ⟨(ad.add (i.toNat * 7)).block, (ad.add (i.toNat * 7)).off + 4, none⟩ = some (.int .i64 pa) ∧ w'.cell? ⟨(ad.add (i.toNat * 7)).block, (ad.add (i.toNat * 7)).off + 5, none⟩ = some (.int .i64 qu) ∧ w'.cell? ⟨(ad.add (i.toNat * 7)).block, (ad.add (i.toNat * 7)).off + 6, none⟩ = some (.int .i64 us) ∧ w'.cell? aj = some (.int .i64 dj)) (ds := []) (mk 48 0) (by kernel_rfl) rfl rfl (PF.out _ HB.out) (fun hHeld => ?_)
          refine with_tabW spec_IsStore.tab4 spec_IsStore.bits4 (fun HT_ HW_ => ?_)
          replace H := Option.bind_eq_some_iff.mp H
          obtain ⟨t1, A15, H⟩ := H
          have A15 := Aside0.mk A15
          refine on_ 0 10 (mk 48 0x1) ?_
          refine on_ 1 11 (mk 48 0x3) ?_
          refine on_ 2 12 (mk 48 0x7) ?_
          refine on_ 3 13 (mk 48 0xF) ?_
          refine rd_ 4 14 (mk 48 0x1F) ?_
          refine cl_ 5 15 (mk 48 0x3F) Try.func66 #[.agg #[.int .i64 kd, .slice A2 bd.length c2, .int .i64 ho, .int .i64 pa, .int .i64 qu]] ?_
          refine (spec_IsResource.calls k1 kd _ _ bd ho pa qu _ _ (Kd.C_below HR2.out HB.out) HC2.out A15.out).mono ?_
          rintro e w25 ⟨rfl, hb⟩
          have n0_ := Aside0.mk (below_step HB.out hb)
          clear HB
          have HB := n0_
          clear n0_
          refine ⟨_, rfl, PF.out _ HB.out, fun hHeld => nm_ ?_⟩
          by_cases c1 : t1 = true
          · rw [if_pos c1] at H
            subst c1
            replace H := Option.bind_eq_some_iff.mp H
            obtain ⟨t2, A17, H⟩ := H
            have A17 := Aside0.mk A17
            refine on_ 6 16 (mk 48 0x7F) ?_
            refine on_ 7 17 (mk 48 0xFF) ?_
            refine on_ 8 18 (mk 48 0x1FF) ?_
            refine on_ 9 19 (mk 48 0x3FF) ?_
            refine on_ 10 20 (mk 48 0x7FF) ?_
            refine on_ 11 21 (mk 48 0xFFF) ?_
            refine on_ 13 23 (mk 48 0x2FFF) ?_
            refine on_ 14 24 (mk 48 0x6FFF) ?_
            refine on_ 15 25 (mk 48 0xEFFF) ?_
            refine on_ 16 26 (mk 48 0x1EFFF) ?_
            refine rd_ 12 22 (mk 48 0x1FFFF) ?_
            refine rd_ 17 27 (mk 48 0x3FFFF) ?_
            refine cl_ 18 28 (mk 48 0x7FFFF) Try.func23 #[.agg #[.int .i64 kd, .slice A2 bd.length c2, .int .i64 ho, .int .i64 pa, .int .i64 qu]] ?_
            refine (spec_DigestOf.calls k1 kd _ _ bd ho pa qu _ _ (Kd.C_below HR2.out HB.out) HC2.out A17.out).mono ?_
            rintro e w26 ⟨rfl, hb⟩
            have n0_ := Aside0.mk (below_step HB.out hb)
            clear HB
            have HB := n0_
            clear n0_
            refine ⟨_, rfl, PF.out _ HB.out, fun hHeld => nm_ ?_⟩
            by_cases c5 : d = t2
            · rw [if_pos c5] at H
              have c2b : (d != t2) = false := bne_eq_false_iff_eq.mpr c5
              replace H := Option.bind_eq_some_iff.mp H
              obtain ⟨t3, A19, H⟩ := H
              have A19 := Aside0.mk A19
              refine on_ 19 29 (mk 48 0xFFFFF) ?_
              refine on_ 20 30 (mk 48 0x1FFFFF) ?_
              refine on_ 21 31 (mk 48 0x3FFFFF) ?_
              refine on_ 22 32 (mk 48 0x7FFFFF) ?_
              refine on_ 23 33 (mk 48 0xFFFFFF) ?_
              refine on_ 24 34 (mk 48 0x1FFFFFF) ?_
              refine on_ 25 35 (mk 48 0x3FFFFFF) ?_
              refine rd_ 26 36 (mk 48 0x7FFFFFF) ?_
              refine cl_ 27 37 (mk 48 0xFFFFFFF) Try.func67 #[.int .i64 us, .int .i64 1, .int .i64 1000] ?_
              refine (spec_l1In.calls us 1 1000 _ _ A19.out).mono ?_
              rintro e w27 ⟨rfl, hdr⟩
              have hb := hdr.below
              have n0_ := Aside0.mk (below_step HB.out hb)
              clear HB
              have HB := n0_
              clear n0_
              refine ⟨_, rfl, PF.out _ HB.out, fun hHeld => nm_ ?_⟩
              by_cases c7 : t3 = true
              · rw [if_pos c7] at H
                subst c7
                by_cases c6 : i > 0
                · rw [if_pos c6] at H
                  have c6b0 : decide (0 < i) = true := decide_eq_true c6
                  obtain ⟨ej, edj, hj0, hj1⟩ := HJ.out c6
                  clear c6
                  subst ej
                  rw [if_pos hj0, if_pos hj1, ← edj] at H
                  have hjw : IntKind.i64.wrap (i - 1) = wrap64 (i - 1) := i64_w _
                  generalize wrap64 (i - 1) = j at *
                  replace hj0 := eq_true hj0
                  replace hj1 := eq_true hj1
                  by_cases c10 : dj ≥ d
                  · rw [if_pos c10] at H
                    have c10b : decide (dj ≥ d) = true := decide_eq_true c10
                    have c10c : decide (d ≤ dj) = true := c10b
                    obtain rfl := Option.some.inj H
                    clear H
                    refine on_ 28 38 (mk 48 0x1FFFFFFF) ?_
                    refine on_ 29 39 (mk 48 0x3FFFFFFF) ?_
                    refine on_ 30 40 (mk 48 0x7FFFFFFF) ?_
                    refine on_ 31 41 (mk 48 0xFFFFFFFF) ?_
                    refine on_ 32 42 (mk 48 0x1FFFFFFFF) ?_
                    refine on_ 33 43 (mk 48 0x3FFFFFFFF) ?_
                    refine on_ 34 44 (mk 48 0x7FFFFFFFF) ?_
                    refine on_ 35 45 (mk 48 0xFFFFFFFFF) ?_
                    refine on_ 36 46 (mk 48 0x1FFFFFFFFF) ?_
                    refine on_ 37 47 (mk 48 0x3FFFFFFFFF) ?_
                    refine on_ 38 48 (mk 48 0x7FFFFFFFFF) ?_
                    refine on_ 40 50 (mk 48 0x17FFFFFFFFF) ?_
                    refine on_ 41 51 (mk 48 0x37FFFFFFFFF) ?_
                    refine on_ 42 52 (mk 48 0x77FFFFFFFFF) ?_
                    refine on_ 43 53 (mk 48 0xF7FFFFFFFFF) ?_
                    refine rd_ 39 49 (mk 48 0xFFFFFFFFFFF) ?_
                    refine rd_ 44 54 (mk 48 0x1FFFFFFFFFFF) ?_
                    refine on_ 45 55 (mk 48 0x3FFFFFFFFFFF) ?_
                    refine on_ 46 56 (mk 48 0x7FFFFFFFFFFF) ?_
                    refine on_ 47 57 (mk 48 0xFFFFFFFFFFFF) ?_
                    refine dn_ ?_
                    go_wp2
                    go_ret
                    exact ⟨(by first | rfl | (simp [errW_none, errW_some] <;> rfl) | (simp [*, errW_none, errW_some] <;> rfl)), (by repeat (first | (with_reducible first | exact HB.out | apply below_alloc | apply pw_below_drewN | apply below_drew1) | exact HB.out))⟩
                  · rw [if_neg c10] at H
                    have c10b : decide (dj ≥ d) = false := decide_eq_false c10
                    have c10c : decide (d ≤ dj) = false := c10b
                    refine on_ 28 38 (mk 48 0x1FFFFFFF) ?_
                    refine on_ 29 39 (mk 48 0x3FFFFFFF) ?_
                    refine on_ 30 40 (mk 48 0x7FFFFFFF) ?_
                    refine on_ 31 41 (mk 48 0xFFFFFFFF) ?_
                    refine on_ 32 42 (mk 48 0x1FFFFFFFF) ?_
                    refine on_ 33 43 (mk 48 0x3FFFFFFFF) ?_
                    refine on_ 34 44 (mk 48 0x7FFFFFFFF) ?_
                    refine on_ 35 45 (mk 48 0xFFFFFFFFF) ?_
                    refine on_ 36 46 (mk 48 0x1FFFFFFFFF) ?_
                    refine on_ 37 47 (mk 48 0x3FFFFFFFFF) ?_
                    refine on_ 38 48 (mk 48 0x7FFFFFFFFF) ?_
                    refine on_ 40 50 (mk 48 0x17FFFFFFFFF) ?_
                    refine on_ 41 51 (mk 48 0x37FFFFFFFFF) ?_
                    refine on_ 42 52 (mk 48 0x77FFFFFFFFF) ?_
                    refine on_ 43 53 (mk 48 0xF7FFFFFFFFF) ?_
                    refine rd_ 39 49 (mk 48 0xFFFFFFFFFFF) ?_
                    refine rd_ 44 54 (mk 48 0x1FFFFFFFFFFF) ?_
                    refine on_ 45 55 (mk 48 0x3FFFFFFFFFFF) ?_
                    refine on_ 46 56 (mk 48 0x7FFFFFFFFFFF) ?_
                    refine on_ 47 57 (mk 48 0xFFFFFFFFFFFF) ?_
                    refine dn_ ?_
                    have H' := Aside0.mk H
                    clear H
                    go_wp2
                    go_roundg k1
                    case measure => have := HK1.out; omega
                    case rel => exact ⟨wrap64 (i + 1), (by first | rfl | (simp; done) | (simp [*]; done)), H', ⟨by have := HK1.out; omega⟩, ⟨(by repeat (first | (with_reducible first | exact HB.out | apply below_alloc | apply pw_below_drewN | apply below_drew1) | exact HB.out))⟩⟩
                · rw [if_neg c6] at H
                  have c6b0 : decide (0 < i) = false := decide_eq_false c6
                  clear c6
                  refine on_ 28 38 (mk 48 0x1FFFFFFF) ?_
                  refine on_ 29 39 (mk 48 0x3FFFFFFF) ?_
                  refine on_ 30 40 (mk 48 0x7FFFFFFF) ?_
                  refine on_ 31 41 (mk 48 0xFFFFFFFF) ?_
                  refine on_ 32 42 (mk 48 0x1FFFFFFFF) ?_
                  refine on_ 33 43 (mk 48 0x3FFFFFFFF) ?_
                  refine of_ 34 44 (mk 48 0x7FFFFFFFF) ?_
                  refine of_ 35 45 (mk 48 0xFFFFFFFFF) ?_
                  refine of_ 36 46 (mk 48 0x1FFFFFFFFF) ?_
                  refine of_ 37 47 (mk 48 0x3FFFFFFFFF) ?_
                  refine of_ 38 48 (mk 48 0x7FFFFFFFFF) ?_
                  refine of_ 39 49 (mk 48 0xFFFFFFFFFF) ?_
                  refine of_ 40 50 (mk 48 0x1FFFFFFFFFF) ?_
                  refine of_ 41 51 (mk 48 0x3FFFFFFFFFF) ?_
                  refine of_ 42 52 (mk 48 0x7FFFFFFFFFF) ?_
                  refine of_ 43 53 (mk 48 0xFFFFFFFFFFF) ?_
                  refine of_ 44 54 (mk 48 0x1FFFFFFFFFFF) ?_
                  refine of_ 45 55 (mk 48 0x3FFFFFFFFFFF) ?_
                  refine on_ 46 56 (mk 48 0x7FFFFFFFFFFF) ?_
                  refine on_ 47 57 (mk 48 0xFFFFFFFFFFFF) ?_
                  refine dn_ ?_
                  have H' := Aside0.mk H
                  clear H
                  go_wp2
                  go_roundg k1
                  case measure => have := HK1.out; omega
                  case rel => exact ⟨wrap64 (i + 1), (by first | rfl | (simp; done) | (simp [*]; done)), H', ⟨by have := HK1.out; omega⟩, ⟨(by repeat (first | (with_reducible first | exact HB.out | apply below_alloc | apply pw_below_drewN | apply below_drew1) | exact HB.out))⟩⟩
              · rw [if_neg c7] at H
                replace c7 := Bool.eq_false_iff.mpr c7
                subst c7
                obtain rfl := Option.some.inj H
                clear H
                refine on_ 28 38 (mk 48 0x1FFFFFFF) ?_
                refine on_ 29 39 (mk 48 0x3FFFFFFF) ?_
                refine on_ 30 40 (mk 48 0x7FFFFFFF) ?_
                refine of_ 31 41 (mk 48 0xFFFFFFFF) ?_
                refine of_ 32 42 (mk 48 0x1FFFFFFFF) ?_
                refine of_ 33 43 (mk 48 0x3FFFFFFFF) ?_
                refine of_ 34 44 (mk 48 0x7FFFFFFFF) ?_
                refine of_ 35 45 (mk 48 0xFFFFFFFFF) ?_
                refine of_ 36 46 (mk 48 0x1FFFFFFFFF) ?_
                refine of_ 37 47 (mk 48 0x3FFFFFFFFF) ?_
                refine of_ 38 48 (mk 48 0x7FFFFFFFFF) ?_
                refine of_ 39 49 (mk 48 0xFFFFFFFFFF) ?_
                refine of_ 40 50 (mk 48 0x1FFFFFFFFFF) ?_
                refine of_ 41 51 (mk 48 0x3FFFFFFFFFF) ?_
                refine of_ 42 52 (mk 48 0x7FFFFFFFFFF) ?_
                refine of_ 43 53 (mk 48 0xFFFFFFFFFFF) ?_
                refine of_ 44 54 (mk 48 0x1FFFFFFFFFFF) ?_
                refine of_ 45 55 (mk 48 0x3FFFFFFFFFFF) ?_
                refine of_ 46 56 (mk 48 0x7FFFFFFFFFFF) ?_
                refine on_ 47 57 (mk 48 0xFFFFFFFFFFFF) ?_
                refine dn_ ?_
                go_wp2
                go_ret
                exact ⟨(by first | rfl | (simp [errW_none, errW_some] <;> rfl) | (simp [*, errW_none, errW_some] <;> rfl)), (by repeat (first | (with_reducible first | exact HB.out | apply below_alloc | apply pw_below_drewN | apply below_drew1) | exact HB.out))⟩
            · rw [if_neg c5] at H
              have c2b : (d != t2) = true := bne_iff_ne.mpr c5
              obtain rfl := Option.some.inj H
              clear H
              refine on_ 19 29 (mk 48 0xFFFFF) ?_
              refine on_ 20 30 (mk 48 0x1FFFFF) ?_
              refine on_ 21 31 (mk 48 0x3FFFFF) ?_
              refine of_ 22 32 (mk 48 0x7FFFFF) ?_
              refine of_ 23 33 (mk 48 0xFFFFFF) ?_
              refine of_ 24 34 (mk 48 0x1FFFFFF) ?_
              refine of_ 25 35 (mk 48 0x3FFFFFF) ?_
              refine of_ 26 36 (mk 48 0x7FFFFFF) ?_
              refine of_ 27 37 (mk 48 0xFFFFFFF) ?_
              refine of_ 28 38 (mk 48 0x1FFFFFFF) ?_
              refine on_ 29 39 (mk 48 0x3FFFFFFF) ?_
              refine on_ 30 40 (mk 48 0x7FFFFFFF) ?_
              refine of_ 31 41 (mk 48 0xFFFFFFFF) ?_
              refine of_ 32 42 (mk 48 0x1FFFFFFFF) ?_
              refine of_ 33 43 (mk 48 0x3FFFFFFFF) ?_
              refine of_ 34 44 (mk 48 0x7FFFFFFFF) ?_
              refine of_ 35 45 (mk 48 0xFFFFFFFFF) ?_
              refine of_ 36 46 (mk 48 0x1FFFFFFFFF) ?_
              refine of_ 37 47 (mk 48 0x3FFFFFFFFF) ?_
              refine of_ 38 48 (mk 48 0x7FFFFFFFFF) ?_
              refine of_ 39 49 (mk 48 0xFFFFFFFFFF) ?_
              refine of_ 40 50 (mk 48 0x1FFFFFFFFFF) ?_
              refine of_ 41 51 (mk 48 0x3FFFFFFFFFF) ?_
              refine of_ 42 52 (mk 48 0x7FFFFFFFFFF) ?_
              refine of_ 43 53 (mk 48 0xFFFFFFFFFFF) ?_
              refine of_ 44 54 (mk 48 0x1FFFFFFFFFFF) ?_
              refine of_ 45 55 (mk 48 0x3FFFFFFFFFFF) ?_
              refine of_ 46 56 (mk 48 0x7FFFFFFFFFFF) ?_
              refine on_ 47 57 (mk 48 0xFFFFFFFFFFFF) ?_
              refine dn_ ?_
              go_wp2
              go_ret
              exact ⟨(by first | rfl | (simp [errW_none, errW_some] <;> rfl) | (simp [*, errW_none, errW_some] <;> rfl)), (by repeat (first | (with_reducible first | exact HB.out | apply below_alloc | apply pw_below_drewN | apply below_drew1) | exact HB.out))⟩
          · rw [if_neg c1] at H
            replace c1 := Bool.eq_false_iff.mpr c1
            subst c1
            obtain rfl := Option.some.inj H
            clear H
            refine on_ 6 16 (mk 48 0x7F) ?_
            refine on_ 7 17 (mk 48 0xFF) ?_
            refine of_ 8 18 (mk 48 0x1FF) ?_
            refine of_ 9 19 (mk 48 0x3FF) ?_
            refine of_ 10 20 (mk 48 0x7FF) ?_
            refine of_ 11 21 (mk 48 0xFFF) ?_
            refine of_ 12 22 (mk 48 0x1FFF) ?_
            refine of_ 13 23 (mk 48 0x3FFF) ?_
            refine of_ 14 24 (mk 48 0x7FFF) ?_
            refine of_ 15 25 (mk 48 0xFFFF) ?_
            refine of_ 16 26 (mk 48 0x1FFFF) ?_
            refine of_ 17 27 (mk 48 0x3FFFF) ?_
            refine of_ 18 28 (mk 48 0x7FFFF) ?_
            refine of_ 19 29 (mk 48 0xFFFFF) ?_
            refine on_ 20 30 (mk 48 0x1FFFFF) ?_
            refine on_ 21 31 (mk 48 0x3FFFFF) ?_
            refine of_ 22 32 (mk 48 0x7FFFFF) ?_
            refine of_ 23 33 (mk 48 0xFFFFFF) ?_
            refine of_ 24 34 (mk 48 0x1FFFFFF) ?_
            refine of_ 25 35 (mk 48 0x3FFFFFF) ?_
            refine of_ 26 36 (mk 48 0x7FFFFFF) ?_
            refine of_ 27 37 (mk 48 0xFFFFFFF) ?_
            refine of_ 28 38 (mk 48 0x1FFFFFFF) ?_
            refine on_ 29 39 (mk 48 0x3FFFFFFF) ?_
            refine on_ 30 40 (mk 48 0x7FFFFFFF) ?_
            refine of_ 31 41 (mk 48 0xFFFFFFFF) ?_
            refine of_ 32 42 (mk 48 0x1FFFFFFFF) ?_
            refine of_ 33 43 (mk 48 0x3FFFFFFFF) ?_
            refine of_ 34 44 (mk 48 0x7FFFFFFFF) ?_
            refine of_ 35 45 (mk 48 0xFFFFFFFFF) ?_
            refine of_ 36 46 (mk 48 0x1FFFFFFFFF) ?_
            refine of_ 37 47 (mk 48 0x3FFFFFFFFF) ?_
            refine of_ 38 48 (mk 48 0x7FFFFFFFFF) ?_
            refine of_ 39 49 (mk 48 0xFFFFFFFFFF) ?_
            refine of_ 40 50 (mk 48 0x1FFFFFFFFFF) ?_
            refine of_ 41 51 (mk 48 0x3FFFFFFFFFF) ?_
            refine of_ 42 52 (mk 48 0x7FFFFFFFFFF) ?_
            refine of_ 43 53 (mk 48 0xFFFFFFFFFFF) ?_
            refine of_ 44 54 (mk 48 0x1FFFFFFFFFFF) ?_
            refine of_ 45 55 (mk 48 0x3FFFFFFFFFFF) ?_
            refine of_ 46 56 (mk 48 0x7FFFFFFFFFFF) ?_
            refine on_ 47 57 (mk 48 0xFFFFFFFFFFFF) ?_
            refine dn_ ?_
            go_wp2
            go_ret
            exact ⟨(by first | rfl | (simp [errW_none, errW_some] <;> rfl) | (simp [*, errW_none, errW_some] <;> rfl)), (by repeat (first | (with_reducible first | exact HB.out | apply below_alloc | apply pw_below_drewN | apply below_drew1) | exact HB.out))⟩
        · rw [if_neg c4] at H
          exact absurd H (by simp)
      · rw [if_neg c3] at H
        have c3b0 : decide (i < (l0.length : Int)) = false := decide_eq_false c3
        obtain rfl := Option.some.inj H
        clear c3 H
        go_wp2
        go_ret
        exact ⟨(by first | rfl | (simp [errW_none, errW_some] <;> rfl) | (simp [*, errW_none, errW_some] <;> rfl)), (by repeat (first | (with_reducible first | exact HB.out | apply below_alloc | apply pw_below_drewN | apply below_drew1) | exact HB.out))⟩

end Go.Proofs.Ytlpfobakbgipbaa.QFnParts
