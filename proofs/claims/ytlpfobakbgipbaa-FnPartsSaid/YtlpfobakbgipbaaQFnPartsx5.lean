/- The Go functions that the law FnParts comes to, each as a Lean function, with a proof that the call does what it says; written by a program of this session over the print of the kit. No conditions. -/
import Derived.Test.YtlpfobakbgipbaaQFnPartsx0
import Derived.Test.YtlpfobakbgipbaaQFnPartsx4
namespace Go.Proofs.Ytlpfobakbgipbaa.QFnParts
open Go.RowKit Go.Proofs.YtlpfobakbgipbaaW.PrintWords Go.Proofs.YtlpfobakbgipbaaW.PrintLast Go.Proofs.YtlpfobakbgipbaaW.PrintMore
attribute [local go_sem] max2_int min2_int max_two min_two max_three min_three max_four min_four   -- for this text's walks alone
set_option linter.unusedVariables false
set_option linter.unusedSimpArgs false

/-! ### spec_l5Body: function 86 -/
def spec_l5Body.l0 : Nat → List Int → Int → List Int → Int → Int → Option (List Int × Int × Int)
  | 0, _, _, _, _, _ => none
  | k + 1, x3, x4, x1000, x1001, x1002 => if x4 > 0 then ((spec_l1Below.f x1000 x1001 x1002 9).bind fun bt238 => (if x3.length < 17592186044416 then (spec_l5Body.l0 k (x3 ++ [bt238.1]) (wrap64 (x4 - 1)) x1000 bt238.2.1 bt238.2.2) else (none))) else (some (x3, x1001, x1002))
def spec_l5Body.f (k : Nat) (s0_0 : List Int) (s0_1 : Int) (s0_2 : Int) : Option (List Int × Int × Int) := (spec_l1Below.f s0_0 s0_1 s0_2 5).bind fun bt235 => (spec_l5Body.l0 k (([] : List Int)) bt235.1 s0_0 bt235.2.1 bt235.2.2)
set_option maxHeartbeats 8000000 in
set_option maxRecDepth 100000 in
theorem spec_l5Body.calls (k : Nat) (g : Nat) (s0_0 : List Int) (s0_1 : Int) (s0_2 : Int) (r1 : List Int) (r2 : Int) (r3 : Int) (w0 w : World) (hI : IsS88 w0 w g s0_0 s0_1 s0_2) (hB : Below w0.heap.size w0 w) (h : spec_l5Body.f k s0_0 s0_1 s0_2 = some (r1, r2, r3)) :
    Calls Try.prog 86 #[.pointer (some ⟨g, 0, none⟩)] w fun e w' => ∃ v0_ : Value, e = .returned (v0_) ∧ Kd.R (Kd.int .i64) 3 w' w.heap.size (fun _ => True) v0_ r1 ∧ IsS88 w0 w' g s0_0 r2 r3 ∧ Below w0.heap.size w0 w' ∧ KeepBut w w' g none := by
  have HI0 := Aside0.mk hI
  have HK := Aside0.mk (KeepBut.refl w g none)
  have HL := Aside0.mk hB.size
  clear hI
  have HW0 := Aside0.mk hB.size
  have HB := Aside0.mk hB
  clear hB
  have H : ((spec_l1Below.f s0_0 s0_1 s0_2 5).bind fun bt235 => (spec_l5Body.l0 k (([] : List Int)) bt235.1 s0_0 bt235.2.1 bt235.2.2)) = some (r1, r2, r3) := h
  clear h
  obtain ⟨y232, hy232⟩ : ∃ y_ : List Int, y_ = (([] : List Int)) := ⟨_, rfl⟩
  replace H : ((spec_l1Below.f s0_0 s0_1 s0_2 5).bind fun bt235 => (spec_l5Body.l0 k y232 bt235.1 s0_0 bt235.2.1 bt235.2.2)) = some (r1, r2, r3) := by first | (rw [hy232]; with_reducible exact H) | (have H2_ := (Option.bind_some _ _).symm.trans H; rw [hy232]; with_reducible exact H2_) | (have H2_ := (Option.bind_some _ _).symm.trans H; with_reducible exact H2_) | with_reducible exact H | (rw [hy232]; exact H) | exact H
  have Ny232 := Aside0.mk hy232
  clear hy232
  replace H := Option.bind_eq_some_iff.mp H
  obtain ⟨⟨t235, t236, t237⟩, A20, H⟩ := H
  replace H : (spec_l5Body.l0 k y232 t235 s0_0 t236 t237) = some (r1, r2, r3) := H
  have A2 := Aside0.mk A20
  clear A20
  have H' := Aside0.mk H
  clear H
  go_enter Try.func86, Try.ntmps86
  go_wp2_with (first | ((with_reducible refine gate_dst (N := 5) rfl ?_); refine Kd.R_lit (Kd.int .i64) _ 3 ?hg (N := 5) ?hd (xs := ([] : List Int)) (inner := []) (ok := fun _ => True) (okp := fun _ => True) ?hr ?hp (fun _ hk => hk) trivial (Below.refl _ _) (Nat.le_refl _) (by simp) ?_; (case hd => rfl); (case hg => rfl); (case hr => first | (go_simp; done) | (go_simp; rfl)); (case hp => exact (Reps.none _ _)); intro v233 w3 ho4 hb hg_ hnew_; clear hg_ hnew_; (first | rw [← Ny232.out] at ho4 | (simp only [Int.reduceToNat] at ho4; rw [← Ny232.out] at ho4)); have n0_ := Aside0.mk (Kd.R_lower ho4 (keep_size (w := w) (g := g) (row := none) (by repeat (first | (with_reducible first | exact HK.out | apply KeepBut.set_ | apply keep_drewN | apply keep_drew | apply keep_alloc) | exact HK.out)))); have n1_ := Aside0.mk (IsS88.below (by repeat (first | (with_reducible first | exact HI0.out | apply IsS88.alloc | apply IsS88.drewN | apply IsS88.drew | apply IsS88.set_1 | apply IsS88.set_2) | exact HI0.out)) hb); have n2_ := Aside0.mk (KeepBut.trans (by repeat (first | (with_reducible first | exact HK.out | apply KeepBut.set_ | apply keep_drewN | apply keep_drew | apply keep_alloc) | exact HK.out)) (KeepBut.of_below hb g none) (.inl rfl)); have n3_ := Aside0.mk (below_step (by repeat (first | (with_reducible first | exact HB.out | apply below_alloc | apply pw_below_drewN | apply below_drew1 | refine below_set ?_ (IsS88.ge HI0.out)) | exact HB.out)) hb); clear HI0; clear HK; clear HB; have HO234 := n0_; have HI0 := n1_; have HK := n2_; have HB := n3_; clear n0_ n1_ n2_ n3_; clear hb ho4) | ((with_reducible refine gate_callee (f := 54) rfl ?_); refine goesL_ (some 7) rfl rfl Try.func54 (by kernel_rfl) rfl #[.pointer (some ⟨g, 0, none⟩), .int .i64 5] rfl (by (try simp only [List.map_toArray, List.map_cons, List.map_nil]); first | done | rfl | (simp only [List.length_drop, List.length_take]; rfl)) ?_; (with_reducible refine (spec_l1Below.calls g s0_0 s0_1 s0_2 5 t235 t236 t237 w0 _ ?side1 ?side2 A2.out).mono ?_); (case side1 => repeat (first | (with_reducible first | exact HI0.out | apply IsS88.alloc | apply IsS88.drewN | apply IsS88.drew | apply IsS88.set_1 | apply IsS88.set_2) | exact HI0.out)); (case side2 => repeat (first | (with_reducible first | exact HB.out | apply below_alloc | apply pw_below_drewN | apply below_drew1 | refine below_set ?_ (IsS88.ge HI0.out)) | exact HB.out)); rintro e w5 ⟨rfl, hi, hb, hk⟩; refine ⟨_, rfl, ?_⟩; have n0_ := Aside0.mk (Kd.R_mono (Kd.R_keep (IsS88.apart (show IsS88 w0 _ g s0_0 s0_1 s0_2 from by repeat (first | (with_reducible first | exact HI0.out | apply IsS88.alloc | apply IsS88.drewN | apply IsS88.drew | apply IsS88.set_1 | apply IsS88.set_2) | exact HI0.out)) (by (with_reducible repeat (first | apply Kd.R_alloc | apply Kd.R_drewN | apply Kd.R_drew)); exact HO234.out) (by decide)) hk (fun _ h => h.2)) (fun _ h => h.1)); have n1_ := Aside0.mk (KeepBut.trans (by repeat (first | (with_reducible first | exact HK.out | apply KeepBut.set_ | apply keep_drewN | apply keep_drew | apply keep_alloc) | exact HK.out)) hk (.inl rfl)); have n2_ := Aside0.mk (hb); have n3_ := Aside0.mk (hi); clear HO234; clear HK; clear HB; clear HI0; have HO234 := n0_; have HK := n1_; have HB := n2_; have HI0 := n3_; clear n0_ n1_ n2_ n3_; (try clear hb); (try clear hb2); (try clear hk); (try clear hi)))
  go_loopg [3, 4] k (fun kq v3 v4 w' => ∃ (x3_1 : List Int) (x4_1 : Int) (x1001_1 : Int) (x1002_1 : Int), v4 = .int .i64 x4_1 ∧ Aside0 (spec_l5Body.l0 kq x3_1 x4_1 s0_0 x1001_1 x1002_1 = some (r1, r2, r3)) ∧ Aside0 (kq ≤ k) ∧ Aside0 (Kd.R (Kd.int .i64) 3 w' w.heap.size (fun _ => True) v3 x3_1) ∧ Aside0 (IsS88 w0 w' g s0_0 x1001_1 x1002_1) ∧ Aside0 (KeepBut w w' g none) ∧ Aside0 (Below w0.heap.size w0 w'))
  case atStart => exact ⟨(y232), (t235), (t236), (t237), (by first | rfl | (simp; done) | (simp [*]; done)), H', ⟨Nat.le_refl _⟩, ⟨by (with_reducible repeat (first | apply Kd.R_alloc | apply Kd.R_drewN | apply Kd.R_drew)); exact HO234.out⟩, ⟨by repeat (first | (with_reducible first | exact HI0.out | apply IsS88.alloc | apply IsS88.drewN | apply IsS88.drew | apply IsS88.set_1 | apply IsS88.set_2) | exact HI0.out)⟩, ⟨by repeat (first | (with_reducible first | exact HK.out | apply KeepBut.set_ | apply keep_drewN | apply keep_drew | apply keep_alloc) | exact HK.out)⟩, ⟨by repeat (first | (with_reducible first | exact HB.out | apply below_alloc | apply pw_below_drewN | apply below_drew1 | refine below_set ?_ (IsS88.ge HI0.out)) | exact HB.out)⟩⟩
  case round =>
    clear H'
    try clear p2
    try clear c5
    obtain ⟨x3_1, x4_1, x1001_1, x1002_1, rfl, HA, HK1, HO_3, HI0, HK, HB⟩ := hrel
    cases gk with
    | zero => exact absurd HA.out (by simp [spec_l5Body.l0])
    | succ k1 =>
      have H := HA.out
      clear HA
      simp only [spec_l5Body.l0] at H
      by_cases c6 : x4_1 > 0
      · rw [if_pos c6] at H
        have c6b0 : decide (0 < x4_1) = true := decide_eq_true c6
        clear c6
        replace H := Option.bind_eq_some_iff.mp H
        obtain ⟨⟨t238, t239, t240⟩, A70, H⟩ := H
        replace H : (if x3_1.length < 17592186044416 then (spec_l5Body.l0 k1 (x3_1 ++ [t238]) (wrap64 (x4_1 - 1)) s0_0 t239 t240) else (none)) = some (r1, r2, r3) := H
        have A7 := Aside0.mk A70
        clear A70
        by_cases c8 : x3_1.length < 17592186044416
        · rw [if_pos c8] at H
          have LMc8 := Aside0.mk c8
          clear c8
          obtain ⟨y241, hy241⟩ : ∃ y_ : List Int, y_ = (x3_1 ++ [t238]) := ⟨_, rfl⟩
          replace H : (spec_l5Body.l0 k1 y241 (wrap64 (x4_1 - 1)) s0_0 t239 t240) = some (r1, r2, r3) := by first | (rw [hy241]; with_reducible exact H) | (have H2_ := (Option.bind_some _ _).symm.trans H; rw [hy241]; with_reducible exact H2_) | (have H2_ := (Option.bind_some _ _).symm.trans H; with_reducible exact H2_) | with_reducible exact H | (rw [hy241]; exact H) | exact H
          have Ny241 := Aside0.mk hy241
          clear hy241
          have H' := Aside0.mk H
          clear H
          go_wp2_with (first | ((with_reducible refine gate_callee (f := 54) rfl ?_); refine goesL_ (some 14) rfl rfl Try.func54 (by kernel_rfl) rfl #[.pointer (some ⟨g, 0, none⟩), .int .i64 9] rfl (by (try simp only [List.map_toArray, List.map_cons, List.map_nil]); first | done | rfl | (simp only [List.length_drop, List.length_take]; rfl)) ?_; (with_reducible refine (spec_l1Below.calls g s0_0 x1001_1 x1002_1 9 t238 t239 t240 w0 _ ?side1 ?side2 A7.out).mono ?_); (case side1 => repeat (first | (with_reducible first | exact HI0.out | apply IsS88.alloc | apply IsS88.drewN | apply IsS88.drew | apply IsS88.set_1 | apply IsS88.set_2) | exact HI0.out)); (case side2 => repeat (first | (with_reducible first | exact HB.out | apply below_alloc | apply pw_below_drewN | apply below_drew1 | refine below_set ?_ (IsS88.ge HI0.out)) | exact HB.out)); rintro e w9 ⟨rfl, hi, hb, hk⟩; refine ⟨_, rfl, ?_⟩; have n0_ := Aside0.mk (Kd.R_mono (Kd.R_keep (IsS88.apart (show IsS88 w0 _ g s0_0 x1001_1 x1002_1 from by repeat (first | (with_reducible first | exact HI0.out | apply IsS88.alloc | apply IsS88.drewN | apply IsS88.drew | apply IsS88.set_1 | apply IsS88.set_2) | exact HI0.out)) (by (with_reducible repeat (first | apply Kd.R_alloc | apply Kd.R_drewN | apply Kd.R_drew)); exact HO_3.out) (by decide)) hk (fun _ h => h.2)) (fun _ h => h.1)); have n1_ := Aside0.mk (KeepBut.trans (by repeat (first | (with_reducible first | exact HK.out | apply KeepBut.set_ | apply keep_drewN | apply keep_drew | apply keep_alloc) | exact HK.out)) hk (.inl rfl)); have n2_ := Aside0.mk (hb); have n3_ := Aside0.mk (hi); clear HO_3; clear HK; clear HB; clear HI0; have HO_3 := n0_; have HK := n1_; have HB := n2_; have HI0 := n3_; clear n0_ n1_ n2_ n3_; (try clear hb); (try clear hb2); (try clear hk); (try clear hi)) | ((with_reducible refine gate_builtin (b := .append) (xs := #[.tmp 12, .tmp 15]) rfl ?_); at_builtin; refine Kd.R_append (Kd.int .i64) w.heap.size rfl (.tmp 12) (.tmp 15) 23 3 (.int .i64 0) 8 rfl Try.underlying23 info3 rfl (by decide) (by omega) u3 x3_1 t238 [.int .i64 t238] (fun _ => True) (fun _ => False) rfl rfl ?aP (fun _ hk => hk.elim) ?aF ?aO (Below.refl _ _) ?aS ?aL ?_; (case aP => exact rfl); (case aF => exact (fun _ _ => trivial)); (case aO => exact (by (with_reducible repeat (first | apply Kd.R_alloc | apply Kd.R_drewN | apply Kd.R_drew)); exact HO_3.out)); (case aS => exact (keep_size (w := w) (g := g) (row := none) (by repeat (first | (with_reducible first | exact HK.out | apply KeepBut.set_ | apply keep_drewN | apply keep_drew | apply keep_alloc) | exact HK.out)))); (case aL => have := LMc8.out; omega); intro v242 w10 ho hb hg hat; rw [← Ny241.out] at ho; have n0_ := Aside0.mk (IsS88.grown (by repeat (first | (with_reducible first | exact HI0.out | apply IsS88.alloc | apply IsS88.drewN | apply IsS88.drew | apply IsS88.set_1 | apply IsS88.set_2) | exact HI0.out)) hg (IsS88.own_ne HI0.out HO_3.out (by decide))); have n1_ := Aside0.mk (below_weaken (by repeat (first | (with_reducible first | exact HB.out | apply below_alloc | apply pw_below_drewN | apply below_drew1 | refine below_set ?_ (IsS88.ge HI0.out)) | exact HB.out)) HL.out hb); have n2_ := Aside0.mk (KeepBut.trans (by repeat (first | (with_reducible first | exact HK.out | apply KeepBut.set_ | apply keep_drewN | apply keep_drew | apply keep_alloc) | exact HK.out)) (KeepBut.of_grown hg g) (Kd.R_base2 HO_3.out)); have n3_ := Aside0.mk (ho); clear HI0; clear HB; clear HK; clear HO_3; have HI0 := n0_; have HB := n1_; have HK := n2_; have HO243 := n3_; clear n0_ n1_ n2_ n3_; clear ho hb hg hat))
          go_roundg k1
          case measure => have := HK1.out; omega
          case rel => exact ⟨(y241), (wrap64 (x4_1 - 1)), (t239), (t240), (by first | rfl | (simp; done) | (simp [*]; done)), H', ⟨by have := HK1.out; omega⟩, ⟨by (with_reducible repeat (first | apply Kd.R_alloc | apply Kd.R_drewN | apply Kd.R_drew)); exact HO243.out⟩, ⟨by repeat (first | (with_reducible first | exact HI0.out | apply IsS88.alloc | apply IsS88.drewN | apply IsS88.drew | apply IsS88.set_1 | apply IsS88.set_2) | exact HI0.out)⟩, ⟨by repeat (first | (with_reducible first | exact HK.out | apply KeepBut.set_ | apply keep_drewN | apply keep_drew | apply keep_alloc) | exact HK.out)⟩, ⟨by repeat (first | (with_reducible first | exact HB.out | apply below_alloc | apply pw_below_drewN | apply below_drew1 | refine below_set ?_ (IsS88.ge HI0.out)) | exact HB.out)⟩⟩
        · rw [if_neg c8] at H
          exact absurd H (by simp)
      · rw [if_neg c6] at H
        have c6b0 : decide (0 < x4_1) = false := decide_eq_false c6
        clear c6
        simp only [Option.some.injEq, Prod.mk.injEq] at H
        obtain ⟨rfl, rfl, rfl⟩ := H
        go_wp2
        go_ret
        exact ⟨_, by first | rfl | (simp [errW_none, errW_some] <;> rfl) | (simp [*, errW_none, errW_some] <;> rfl), by (with_reducible repeat (first | apply Kd.R_alloc | apply Kd.R_drewN | apply Kd.R_drew)); exact HO_3.out, by repeat (first | (with_reducible first | exact HI0.out | apply IsS88.alloc | apply IsS88.drewN | apply IsS88.drew | apply IsS88.set_1 | apply IsS88.set_2) | exact HI0.out), by repeat (first | (with_reducible first | exact HB.out | apply below_alloc | apply pw_below_drewN | apply below_drew1 | refine below_set ?_ (IsS88.ge HI0.out)) | exact HB.out), by repeat (first | (with_reducible first | exact HK.out | apply KeepBut.set_ | apply keep_drewN | apply keep_drew | apply keep_alloc) | exact HK.out)⟩

/-! ### spec_l5Draw: function 75 -/
def spec_l5Draw.f (k : Nat) (s0_0 : List Int) (s0_1 : Int) (s0_2 : Int) : Option (Int × List Int × Int × Int × Int × Int × Int) := (spec_l1Below.f s0_0 s0_1 s0_2 6).bind fun bt245 => (if bt245.1 = 0 then ((spec_l4Draw.f s0_0 bt245.2.1 bt245.2.2).bind fun bt248 => (some (3, ([] : List Int), bt248.1, bt248.2.1, bt248.2.2.1, bt248.2.2.2.1, bt248.2.2.2.2))) else (if bt245.1 = 1 then (some (4, ([] : List Int), 0, 0, 0, bt245.2.1, bt245.2.2)) else ((spec_l1Below.f s0_0 bt245.2.1 bt245.2.2 2).bind fun bt253 => ((spec_l5Body.f k s0_0 bt253.2.1 bt253.2.2).bind fun bt256 => (some (wrap64 (1 + bt253.1), bt256.1, 0, 0, 0, bt256.2.1, bt256.2.2))))))
set_option maxHeartbeats 8000000 in
set_option maxRecDepth 100000 in
theorem spec_l5Draw.calls (k : Nat) (g : Nat) (s0_0 : List Int) (s0_1 : Int) (s0_2 : Int) (r1 : Int) (r2 : List Int) (r3 : Int) (r4 : Int) (r5 : Int) (r6 : Int) (r7 : Int) (w0 w : World) (hI : IsS88 w0 w g s0_0 s0_1 s0_2) (hB : Below w0.heap.size w0 w) (h : spec_l5Draw.f k s0_0 s0_1 s0_2 = some (r1, r2, r3, r4, r5, r6, r7)) :
    Calls Try.prog 75 #[.pointer (some ⟨g, 0, none⟩)] w fun e w' => ∃ v1_ : Value, e = .returned (.agg #[.int .i64 r1, v1_, .int .i64 r3, .int .i64 r4, .int .i64 r5]) ∧ Kd.R (Kd.int .i64) 3 w' w.heap.size (fun _ => True) v1_ r2 ∧ IsS88 w0 w' g s0_0 r6 r7 ∧ Below w0.heap.size w0 w' ∧ KeepBut w w' g none := by
  have hu36 := Try.underlying36
  have HI0 := Aside0.mk hI
  have HK := Aside0.mk (KeepBut.refl w g none)
  have HL := Aside0.mk hB.size
  clear hI
  have HW0 := Aside0.mk hB.size
  have HB := Aside0.mk hB
  clear hB
  have H : ((spec_l1Below.f s0_0 s0_1 s0_2 6).bind fun bt245 => (if bt245.1 = 0 then ((spec_l4Draw.f s0_0 bt245.2.1 bt245.2.2).bind fun bt248 => (some (3, ([] : List Int), bt248.1, bt248.2.1, bt248.2.2.1, bt248.2.2.2.1, bt248.2.2.2.2))) else (if bt245.1 = 1 then (some (4, ([] : List Int), 0, 0, 0, bt245.2.1, bt245.2.2)) else ((spec_l1Below.f s0_0 bt245.2.1 bt245.2.2 2).bind fun bt253 => ((spec_l5Body.f k s0_0 bt253.2.1 bt253.2.2).bind fun bt256 => (some (wrap64 (1 + bt253.1), bt256.1, 0, 0, 0, bt256.2.1, bt256.2.2))))))) = some (r1, r2, r3, r4, r5, r6, r7) := h
  clear h
  replace H := Option.bind_eq_some_iff.mp H
  obtain ⟨⟨t245, t246, t247⟩, A20, H⟩ := H
  replace H : (if t245 = 0 then ((spec_l4Draw.f s0_0 t246 t247).bind fun bt248 => (some (3, ([] : List Int), bt248.1, bt248.2.1, bt248.2.2.1, bt248.2.2.2.1, bt248.2.2.2.2))) else (if t245 = 1 then (some (4, ([] : List Int), 0, 0, 0, t246, t247)) else ((spec_l1Below.f s0_0 t246 t247 2).bind fun bt253 => ((spec_l5Body.f k s0_0 bt253.2.1 bt253.2.2).bind fun bt256 => (some (wrap64 (1 + bt253.1), bt256.1, 0, 0, 0, bt256.2.1, bt256.2.2)))))) = some (r1, r2, r3, r4, r5, r6, r7) := H
  have A2 := Aside0.mk A20
  clear A20
  by_cases c3 : t245 = 0
  · rw [if_pos c3] at H
    have c3b0 : (t245 == 0) = true := beq_iff_eq.mpr c3
    have c3b1 : (t245 != 0) = false := bne_eq_false_iff_eq.mpr c3
    clear c3
    replace H := Option.bind_eq_some_iff.mp H
    obtain ⟨⟨t248, t249, t250, t251, t252⟩, A40, H⟩ := H
    replace H : (some (3, ([] : List Int), t248, t249, t250, t251, t252)) = some (r1, r2, r3, r4, r5, r6, r7) := H
    have A4 := Aside0.mk A40
    clear A40
    simp only [Option.some.injEq, Prod.mk.injEq] at H
    obtain ⟨rfl, rfl, rfl, rfl, rfl, rfl, rfl⟩ := H
    go_enter Try.func75, Try.ntmps75
    go_wp2_with (first | ((with_reducible refine gate_dst (N := 2) rfl ?_); refine box_event ?hg (N := 2) ?hd (cs := #[.int .i64 0, .slice none 0 0, .int .i64 0, .int .i64 0, .int .i64 0]) (t := 36) ?hr ?_; (case hd => rfl); (case hg => rfl); (case hr => first | (go_simp; done) | (go_simp; rfl)); intro gb244 hg w5 hbox hb; have n0_ := Aside0.mk (IsS88.below (by repeat (first | (with_reducible first | exact HI0.out | apply IsS88.alloc | apply IsS88.drewN | apply IsS88.drew | apply IsS88.set_1 | apply IsS88.set_2) | exact HI0.out)) hb); have n1_ := Aside0.mk (KeepBut.trans (by repeat (first | (with_reducible first | exact HK.out | apply KeepBut.set_ | apply keep_drewN | apply keep_drew | apply keep_alloc) | exact HK.out)) (KeepBut.of_below hb g none) (.inl rfl)); have n2_ := Aside0.mk (below_step (by repeat (first | (with_reducible first | exact HB.out | apply below_alloc | apply pw_below_drewN | apply below_drew1 | refine below_set ?_ (IsS88.ge HI0.out)) | exact HB.out)) hb); have n3_ := Aside0.mk (hbox); have n4_ := Aside0.mk ((by rw [hg]; exact (keep_size (w := w) (g := g) (row := none) (by repeat (first | (with_reducible first | exact HK.out | apply KeepBut.set_ | apply keep_drewN | apply keep_drew | apply keep_alloc) | exact HK.out))) : w.heap.size ≤ gb244)); have n5_ := Aside0.mk ((Nat.le_trans HW0.out (by rw [hg]; exact (keep_size (w := w) (g := g) (row := none) (by repeat (first | (with_reducible first | exact HK.out | apply KeepBut.set_ | apply keep_drewN | apply keep_drew | apply keep_alloc) | exact HK.out))) : w.heap.size ≤ gb244) : w0.heap.size ≤ gb244)); have n6_ := Aside0.mk ((by rw [hg]; exact Nat.ne_of_lt (IsS88.lt (show IsS88 w0 _ g s0_0 s0_1 s0_2 from by repeat (first | (with_reducible first | exact HI0.out | apply IsS88.alloc | apply IsS88.drewN | apply IsS88.drew | apply IsS88.set_1 | apply IsS88.set_2) | exact HI0.out))) : g ≠ gb244)); have n7_ := Aside0.mk ((by rw [hg]; exact Nat.ne_of_gt (IsS88.lt (show IsS88 w0 _ g s0_0 s0_1 s0_2 from by repeat (first | (with_reducible first | exact HI0.out | apply IsS88.alloc | apply IsS88.drewN | apply IsS88.drew | apply IsS88.set_1 | apply IsS88.set_2) | exact HI0.out))) : gb244 ≠ g)); clear HI0; clear HK; clear HB; have HI0 := n0_; have HK := n1_; have HB := n2_; have BK244 := n3_; have GW244 := n4_; have GE244 := n5_; have NB0_244 := n6_; have NB244_0 := n7_; clear n0_ n1_ n2_ n3_ n4_ n5_ n6_ n7_; clear hb hbox hg) | ((with_reducible refine gate_callee (f := 54) rfl ?_); refine goesL_ (some 4) rfl rfl Try.func54 (by kernel_rfl) rfl #[.pointer (some ⟨g, 0, none⟩), .int .i64 6] rfl (by (try simp only [List.map_toArray, List.map_cons, List.map_nil]); first | done | rfl | (simp only [List.length_drop, List.length_take]; rfl)) ?_; (with_reducible refine (spec_l1Below.calls g s0_0 s0_1 s0_2 6 t245 t246 t247 w0 _ ?side1 ?side2 A2.out).mono ?_); (case side1 => repeat (first | (with_reducible first | exact HI0.out | apply IsS88.alloc | apply IsS88.drewN | apply IsS88.drew | apply IsS88.set_1 | apply IsS88.set_2 | refine IsS88.far ?_ NB0_244.out _) | exact HI0.out)); (case side2 => repeat (first | (with_reducible first | exact HB.out | apply below_alloc | apply pw_below_drewN | apply below_drew1 | refine below_set ?_ (IsS88.ge HI0.out) | refine below_set ?_ GE244.out) | exact HB.out)); rintro e w6 ⟨rfl, hi, hb, hk⟩; refine ⟨_, rfl, ?_⟩; have n0_ := Aside0.mk (KeepBut.blk hk (g' := gb244) (o := .cells #[.int .i64 0, .slice none 0 0, .int .i64 0, .int .i64 0, .int .i64 0] 36 (0, 0)) (by (with_reducible repeat (first | refine blk_drewN ?_ _ | refine blk_drew ?_ | refine blk_alloc ?_ _)); exact BK244.out) NB244_0.out (by simp)); have n1_ := Aside0.mk (KeepBut.trans (by repeat (first | (with_reducible first | exact HK.out | apply KeepBut.set_ | apply keep_drewN | apply keep_drew | apply keep_alloc | refine keep_far ?_ GW244.out _) | exact HK.out)) hk (.inl rfl)); have n2_ := Aside0.mk (hb); have n3_ := Aside0.mk (hi); clear BK244; clear HK; clear HB; clear HI0; have BK244 := n0_; have HK := n1_; have HB := n2_; have HI0 := n3_; clear n0_ n1_ n2_ n3_; (try clear hb); (try clear hb2); (try clear hk); (try clear hi)) | ((with_reducible refine gate_callee (f := 85) rfl ?_); refine goesL_ (some 8) rfl rfl Try.func85 (by kernel_rfl) rfl #[.pointer (some ⟨g, 0, none⟩)] rfl (by (try simp only [List.map_toArray, List.map_cons, List.map_nil]); first | done | rfl | (simp only [List.length_drop, List.length_take]; rfl)) ?_; (with_reducible refine (spec_l4Draw.calls g s0_0 t246 t247 t248 t249 t250 t251 t252 w0 _ ?side1 ?side2 A4.out).mono ?_); (case side1 => repeat (first | (with_reducible first | exact HI0.out | apply IsS88.alloc | apply IsS88.drewN | apply IsS88.drew | apply IsS88.set_1 | apply IsS88.set_2 | refine IsS88.far ?_ NB0_244.out _) | exact HI0.out)); (case side2 => repeat (first | (with_reducible first | exact HB.out | apply below_alloc | apply pw_below_drewN | apply below_drew1 | refine below_set ?_ (IsS88.ge HI0.out) | refine below_set ?_ GE244.out) | exact HB.out)); rintro e w7 ⟨rfl, hi, hb, hk⟩; refine ⟨_, rfl, ?_⟩; have n0_ := Aside0.mk (KeepBut.blk hk (g' := gb244) (o := .cells #[.int .i64 0, .slice none 0 0, .int .i64 0, .int .i64 0, .int .i64 0] 36 (0, 0)) (by (with_reducible repeat (first | refine blk_drewN ?_ _ | refine blk_drew ?_ | refine blk_alloc ?_ _)); exact BK244.out) NB244_0.out (by simp)); have n1_ := Aside0.mk (KeepBut.trans (by repeat (first | (with_reducible first | exact HK.out | apply KeepBut.set_ | apply keep_drewN | apply keep_drew | apply keep_alloc | refine keep_far ?_ GW244.out _) | exact HK.out)) hk (.inl rfl)); have n2_ := Aside0.mk (hb); have n3_ := Aside0.mk (hi); clear BK244; clear HK; clear HB; clear HI0; have BK244 := n0_; have HK := n1_; have HB := n2_; have HI0 := n3_; clear n0_ n1_ n2_ n3_; (try clear hb); (try clear hb2); (try clear hk); (try clear hi); have hnb8 := NB244_0.out; have hnc8 := NB0_244.out; have hcz9_0 : w7.cell? ⟨gb244, 0, none⟩ = some (.int .i64 0) := (blk_cell BK244.out 0).trans rfl; have hcz9_1 : w7.cell? ⟨gb244, 1, none⟩ = some (.slice none 0 0) := (blk_cell BK244.out 1).trans rfl; have hcz9_2 : w7.cell? ⟨gb244, 2, none⟩ = some (.int .i64 0) := (blk_cell BK244.out 2).trans rfl; have hcz9_3 : w7.cell? ⟨gb244, 3, none⟩ = some (.int .i64 0) := (blk_cell BK244.out 3).trans rfl; have hcz9_4 : w7.cell? ⟨gb244, 4, none⟩ = some (.int .i64 0) := (blk_cell BK244.out 4).trans rfl; have hfz9_0 := blk_frozen BK244.out 0; have hfz9_1 := blk_frozen BK244.out 1; have hfz9_2 := blk_frozen BK244.out 2; have hfz9_3 := blk_frozen BK244.out 3; have hfz9_4 := blk_frozen BK244.out 4))
    refine bodyPost_ret (results_cell_row rfl _ _ gb244 36 #[.int .i64 3, .slice none 0 0, .int .i64 t248, .int .i64 t249, .int .i64 t250] (0, 0) _ rfl (by (with_reducible repeat (first | refine blk_drewN ?_ _ | refine blk_drew ?_ | refine blk_alloc ?_ _)); refine blk_put (cs := #[.int .i64 3, .slice none 0 0, .int .i64 t248, .int .i64 t249, .int .i64 0]) ?_ 4 _ rfl; (with_reducible repeat (first | refine blk_drewN ?_ _ | refine blk_drew ?_ | refine blk_alloc ?_ _)); refine blk_put (cs := #[.int .i64 3, .slice none 0 0, .int .i64 t248, .int .i64 0, .int .i64 0]) ?_ 3 _ rfl; (with_reducible repeat (first | refine blk_drewN ?_ _ | refine blk_drew ?_ | refine blk_alloc ?_ _)); refine blk_put (cs := #[.int .i64 3, .slice none 0 0, .int .i64 0, .int .i64 0, .int .i64 0]) ?_ 2 _ rfl; (with_reducible repeat (first | refine blk_drewN ?_ _ | refine blk_drew ?_ | refine blk_alloc ?_ _)); refine blk_put (cs := #[.int .i64 3, .slice none 0 0, .int .i64 0, .int .i64 0, .int .i64 0]) ?_ 1 _ rfl; (with_reducible repeat (first | refine blk_drewN ?_ _ | refine blk_drew ?_ | refine blk_alloc ?_ _)); refine blk_put (cs := #[.int .i64 0, .slice none 0 0, .int .i64 0, .int .i64 0, .int .i64 0]) ?_ 0 _ rfl; (with_reducible repeat (first | refine blk_drewN ?_ _ | refine blk_drew ?_ | refine blk_alloc ?_ _)); exact BK244.out) Try.underlying36 rfl (by kernel_rfl)) rfl ?_
    exact ⟨_, by first | rfl | (simp [errW_none, errW_some] <;> rfl) | (simp [*, errW_none, errW_some] <;> rfl), by first | exact Kd.R_nil _ _ _ _ _ | exact Kd.N_nil _ _ _ _ _ | exact Kd.V_nil _ _ _ _ _ | exact Kd.Q_nil _ _ _ _ _ | exact Kd.S_nil _ _ _ _ _, by repeat (first | (with_reducible first | exact HI0.out | apply IsS88.alloc | apply IsS88.drewN | apply IsS88.drew | apply IsS88.set_1 | apply IsS88.set_2 | refine IsS88.far ?_ NB0_244.out _) | exact HI0.out), by repeat (first | (with_reducible first | exact HB.out | apply below_alloc | apply pw_below_drewN | apply below_drew1 | refine below_set ?_ (IsS88.ge HI0.out) | refine below_set ?_ GE244.out) | exact HB.out), by repeat (first | (with_reducible first | exact HK.out | apply KeepBut.set_ | apply keep_drewN | apply keep_drew | apply keep_alloc | refine keep_far ?_ GW244.out _) | exact HK.out)⟩
  · rw [if_neg c3] at H
    have c3b0 : (t245 == 0) = false := beq_eq_false_iff_ne.mpr c3
    have c3b1 : (t245 != 0) = true := bne_iff_ne.mpr c3
    by_cases c10 : t245 = 1
    · rw [if_pos c10] at H
      have c10b0 : (t245 == 1) = true := beq_iff_eq.mpr c10
      have c10b1 : (t245 != 1) = false := bne_eq_false_iff_eq.mpr c10
      clear c10
      simp only [Option.some.injEq, Prod.mk.injEq] at H
      obtain ⟨rfl, rfl, rfl, rfl, rfl, rfl, rfl⟩ := H
      go_enter Try.func75, Try.ntmps75
      go_wp2_with (first | ((with_reducible refine gate_dst (N := 2) rfl ?_); refine box_event ?hg (N := 2) ?hd (cs := #[.int .i64 0, .slice none 0 0, .int .i64 0, .int .i64 0, .int .i64 0]) (t := 36) ?hr ?_; (case hd => rfl); (case hg => rfl); (case hr => first | (go_simp; done) | (go_simp; rfl)); intro gb244 hg w11 hbox hb; have n0_ := Aside0.mk (IsS88.below (by repeat (first | (with_reducible first | exact HI0.out | apply IsS88.alloc | apply IsS88.drewN | apply IsS88.drew | apply IsS88.set_1 | apply IsS88.set_2) | exact HI0.out)) hb); have n1_ := Aside0.mk (KeepBut.trans (by repeat (first | (with_reducible first | exact HK.out | apply KeepBut.set_ | apply keep_drewN | apply keep_drew | apply keep_alloc) | exact HK.out)) (KeepBut.of_below hb g none) (.inl rfl)); have n2_ := Aside0.mk (below_step (by repeat (first | (with_reducible first | exact HB.out | apply below_alloc | apply pw_below_drewN | apply below_drew1 | refine below_set ?_ (IsS88.ge HI0.out)) | exact HB.out)) hb); have n3_ := Aside0.mk (hbox); have n4_ := Aside0.mk ((by rw [hg]; exact (keep_size (w := w) (g := g) (row := none) (by repeat (first | (with_reducible first | exact HK.out | apply KeepBut.set_ | apply keep_drewN | apply keep_drew | apply keep_alloc) | exact HK.out))) : w.heap.size ≤ gb244)); have n5_ := Aside0.mk ((Nat.le_trans HW0.out (by rw [hg]; exact (keep_size (w := w) (g := g) (row := none) (by repeat (first | (with_reducible first | exact HK.out | apply KeepBut.set_ | apply keep_drewN | apply keep_drew | apply keep_alloc) | exact HK.out))) : w.heap.size ≤ gb244) : w0.heap.size ≤ gb244)); have n6_ := Aside0.mk ((by rw [hg]; exact Nat.ne_of_lt (IsS88.lt (show IsS88 w0 _ g s0_0 s0_1 s0_2 from by repeat (first | (with_reducible first | exact HI0.out | apply IsS88.alloc | apply IsS88.drewN | apply IsS88.drew | apply IsS88.set_1 | apply IsS88.set_2) | exact HI0.out))) : g ≠ gb244)); have n7_ := Aside0.mk ((by rw [hg]; exact Nat.ne_of_gt (IsS88.lt (show IsS88 w0 _ g s0_0 s0_1 s0_2 from by repeat (first | (with_reducible first | exact HI0.out | apply IsS88.alloc | apply IsS88.drewN | apply IsS88.drew | apply IsS88.set_1 | apply IsS88.set_2) | exact HI0.out))) : gb244 ≠ g)); clear HI0; clear HK; clear HB; have HI0 := n0_; have HK := n1_; have HB := n2_; have BK244 := n3_; have GW244 := n4_; have GE244 := n5_; have NB0_244 := n6_; have NB244_0 := n7_; clear n0_ n1_ n2_ n3_ n4_ n5_ n6_ n7_; clear hb hbox hg) | ((with_reducible refine gate_callee (f := 54) rfl ?_); refine goesL_ (some 4) rfl rfl Try.func54 (by kernel_rfl) rfl #[.pointer (some ⟨g, 0, none⟩), .int .i64 6] rfl (by (try simp only [List.map_toArray, List.map_cons, List.map_nil]); first | done | rfl | (simp only [List.length_drop, List.length_take]; rfl)) ?_; (with_reducible refine (spec_l1Below.calls g s0_0 s0_1 s0_2 6 t245 t246 t247 w0 _ ?side1 ?side2 A2.out).mono ?_); (case side1 => repeat (first | (with_reducible first | exact HI0.out | apply IsS88.alloc | apply IsS88.drewN | apply IsS88.drew | apply IsS88.set_1 | apply IsS88.set_2 | refine IsS88.far ?_ NB0_244.out _) | exact HI0.out)); (case side2 => repeat (first | (with_reducible first | exact HB.out | apply below_alloc | apply pw_below_drewN | apply below_drew1 | refine below_set ?_ (IsS88.ge HI0.out) | refine below_set ?_ GE244.out) | exact HB.out)); rintro e w12 ⟨rfl, hi, hb, hk⟩; refine ⟨_, rfl, ?_⟩; have n0_ := Aside0.mk (KeepBut.blk hk (g' := gb244) (o := .cells #[.int .i64 0, .slice none 0 0, .int .i64 0, .int .i64 0, .int .i64 0] 36 (0, 0)) (by (with_reducible repeat (first | refine blk_drewN ?_ _ | refine blk_drew ?_ | refine blk_alloc ?_ _)); exact BK244.out) NB244_0.out (by simp)); have n1_ := Aside0.mk (KeepBut.trans (by repeat (first | (with_reducible first | exact HK.out | apply KeepBut.set_ | apply keep_drewN | apply keep_drew | apply keep_alloc | refine keep_far ?_ GW244.out _) | exact HK.out)) hk (.inl rfl)); have n2_ := Aside0.mk (hb); have n3_ := Aside0.mk (hi); clear BK244; clear HK; clear HB; clear HI0; have BK244 := n0_; have HK := n1_; have HB := n2_; have HI0 := n3_; clear n0_ n1_ n2_ n3_; (try clear hb); (try clear hb2); (try clear hk); (try clear hi); have hnb13 := NB244_0.out; have hnc13 := NB0_244.out; have hcz14_0 : w12.cell? ⟨gb244, 0, none⟩ = some (.int .i64 0) := (blk_cell BK244.out 0).trans rfl; have hcz14_1 : w12.cell? ⟨gb244, 1, none⟩ = some (.slice none 0 0) := (blk_cell BK244.out 1).trans rfl; have hcz14_2 : w12.cell? ⟨gb244, 2, none⟩ = some (.int .i64 0) := (blk_cell BK244.out 2).trans rfl; have hcz14_3 : w12.cell? ⟨gb244, 3, none⟩ = some (.int .i64 0) := (blk_cell BK244.out 3).trans rfl; have hcz14_4 : w12.cell? ⟨gb244, 4, none⟩ = some (.int .i64 0) := (blk_cell BK244.out 4).trans rfl; have hfz14_0 := blk_frozen BK244.out 0; have hfz14_1 := blk_frozen BK244.out 1; have hfz14_2 := blk_frozen BK244.out 2; have hfz14_3 := blk_frozen BK244.out 3; have hfz14_4 := blk_frozen BK244.out 4))
      refine bodyPost_ret (results_cell_row rfl _ _ gb244 36 #[.int .i64 4, .slice none 0 0, .int .i64 0, .int .i64 0, .int .i64 0] (0, 0) _ rfl (by (with_reducible repeat (first | refine blk_drewN ?_ _ | refine blk_drew ?_ | refine blk_alloc ?_ _)); refine blk_put (cs := #[.int .i64 4, .slice none 0 0, .int .i64 0, .int .i64 0, .int .i64 0]) ?_ 4 _ rfl; (with_reducible repeat (first | refine blk_drewN ?_ _ | refine blk_drew ?_ | refine blk_alloc ?_ _)); refine blk_put (cs := #[.int .i64 4, .slice none 0 0, .int .i64 0, .int .i64 0, .int .i64 0]) ?_ 3 _ rfl; (with_reducible repeat (first | refine blk_drewN ?_ _ | refine blk_drew ?_ | refine blk_alloc ?_ _)); refine blk_put (cs := #[.int .i64 4, .slice none 0 0, .int .i64 0, .int .i64 0, .int .i64 0]) ?_ 2 _ rfl; (with_reducible repeat (first | refine blk_drewN ?_ _ | refine blk_drew ?_ | refine blk_alloc ?_ _)); refine blk_put (cs := #[.int .i64 4, .slice none 0 0, .int .i64 0, .int .i64 0, .int .i64 0]) ?_ 1 _ rfl; (with_reducible repeat (first | refine blk_drewN ?_ _ | refine blk_drew ?_ | refine blk_alloc ?_ _)); refine blk_put (cs := #[.int .i64 0, .slice none 0 0, .int .i64 0, .int .i64 0, .int .i64 0]) ?_ 0 _ rfl; (with_reducible repeat (first | refine blk_drewN ?_ _ | refine blk_drew ?_ | refine blk_alloc ?_ _)); exact BK244.out) Try.underlying36 rfl (by kernel_rfl)) rfl ?_
      exact ⟨_, by first | rfl | (simp [errW_none, errW_some] <;> rfl) | (simp [*, errW_none, errW_some] <;> rfl), by first | exact Kd.R_nil _ _ _ _ _ | exact Kd.N_nil _ _ _ _ _ | exact Kd.V_nil _ _ _ _ _ | exact Kd.Q_nil _ _ _ _ _ | exact Kd.S_nil _ _ _ _ _, by repeat (first | (with_reducible first | exact HI0.out | apply IsS88.alloc | apply IsS88.drewN | apply IsS88.drew | apply IsS88.set_1 | apply IsS88.set_2 | refine IsS88.far ?_ NB0_244.out _) | exact HI0.out), by repeat (first | (with_reducible first | exact HB.out | apply below_alloc | apply pw_below_drewN | apply below_drew1 | refine below_set ?_ (IsS88.ge HI0.out) | refine below_set ?_ GE244.out) | exact HB.out), by repeat (first | (with_reducible first | exact HK.out | apply KeepBut.set_ | apply keep_drewN | apply keep_drew | apply keep_alloc | refine keep_far ?_ GW244.out _) | exact HK.out)⟩
    · rw [if_neg c10] at H
      have c10b0 : (t245 == 1) = false := beq_eq_false_iff_ne.mpr c10
      have c10b1 : (t245 != 1) = true := bne_iff_ne.mpr c10
      replace H := Option.bind_eq_some_iff.mp H
      obtain ⟨⟨t253, t254, t255⟩, A150, H⟩ := H
      replace H : ((spec_l5Body.f k s0_0 t254 t255).bind fun bt256 => (some (wrap64 (1 + t253), bt256.1, 0, 0, 0, bt256.2.1, bt256.2.2))) = some (r1, r2, r3, r4, r5, r6, r7) := H
      have A15 := Aside0.mk A150
      clear A150
      replace H := Option.bind_eq_some_iff.mp H
      obtain ⟨⟨t256, t259, t260⟩, A160, H⟩ := H
      replace H : (some (wrap64 (1 + t253), t256, 0, 0, 0, t259, t260)) = some (r1, r2, r3, r4, r5, r6, r7) := H
      have A16 := Aside0.mk A160
      clear A160
      simp only [Option.some.injEq, Prod.mk.injEq] at H
      obtain ⟨rfl, rfl, rfl, rfl, rfl, rfl, rfl⟩ := H
      go_enter Try.func75, Try.ntmps75
      go_wp2_with (first | ((with_reducible refine gate_dst (N := 2) rfl ?_); refine box_event ?hg (N := 2) ?hd (cs := #[.int .i64 0, .slice none 0 0, .int .i64 0, .int .i64 0, .int .i64 0]) (t := 36) ?hr ?_; (case hd => rfl); (case hg => rfl); (case hr => first | (go_simp; done) | (go_simp; rfl)); intro gb244 hg w17 hbox hb; have n0_ := Aside0.mk (IsS88.below (by repeat (first | (with_reducible first | exact HI0.out | apply IsS88.alloc | apply IsS88.drewN | apply IsS88.drew | apply IsS88.set_1 | apply IsS88.set_2) | exact HI0.out)) hb); have n1_ := Aside0.mk (KeepBut.trans (by repeat (first | (with_reducible first | exact HK.out | apply KeepBut.set_ | apply keep_drewN | apply keep_drew | apply keep_alloc) | exact HK.out)) (KeepBut.of_below hb g none) (.inl rfl)); have n2_ := Aside0.mk (below_step (by repeat (first | (with_reducible first | exact HB.out | apply below_alloc | apply pw_below_drewN | apply below_drew1 | refine below_set ?_ (IsS88.ge HI0.out)) | exact HB.out)) hb); have n3_ := Aside0.mk (hbox); have n4_ := Aside0.mk ((by rw [hg]; exact (keep_size (w := w) (g := g) (row := none) (by repeat (first | (with_reducible first | exact HK.out | apply KeepBut.set_ | apply keep_drewN | apply keep_drew | apply keep_alloc) | exact HK.out))) : w.heap.size ≤ gb244)); have n5_ := Aside0.mk ((Nat.le_trans HW0.out (by rw [hg]; exact (keep_size (w := w) (g := g) (row := none) (by repeat (first | (with_reducible first | exact HK.out | apply KeepBut.set_ | apply keep_drewN | apply keep_drew | apply keep_alloc) | exact HK.out))) : w.heap.size ≤ gb244) : w0.heap.size ≤ gb244)); have n6_ := Aside0.mk ((by rw [hg]; exact Nat.ne_of_lt (IsS88.lt (show IsS88 w0 _ g s0_0 s0_1 s0_2 from by repeat (first | (with_reducible first | exact HI0.out | apply IsS88.alloc | apply IsS88.drewN | apply IsS88.drew | apply IsS88.set_1 | apply IsS88.set_2) | exact HI0.out))) : g ≠ gb244)); have n7_ := Aside0.mk ((by rw [hg]; exact Nat.ne_of_gt (IsS88.lt (show IsS88 w0 _ g s0_0 s0_1 s0_2 from by repeat (first | (with_reducible first | exact HI0.out | apply IsS88.alloc | apply IsS88.drewN | apply IsS88.drew | apply IsS88.set_1 | apply IsS88.set_2) | exact HI0.out))) : gb244 ≠ g)); clear HI0; clear HK; clear HB; have HI0 := n0_; have HK := n1_; have HB := n2_; have BK244 := n3_; have GW244 := n4_; have GE244 := n5_; have NB0_244 := n6_; have NB244_0 := n7_; clear n0_ n1_ n2_ n3_ n4_ n5_ n6_ n7_; clear hb hbox hg) | ((with_reducible refine gate_callee (f := 54) rfl ?_); refine goesL_ (some 4) rfl rfl Try.func54 (by kernel_rfl) rfl #[.pointer (some ⟨g, 0, none⟩), .int .i64 6] rfl (by (try simp only [List.map_toArray, List.map_cons, List.map_nil]); first | done | rfl | (simp only [List.length_drop, List.length_take]; rfl)) ?_; (with_reducible refine (spec_l1Below.calls g s0_0 s0_1 s0_2 6 t245 t246 t247 w0 _ ?side1 ?side2 A2.out).mono ?_); (case side1 => repeat (first | (with_reducible first | exact HI0.out | apply IsS88.alloc | apply IsS88.drewN | apply IsS88.drew | apply IsS88.set_1 | apply IsS88.set_2 | refine IsS88.far ?_ NB0_244.out _) | exact HI0.out)); (case side2 => repeat (first | (with_reducible first | exact HB.out | apply below_alloc | apply pw_below_drewN | apply below_drew1 | refine below_set ?_ (IsS88.ge HI0.out) | refine below_set ?_ GE244.out) | exact HB.out)); rintro e w18 ⟨rfl, hi, hb, hk⟩; refine ⟨_, rfl, ?_⟩; have n0_ := Aside0.mk (KeepBut.blk hk (g' := gb244) (o := .cells #[.int .i64 0, .slice none 0 0, .int .i64 0, .int .i64 0, .int .i64 0] 36 (0, 0)) (by (with_reducible repeat (first | refine blk_drewN ?_ _ | refine blk_drew ?_ | refine blk_alloc ?_ _)); exact BK244.out) NB244_0.out (by simp)); have n1_ := Aside0.mk (KeepBut.trans (by repeat (first | (with_reducible first | exact HK.out | apply KeepBut.set_ | apply keep_drewN | apply keep_drew | apply keep_alloc | refine keep_far ?_ GW244.out _) | exact HK.out)) hk (.inl rfl)); have n2_ := Aside0.mk (hb); have n3_ := Aside0.mk (hi); clear BK244; clear HK; clear HB; clear HI0; have BK244 := n0_; have HK := n1_; have HB := n2_; have HI0 := n3_; clear n0_ n1_ n2_ n3_; (try clear hb); (try clear hb2); (try clear hk); (try clear hi)) | ((with_reducible refine gate_callee (f := 54) rfl ?_); refine goesL_ (some 14) rfl rfl Try.func54 (by kernel_rfl) rfl #[.pointer (some ⟨g, 0, none⟩), .int .i64 2] rfl (by (try simp only [List.map_toArray, List.map_cons, List.map_nil]); first | done | rfl | (simp only [List.length_drop, List.length_take]; rfl)) ?_; (with_reducible refine (spec_l1Below.calls g s0_0 t246 t247 2 t253 t254 t255 w0 _ ?side1 ?side2 A15.out).mono ?_); (case side1 => repeat (first | (with_reducible first | exact HI0.out | apply IsS88.alloc | apply IsS88.drewN | apply IsS88.drew | apply IsS88.set_1 | apply IsS88.set_2 | refine IsS88.far ?_ NB0_244.out _) | exact HI0.out)); (case side2 => repeat (first | (with_reducible first | exact HB.out | apply below_alloc | apply pw_below_drewN | apply below_drew1 | refine below_set ?_ (IsS88.ge HI0.out) | refine below_set ?_ GE244.out) | exact HB.out)); rintro e w19 ⟨rfl, hi, hb, hk⟩; refine ⟨_, rfl, ?_⟩; have n0_ := Aside0.mk (KeepBut.blk hk (g' := gb244) (o := .cells #[.int .i64 0, .slice none 0 0, .int .i64 0, .int .i64 0, .int .i64 0] 36 (0, 0)) (by (with_reducible repeat (first | refine blk_drewN ?_ _ | refine blk_drew ?_ | refine blk_alloc ?_ _)); exact BK244.out) NB244_0.out (by simp)); have n1_ := Aside0.mk (KeepBut.trans (by repeat (first | (with_reducible first | exact HK.out | apply KeepBut.set_ | apply keep_drewN | apply keep_drew | apply keep_alloc | refine keep_far ?_ GW244.out _) | exact HK.out)) hk (.inl rfl)); have n2_ := Aside0.mk (hb); have n3_ := Aside0.mk (hi); clear BK244; clear HK; clear HB; clear HI0; have BK244 := n0_; have HK := n1_; have HB := n2_; have HI0 := n3_; clear n0_ n1_ n2_ n3_; (try clear hb); (try clear hb2); (try clear hk); (try clear hi)) | ((with_reducible refine gate_callee (f := 86) rfl ?_); refine goesL_ (some 17) rfl rfl Try.func86 (by kernel_rfl) rfl #[.pointer (some ⟨g, 0, none⟩)] rfl (by (try simp only [List.map_toArray, List.map_cons, List.map_nil]); first | done | rfl | (simp only [List.length_drop, List.length_take]; rfl)) ?_; (with_reducible refine (spec_l5Body.calls k g s0_0 t254 t255 t256 t259 t260 w0 _ ?side1 ?side2 A16.out).mono ?_); (case side1 => repeat (first | (with_reducible first | exact HI0.out | apply IsS88.alloc | apply IsS88.drewN | apply IsS88.drew | apply IsS88.set_1 | apply IsS88.set_2 | refine IsS88.far ?_ NB0_244.out _) | exact HI0.out)); (case side2 => repeat (first | (with_reducible first | exact HB.out | apply below_alloc | apply pw_below_drewN | apply below_drew1 | refine below_set ?_ (IsS88.ge HI0.out) | refine below_set ?_ GE244.out) | exact HB.out)); rintro e w20 ⟨v257, rfl, ho0, hi, hb, hk⟩; refine ⟨_, rfl, ?_⟩; have n0_ := Aside0.mk (KeepBut.blk hk (g' := gb244) (o := .cells #[.int .i64 0, .slice none 0 0, .int .i64 0, .int .i64 0, .int .i64 0] 36 (0, 0)) (by (with_reducible repeat (first | refine blk_drewN ?_ _ | refine blk_drew ?_ | refine blk_alloc ?_ _)); exact BK244.out) NB244_0.out (by simp)); have n1_ := Aside0.mk (Kd.R_lower ho0 (keep_size (w := w) (g := g) (row := none) (by repeat (first | (with_reducible first | exact HK.out | apply KeepBut.set_ | apply keep_drewN | apply keep_drew | apply keep_alloc | refine keep_far ?_ GW244.out _) | exact HK.out)))); have n2_ := Aside0.mk (KeepBut.trans (by repeat (first | (with_reducible first | exact HK.out | apply KeepBut.set_ | apply keep_drewN | apply keep_drew | apply keep_alloc | refine keep_far ?_ GW244.out _) | exact HK.out)) hk (.inl rfl)); have n3_ := Aside0.mk (hb); have n4_ := Aside0.mk (hi); clear BK244; clear HK; clear HB; clear HI0; have BK244 := n0_; have HO258 := n1_; have HK := n2_; have HB := n3_; have HI0 := n4_; clear n0_ n1_ n2_ n3_ n4_; (try clear hb); (try clear hb2); (try clear hk); (try clear hi); (try clear ho0); obtain ⟨Ao21, co21, eo21⟩ := Kd.R_slice HO258.out; subst eo21; have hnb22 := NB244_0.out; have hnc22 := NB0_244.out; have hcz23_0 : w20.cell? ⟨gb244, 0, none⟩ = some (.int .i64 0) := (blk_cell BK244.out 0).trans rfl; have hcz23_1 : w20.cell? ⟨gb244, 1, none⟩ = some (.slice none 0 0) := (blk_cell BK244.out 1).trans rfl; have hcz23_2 : w20.cell? ⟨gb244, 2, none⟩ = some (.int .i64 0) := (blk_cell BK244.out 2).trans rfl; have hcz23_3 : w20.cell? ⟨gb244, 3, none⟩ = some (.int .i64 0) := (blk_cell BK244.out 3).trans rfl; have hcz23_4 : w20.cell? ⟨gb244, 4, none⟩ = some (.int .i64 0) := (blk_cell BK244.out 4).trans rfl; have hfz23_0 := blk_frozen BK244.out 0; have hfz23_1 := blk_frozen BK244.out 1; have hfz23_2 := blk_frozen BK244.out 2; have hfz23_3 := blk_frozen BK244.out 3; have hfz23_4 := blk_frozen BK244.out 4))
      refine bodyPost_ret (results_cell_row rfl _ _ gb244 36 #[.int .i64 (wrap64 (1 + t253)), .slice Ao21 t256.length co21, .int .i64 0, .int .i64 0, .int .i64 0] (0, 0) _ rfl (by (with_reducible repeat (first | refine blk_drewN ?_ _ | refine blk_drew ?_ | refine blk_alloc ?_ _)); refine blk_put (cs := #[.int .i64 (wrap64 (1 + t253)), .slice Ao21 t256.length co21, .int .i64 0, .int .i64 0, .int .i64 0]) ?_ 4 _ rfl; (with_reducible repeat (first | refine blk_drewN ?_ _ | refine blk_drew ?_ | refine blk_alloc ?_ _)); refine blk_put (cs := #[.int .i64 (wrap64 (1 + t253)), .slice Ao21 t256.length co21, .int .i64 0, .int .i64 0, .int .i64 0]) ?_ 3 _ rfl; (with_reducible repeat (first | refine blk_drewN ?_ _ | refine blk_drew ?_ | refine blk_alloc ?_ _)); refine blk_put (cs := #[.int .i64 (wrap64 (1 + t253)), .slice Ao21 t256.length co21, .int .i64 0, .int .i64 0, .int .i64 0]) ?_ 2 _ rfl; (with_reducible repeat (first | refine blk_drewN ?_ _ | refine blk_drew ?_ | refine blk_alloc ?_ _)); refine blk_put (cs := #[.int .i64 (wrap64 (1 + t253)), .slice none 0 0, .int .i64 0, .int .i64 0, .int .i64 0]) ?_ 1 _ rfl; (with_reducible repeat (first | refine blk_drewN ?_ _ | refine blk_drew ?_ | refine blk_alloc ?_ _)); refine blk_put (cs := #[.int .i64 0, .slice none 0 0, .int .i64 0, .int .i64 0, .int .i64 0]) ?_ 0 _ rfl; (with_reducible repeat (first | refine blk_drewN ?_ _ | refine blk_drew ?_ | refine blk_alloc ?_ _)); exact BK244.out) Try.underlying36 rfl (by kernel_rfl)) rfl ?_
      exact ⟨_, by first | rfl | (simp [errW_none, errW_some] <;> rfl) | (simp [*, errW_none, errW_some] <;> rfl), by (with_reducible repeat (first | apply Kd.R_alloc | apply Kd.R_drewN | apply Kd.R_drew)); exact Kd.R_mono (Kd.R_far (p := ⟨gb244, 4, none⟩) (Kd.R_far (p := ⟨gb244, 3, none⟩) (Kd.R_far (p := ⟨gb244, 2, none⟩) (Kd.R_far (p := ⟨gb244, 1, none⟩) (Kd.R_far (p := ⟨gb244, 0, none⟩) (Kd.R_types HO258.out BK244.out (by decide)) (fun _ hk => hk.2) (.int .i64 (wrap64 (1 + t253)))) (fun _ hk => hk.2) (.slice Ao21 t256.length co21)) (fun _ hk => hk.2) (.int .i64 0)) (fun _ hk => hk.2) (.int .i64 0)) (fun _ hk => hk.2) (.int .i64 0)) (fun _ hk => trivial), by repeat (first | (with_reducible first | exact HI0.out | apply IsS88.alloc | apply IsS88.drewN | apply IsS88.drew | apply IsS88.set_1 | apply IsS88.set_2 | refine IsS88.far ?_ NB0_244.out _) | exact HI0.out), by repeat (first | (with_reducible first | exact HB.out | apply below_alloc | apply pw_below_drewN | apply below_drew1 | refine below_set ?_ (IsS88.ge HI0.out) | refine below_set ?_ GE244.out) | exact HB.out), by repeat (first | (with_reducible first | exact HK.out | apply KeepBut.set_ | apply keep_drewN | apply keep_drew | apply keep_alloc | refine keep_far ?_ GW244.out _) | exact HK.out)⟩

/-! ### spec_l4Raw: function 87 -/
def spec_l4Raw.f (s0_0 : List Int) (s0_1 : Int) (s0_2 : Int) : Option (Int × Int × Int) := (spec_l1Int.f s0_0 s0_1 s0_2 (([(-1), 0, 9, 10, 99, 100, 9223372036854775807, (-9223372036854775808)] : List Int))).bind fun bt264 => (some (bt264.1, bt264.2.1, bt264.2.2))
set_option maxHeartbeats 8000000 in
set_option maxRecDepth 100000 in
theorem spec_l4Raw.calls (g : Nat) (s0_0 : List Int) (s0_1 : Int) (s0_2 : Int) (r1 : Int) (r2 : Int) (r3 : Int) (w0 w : World) (hI : IsS88 w0 w g s0_0 s0_1 s0_2) (hB : Below w0.heap.size w0 w) (h : spec_l4Raw.f s0_0 s0_1 s0_2 = some (r1, r2, r3)) :
    Calls Try.prog 87 #[.pointer (some ⟨g, 0, none⟩)] w fun e w' => e = .returned (.int .i64 r1) ∧ IsS88 w0 w' g s0_0 r2 r3 ∧ Below w0.heap.size w0 w' ∧ KeepBut w w' g none := by
  have HI0 := Aside0.mk hI
  have HK := Aside0.mk (KeepBut.refl w g none)
  have HL := Aside0.mk hB.size
  clear hI
  have HW0 := Aside0.mk hB.size
  have HB := Aside0.mk hB
  clear hB
  have H : ((spec_l1Int.f s0_0 s0_1 s0_2 (([(-1), 0, 9, 10, 99, 100, 9223372036854775807, (-9223372036854775808)] : List Int))).bind fun bt264 => (some (bt264.1, bt264.2.1, bt264.2.2))) = some (r1, r2, r3) := h
  clear h
  obtain ⟨y261, hy261⟩ : ∃ y_ : List Int, y_ = (([(-1), 0, 9, 10, 99, 100, 9223372036854775807, (-9223372036854775808)] : List Int)) := ⟨_, rfl⟩
  replace H : ((spec_l1Int.f s0_0 s0_1 s0_2 y261).bind fun bt264 => (some (bt264.1, bt264.2.1, bt264.2.2))) = some (r1, r2, r3) := by first | (rw [hy261]; with_reducible exact H) | (have H2_ := (Option.bind_some _ _).symm.trans H; rw [hy261]; with_reducible exact H2_) | (have H2_ := (Option.bind_some _ _).symm.trans H; with_reducible exact H2_) | with_reducible exact H | (rw [hy261]; exact H) | exact H
  have Ny261 := Aside0.mk hy261
  clear hy261
  replace H := Option.bind_eq_some_iff.mp H
  obtain ⟨⟨t264, t265, t266⟩, A20, H⟩ := H
  replace H : (some (t264, t265, t266)) = some (r1, r2, r3) := H
  have A2 := Aside0.mk A20
  clear A20
  simp only [Option.some.injEq, Prod.mk.injEq] at H
  obtain ⟨rfl, rfl, rfl⟩ := H
  go_enter Try.func87, Try.ntmps87
  go_wp2_with (first | ((with_reducible refine gate_dst (N := 4) rfl ?_); refine Kd.R_lit (Kd.int .i64) _ 3 ?hg (N := 4) ?hd (xs := ([(-1), 0, 9, 10, 99, 100, 9223372036854775807, (-9223372036854775808)] : List Int)) (inner := [.int .i64 (-1), .int .i64 0, .int .i64 9, .int .i64 10, .int .i64 99, .int .i64 100, .int .i64 9223372036854775807, .int .i64 (-9223372036854775808)]) (ok := fun _ => True) (okp := fun _ => True) ?hr ?hp (fun _ hk => hk) trivial (Below.refl _ _) (Nat.le_refl _) (by simp) ?_; (case hd => rfl); (case hg => rfl); (case hr => first | (go_simp; done) | (go_simp; rfl)); (case hp => exact (Reps.one (show Kd.M (Kd.int .i64) _ _ _ (-1) [.int .i64 (-1)] from rfl) (Reps.one (show Kd.M (Kd.int .i64) _ _ _ 0 [.int .i64 0] from rfl) (Reps.one (show Kd.M (Kd.int .i64) _ _ _ 9 [.int .i64 9] from rfl) (Reps.one (show Kd.M (Kd.int .i64) _ _ _ 10 [.int .i64 10] from rfl) (Reps.one (show Kd.M (Kd.int .i64) _ _ _ 99 [.int .i64 99] from rfl) (Reps.one (show Kd.M (Kd.int .i64) _ _ _ 100 [.int .i64 100] from rfl) (Reps.one (show Kd.M (Kd.int .i64) _ _ _ 9223372036854775807 [.int .i64 9223372036854775807] from rfl) (Reps.one (show Kd.M (Kd.int .i64) _ _ _ (-9223372036854775808) [.int .i64 (-9223372036854775808)] from rfl) (Reps.none _ _)))))))))); intro v262 w3 ho4 hb hg_ hnew_; clear hg_ hnew_; (first | rw [← Ny261.out] at ho4 | (simp only [Int.reduceToNat] at ho4; rw [← Ny261.out] at ho4)); have n0_ := Aside0.mk (Kd.R_lower ho4 (keep_size (w := w) (g := g) (row := none) (by repeat (first | (with_reducible first | exact HK.out | apply KeepBut.set_ | apply keep_drewN | apply keep_drew | apply keep_alloc) | exact HK.out)))); have n1_ := Aside0.mk (IsS88.below (by repeat (first | (with_reducible first | exact HI0.out | apply IsS88.alloc | apply IsS88.drewN | apply IsS88.drew | apply IsS88.set_1 | apply IsS88.set_2) | exact HI0.out)) hb); have n2_ := Aside0.mk (KeepBut.trans (by repeat (first | (with_reducible first | exact HK.out | apply KeepBut.set_ | apply keep_drewN | apply keep_drew | apply keep_alloc) | exact HK.out)) (KeepBut.of_below hb g none) (.inl rfl)); have n3_ := Aside0.mk (below_step (by repeat (first | (with_reducible first | exact HB.out | apply below_alloc | apply pw_below_drewN | apply below_drew1 | refine below_set ?_ (IsS88.ge HI0.out)) | exact HB.out)) hb); clear HI0; clear HK; clear HB; have HO263 := n0_; have HI0 := n1_; have HK := n2_; have HB := n3_; clear n0_ n1_ n2_ n3_; clear hb ho4; obtain ⟨Ao5, co5, eo5⟩ := Kd.R_slice HO263.out; subst eo5) | ((with_reducible refine gate_callee (f := 74) rfl ?_); refine goesL_ (some 5) rfl rfl Try.func74 (by kernel_rfl) rfl #[.pointer (some ⟨g, 0, none⟩), .slice Ao5 y261.length co5] rfl (by (try simp only [List.map_toArray, List.map_cons, List.map_nil]); first | done | rfl | (simp only [List.length_drop, List.length_take]; rfl)) ?_; (with_reducible refine (spec_l1Int.calls g s0_0 s0_1 s0_2 _ _ y261 t264 t265 t266 w0 _ ?side1 ?side2 ?side3 ?side4 ?side5 A2.out).mono ?_); (case side1 => repeat (first | (with_reducible first | exact HI0.out | apply IsS88.alloc | apply IsS88.drewN | apply IsS88.drew | apply IsS88.set_1 | apply IsS88.set_2) | exact HI0.out)); (case side2 => repeat (first | (with_reducible first | exact HB.out | apply below_alloc | apply pw_below_drewN | apply below_drew1 | refine below_set ?_ (IsS88.ge HI0.out)) | exact HB.out)); (case side3 => repeat (first | exact (Kd.R_reads' HO263.out).2.2 | (with_reducible refine Kd.C_alloc ?_ _) | (with_reducible refine Kd.C_drewN ?_ _) | (with_reducible refine Kd.C_drew ?_))); (case side4 => exact (Kd.R_reads' HO263.out).2.1); (case side5 => exact far_slice (IsS88.own_ne HI0.out HO263.out (by decide))); rintro e w6 ⟨rfl, hi, hb, hk⟩; refine ⟨_, rfl, ?_⟩; have n0_ := Aside0.mk (Kd.R_mono (Kd.R_keep (IsS88.apart (show IsS88 w0 _ g s0_0 s0_1 s0_2 from by repeat (first | (with_reducible first | exact HI0.out | apply IsS88.alloc | apply IsS88.drewN | apply IsS88.drew | apply IsS88.set_1 | apply IsS88.set_2) | exact HI0.out)) (by (with_reducible repeat (first | apply Kd.R_alloc | apply Kd.R_drewN | apply Kd.R_drew)); exact HO263.out) (by decide)) hk (fun _ h => h.2)) (fun _ h => h.1)); have n1_ := Aside0.mk (KeepBut.trans (by repeat (first | (with_reducible first | exact HK.out | apply KeepBut.set_ | apply keep_drewN | apply keep_drew | apply keep_alloc) | exact HK.out)) hk (.inl rfl)); have n2_ := Aside0.mk (hb); have n3_ := Aside0.mk (hi); clear HO263; clear HK; clear HB; clear HI0; have HO263 := n0_; have HK := n1_; have HB := n2_; have HI0 := n3_; clear n0_ n1_ n2_ n3_; (try clear hb); (try clear hb2); (try clear hk); (try clear hi)))
  go_ret
  exact ⟨by first | rfl | (simp [errW_none, errW_some] <;> rfl) | (simp [*, errW_none, errW_some] <;> rfl), by repeat (first | (with_reducible first | exact HI0.out | apply IsS88.alloc | apply IsS88.drewN | apply IsS88.drew | apply IsS88.set_1 | apply IsS88.set_2) | exact HI0.out), by repeat (first | (with_reducible first | exact HB.out | apply below_alloc | apply pw_below_drewN | apply below_drew1 | refine below_set ?_ (IsS88.ge HI0.out)) | exact HB.out), by repeat (first | (with_reducible first | exact HK.out | apply KeepBut.set_ | apply keep_drewN | apply keep_drew | apply keep_alloc) | exact HK.out)⟩

/-! ### spec_l4Any: function 76 -/
def spec_l4Any.f (s0_0 : List Int) (s0_1 : Int) (s0_2 : Int) : Option (Int × Int × Int × Int × Int) := (spec_l4Draw.f s0_0 s0_1 s0_2).bind fun bt268 => ((spec_l1Below.f s0_0 bt268.2.2.2.1 bt268.2.2.2.2 9).bind fun bt274 => (if bt274.1 = 0 then ((spec_l4Raw.f s0_0 bt274.2.1 bt274.2.2).bind fun bt277 => (some (bt277.1, bt268.2.1, bt268.2.2.1, bt277.2.1, bt277.2.2))) else (if bt274.1 = 1 then ((spec_l4Raw.f s0_0 bt274.2.1 bt274.2.2).bind fun bt280 => (some (bt268.1, bt280.1, bt268.2.2.1, bt280.2.1, bt280.2.2))) else (if bt274.1 = 2 then ((spec_l4Raw.f s0_0 bt274.2.1 bt274.2.2).bind fun bt283 => (some (bt268.1, bt268.2.1, bt283.1, bt283.2.1, bt283.2.2))) else (some (bt268.1, bt268.2.1, bt268.2.2.1, bt274.2.1, bt274.2.2))))))
/-- The cursor's state at a world W, behind calls that only draw. -/
def Cur (w0 w W : World) (g : Nat) (s : List Int) (a b : Int) : Prop := IsS88 w0 W g s a b ∧ Below w0.heap.size w0 W ∧ KeepBut w W g none
section
variable {w0 w W W' : World} {g : Nat} {s : List Int} {a b a' b' : Int}
theorem Cur.start (hI : IsS88 w0 w g s a b) (hB : Below w0.heap.size w0 w) : Cur w0 w w g s a b := ⟨hI, hB, KeepBut.refl w g none⟩
theorem Cur.call (h : Cur w0 w W g s a b) (hi : IsS88 w0 W' g s a' b') (hb : Below w0.heap.size w0 W') (hk : KeepBut W W' g none) : Cur w0 w W' g s a' b' := ⟨hi, hb, KeepBut.trans h.2.2 hk (.inl rfl)⟩
theorem Cur.below (h : Cur w0 w W g s a b) (hb : Below W.heap.size W W') : Cur w0 w W' g s a b := ⟨h.1.below hb, below_step h.2.1 hb, KeepBut.trans h.2.2 (KeepBut.of_below hb g none) (.inl rfl)⟩
theorem Cur.put (h : Cur w0 w W g s a b) {q : Nat} (hw : w0.heap.size ≤ w.heap.size) (hp : w.heap.size ≤ q) (hne : g ≠ q) (j : Nat) (u : Value) : Cur w0 w (W.setCell ⟨q, j, none⟩ u) g s a b := ⟨h.1.far hne u, below_set h.2.1 (Nat.le_trans hw hp), keep_far h.2.2 hp u⟩
theorem blk_keep {r : Nat} {o : Obj} (h : W.heap[r]? = some o) (hk : KeepBut W W' g none) (hne : g ≠ r) : W'.heap[r]? = some o := (hk.2 r (blk_lt h) (fun e => hne e.symm) (by simp)).trans h
end
theorem box3z {W : World} {g t : Nat} {z0 z1 z2 : Value} (h : W.heap[g]? = some (.cells #[z0, z1, z2] t (0, 0))) : (W.cell? ⟨g, 0, none⟩ = some z0 ∧ W.cell? ⟨g, 1, none⟩ = some z1 ∧ W.cell? ⟨g, 2, none⟩ = some z2) ∧ ∀ j, W.frozen? ⟨g, j, none⟩ = false :=
  ⟨⟨(blk_cell h 0).trans rfl, (blk_cell h 1).trans rfl, (blk_cell h 2).trans rfl⟩, blk_frozen h⟩

theorem Cur.row {w0 w W W' : World} {g : Nat} {s : List Int} {a b : Int} {base : Nat} {ok : Nat → Prop} {v : Value} {xs : List Int} (h : Cur w0 w W g s a b) (hR : Kd.R (Kd.int .i64) 3 W base ok v xs) (hk : KeepBut W W' g none) : Kd.R (Kd.int .i64) 3 W' base ok v xs := Kd.R_mono (Kd.R_keep (h.1.apart hR (by decide)) hk (fun _ h => h.2)) (fun _ h => h.1)
/-- A literal row of whole numbers. -/
theorem lit_ints (W : World) (l : List Int) (hl : l.length ≤ 9223372036854775807) : Kd.R (Kd.int .i64) 3 (W.alloc (.cells (l.map (Value.int .i64)).toArray 3)) W.heap.size (fun _ => True) (.slice (some ⟨W.heap.size, 0, none⟩) l.length l.length) l := by
  refine ⟨fun _ _ => trivial, l.map (Value.int .i64), ⟨by simp [Kd.int, Kd.scalar], .inr ⟨W.heap.size, l.length, _, rfl, Nat.le_refl _, heap_alloc_new W _, Nat.le_refl _, hl, by simp [Kd.int, Kd.scalar], by show List.take (l.length * 1) (l.map (Value.int .i64)) = _; rw [Nat.mul_one, List.take_of_length_le (by rw [List.length_map]; exact Nat.le_refl _)]⟩⟩, ⟨by simp [Kd.int, Kd.scalar], fun j p hj => ?_⟩⟩
  obtain ⟨hlt, rfl⟩ := List.getElem?_eq_some_iff.1 hj
  show _ = [Value.int .i64 l[j]]
  refine List.ext_getElem? fun q => ?_
  rw [List.getElem?_take, List.getElem?_drop, List.getElem?_map]
  show (if q < 1 then Option.map (Value.int .i64) l[j * 1 + q]? else none) = _
  cases q with
  | zero => rw [if_pos (by decide), Nat.mul_one, Nat.add_zero, List.getElem?_eq_getElem hlt]; rfl
  | succ q => rw [if_neg (by omega)]; rfl
theorem Cur.grown {w0 w W W' : World} {g : Nat} {s : List Int} {a b : Int} (h : Cur w0 w W g s a b) (hw : w0.heap.size ≤ w.heap.size) {row : Option Nat} (hg : W.grownBy W' row) (hr : ∀ q, row = some q → w.heap.size ≤ q ∧ q ≠ g) : Cur w0 w W' g s a b :=
  ⟨h.1.grown hg (fun e => (hr g e.symm).2 rfl), pw_below_grown h.2.1 row (Nat.le_trans hw h.2.2.1) hg (fun q e => Nat.le_trans hw (hr q e).1), KeepBut.trans h.2.2 (KeepBut.of_grown hg g) (by
    cases row with
    | none => exact .inl rfl
    | some q => exact .inr ⟨q, rfl, (hr q rfl).1⟩)⟩
theorem lit_far {g n : Nat} (h : g ≠ n) {m : Nat} : ∀ ad : Addr, (some ⟨n, 0, none⟩ : Option Addr) = some ad → 0 < m → ad.block ≠ g := fun ad e _ e2 => by
  injection e with e
  subst e
  exact h e2.symm
theorem Cur.put5 {w0 w W : World} {g q t : Nat} {s : List Int} {a b : Int} {z0 z1 z2 z3 z4 : Value} (h : Cur w0 w W g s a b) (hw : w0.heap.size ≤ w.heap.size) (hk : W.heap[q]? = some (.cells #[z0, z1, z2, z3, z4] t (0, 0))) (hq : w.heap.size ≤ q) (hne : g ≠ q) (u0 u1 u2 u3 u4 : Value) :
    ∃ W' : World, W' = ((((W.setCell ⟨q, 0, none⟩ u0).setCell ⟨q, 1, none⟩ u1).setCell ⟨q, 2, none⟩ u2).setCell ⟨q, 3, none⟩ u3).setCell ⟨q, 4, none⟩ u4 ∧ Cur w0 w W' g s a b ∧ W'.heap[q]? = some (.cells #[u0, u1, u2, u3, u4] t (0, 0)) ∧ ∀ i, i ≠ q → W'.heap[i]? = W.heap[i]? :=
  have h0 := blk_put (cs' := #[u0, z1, z2, z3, z4]) hk 0 u0 rfl
  have h1 := blk_put (cs' := #[u0, u1, z2, z3, z4]) h0 1 u1 rfl
  have h2 := blk_put (cs' := #[u0, u1, u2, z3, z4]) h1 2 u2 rfl
  have h3 := blk_put (cs' := #[u0, u1, u2, u3, z4]) h2 3 u3 rfl
  have h4 := blk_put (cs' := #[u0, u1, u2, u3, u4]) h3 4 u4 rfl
  ⟨_, rfl, ((((h.put hw hq hne 0 u0).put hw hq hne 1 u1).put hw hq hne 2 u2).put hw hq hne 3 u3).put hw hq hne 4 u4, h4, fun k hk => ((((Below.heap_setCell _ _ _ k hk).trans (Below.heap_setCell _ _ _ k hk)).trans (Below.heap_setCell _ _ _ k hk)).trans (Below.heap_setCell _ _ _ k hk)).trans (Below.heap_setCell _ _ _ k hk)⟩
set_option maxHeartbeats 8000000 in
set_option maxRecDepth 100000 in
theorem spec_l4Any.calls (g : Nat) (s0_0 : List Int) (s0_1 : Int) (s0_2 : Int) (r1 : Int) (r2 : Int) (r3 : Int) (r4 : Int) (r5 : Int) (w0 w : World) (hI : IsS88 w0 w g s0_0 s0_1 s0_2) (hB : Below w0.heap.size w0 w) (h : spec_l4Any.f s0_0 s0_1 s0_2 = some (r1, r2, r3, r4, r5)) :
    Calls Try.prog 76 #[.pointer (some ⟨g, 0, none⟩)] w fun e w' => e = .returned (.agg #[.int .i64 r1, .int .i64 r2, .int .i64 r3]) ∧ IsS88 w0 w' g s0_0 r4 r5 ∧ Below w0.heap.size w0 w' ∧ KeepBut w w' g none := by
  have hu34 := Try.underlying34
  have CU := Aside0.mk (Cur.start hI hB)
  have HL := Aside0.mk hB.size
  clear hI hB
  obtain ⟨⟨x, y, z, a1, b1⟩, A2, H⟩ := Option.bind_eq_some_iff.mp h
  clear h
  replace A2 := Aside0.mk A2
  obtain ⟨⟨n, a2, b2⟩, A3, H⟩ := Option.bind_eq_some_iff.mp H
  replace A3 := Aside0.mk A3
  dsimp only at H
  have HH := Aside0.mk H
  clear H
  go_enter Try.func76, Try.ntmps76
  go_upto_region 1 with fail
  obtain ⟨w1, hw_⟩ : ∃ x_, x_ = w.alloc (.cells #[.int .i64 0, .int .i64 0, .int .i64 0] 34) := ⟨_, rfl⟩
  have hb : Below w.heap.size w w1 := hw_ ▸ below_alloc (Below.refl _ _) _
  have hx_ : w1.heap[w.heap.size]? = some (.cells #[.int .i64 0, .int .i64 0, .int .i64 0] 34 (0, 0)) := hw_ ▸ heap_alloc_new w _
  rw [← hw_]
  clear hw_
  obtain ⟨g2, hg_⟩ : ∃ x_, x_ = w.heap.size := ⟨_, rfl⟩
  rw [← hg_] at hx_ ⊢
  have Ng2 := Aside0.mk (show w.heap.size ≤ g2 by rw [hg_]; exact CU.out.2.2.1)
  have n0_ := Aside0.mk (CU.out.below hb)
  clear CU hb hg_ 
  have CU := n0_
  have Kg2 := Aside0.mk hx_
  clear hx_ n0_ 
  go_upto_region 2 with (first | ((with_reducible refine gate_callee (f := 85) rfl ?_); refine goesL_ (some 5) rfl rfl Try.func85 (by kernel_rfl) rfl #[.pointer (some ⟨g, 0, none⟩)] rfl (by (try simp only [List.map_toArray, List.map_cons, List.map_nil]); first | done | rfl) ?_; refine (spec_l4Draw.calls g s0_0 _ _ x y z a1 b1 w0 _ CU.out.1 CU.out.2.1 A2.out).mono ?_; rintro e w2 ⟨rfl, hi, hb, hk⟩; refine ⟨_, rfl, ?_⟩; have n0_ := Aside0.mk (CU.out.call hi hb hk); have nKg2_ := Aside0.mk (blk_keep Kg2.out hk (CU.out.1.ne_blk Kg2.out (by decide))); clear CU hi hb hk Kg2; have CU := n0_; have Kg2 := nKg2_; clear n0_ nKg2_))
  obtain ⟨w3, hw_⟩ : ∃ x_, x_ = w2.alloc (.cells #[.int .i64 x, .int .i64 y, .int .i64 z] 34) := ⟨_, rfl⟩
  have hb : Below w2.heap.size w2 w3 := hw_ ▸ below_alloc (Below.refl _ _) _
  have hx_ : w3.heap[w2.heap.size]? = some (.cells #[.int .i64 x, .int .i64 y, .int .i64 z] 34 (0, 0)) := hw_ ▸ heap_alloc_new w2 _
  rw [← hw_]
  clear hw_
  obtain ⟨g3, hg_⟩ : ∃ x_, x_ = w2.heap.size := ⟨_, rfl⟩
  have NE := Aside0.mk (show g2 ≠ g3 by have := blk_lt Kg2.out; omega)
  rw [← hg_] at hx_ ⊢
  have Ng3 := Aside0.mk (show w.heap.size ≤ g3 by rw [hg_]; exact CU.out.2.2.1)
  have n0_ := Aside0.mk (CU.out.below hb)
  have nKg2_ := Aside0.mk (blk_below Kg2.out hb)
  clear CU hb hg_ Kg2
  have CU := n0_
  have Kg2 := nKg2_
  have Kg3 := Aside0.mk hx_
  clear hx_ n0_ nKg2_
  go_upto_region 3 with (first | ((with_reducible refine gate_callee (f := 54) rfl ?_); refine goesL_ (some 7) rfl rfl Try.func54 (by kernel_rfl) rfl #[.pointer (some ⟨g, 0, none⟩), .int .i64 9] rfl (by (try simp only [List.map_toArray, List.map_cons, List.map_nil]); first | done | rfl) ?_; refine (spec_l1Below.calls g s0_0 _ _ 9 n a2 b2 w0 _ CU.out.1 CU.out.2.1 A3.out).mono ?_; rintro e w4 ⟨rfl, hi, hb, hk⟩; refine ⟨_, rfl, ?_⟩; have n0_ := Aside0.mk (CU.out.call hi hb hk); have nKg2_ := Aside0.mk (blk_keep Kg2.out hk (CU.out.1.ne_blk Kg2.out (by decide))); have nKg3_ := Aside0.mk (blk_keep Kg3.out hk (CU.out.1.ne_blk Kg3.out (by decide))); clear CU hi hb hk Kg2 Kg3; have CU := n0_; have Kg2 := nKg2_; have Kg3 := nKg3_; clear n0_ nKg2_ nKg3_))
  have H := HH.out
  clear HH
  by_cases c0 : n = 0
  · rw [if_pos c0] at H
    have cb : (n == 0) = true := beq_iff_eq.mpr c0
    obtain ⟨⟨v, a3, b3⟩, A5, H⟩ := Option.bind_eq_some_iff.mp H
    replace A5 := Aside0.mk A5
    simp only [Option.some.injEq, Prod.mk.injEq] at H
    obtain ⟨rfl, rfl, rfl, rfl, rfl⟩ := H
    go_upto_region 9 with (first | ((with_reducible refine gate_callee (f := 87) rfl ?_); refine goesL_ (some 11) rfl rfl Try.func87 (by kernel_rfl) rfl #[.pointer (some ⟨g, 0, none⟩)] rfl (by (try simp only [List.map_toArray, List.map_cons, List.map_nil]); first | done | rfl) ?_; refine (spec_l4Raw.calls g s0_0 _ _ v a3 b3 w0 _ CU.out.1 CU.out.2.1 A5.out).mono ?_; rintro e w5 ⟨rfl, hi, hb, hk⟩; refine ⟨_, rfl, ?_⟩; have n0_ := Aside0.mk (CU.out.call hi hb hk); have nKg2_ := Aside0.mk (blk_keep Kg2.out hk (CU.out.1.ne_blk Kg2.out (by decide))); have nKg3_ := Aside0.mk (blk_keep Kg3.out hk (CU.out.1.ne_blk Kg3.out (by decide))); clear CU hi hb hk Kg2 Kg3; have CU := n0_; have Kg2 := nKg2_; have Kg3 := nKg3_; clear n0_ nKg2_ nKg3_; have hz := box3z Kg3.out))
    have hne_ := CU.out.1.ne_blk Kg3.out (by decide)
    have h3_ := blk_put (cs' := #[.int .i64 v, .int .i64 y, .int .i64 z]) Kg3.out 0 (.int .i64 v) rfl
    have h2_ := (Below.heap_setCell w5 ⟨g3, 0, none⟩ (.int .i64 v) g2 NE.out).trans Kg2.out
    have n0_ := CU.out.put HL.out Ng3.out hne_ 0 (.int .i64 v)
    generalize w5.setCell ⟨g3, 0, none⟩ (.int .i64 v) = w6 at h3_ h2_ n0_ ⊢
    clear CU Kg2 Kg3 hz hne_
    have CU := Aside0.mk n0_
    have Kg3 := Aside0.mk h3_
    have Kg2 := Aside0.mk h2_
    clear n0_ h3_ h2_
    have hz := box3z Kg3.out
    have hy := box3z Kg2.out
    go_wp2
    have hg2_ := CU.out.1.ne_blk Kg2.out (by decide)
    refine bodyPost_ret (results_cell_row rfl _ _ g2 34 #[.int .i64 v, .int .i64 y, .int .i64 z] (0, 0) _ rfl (blk_put (blk_put (blk_put (cs' := #[.int .i64 v, .int .i64 0, .int .i64 0]) Kg2.out 0 _ rfl) (cs' := #[.int .i64 v, .int .i64 y, .int .i64 0]) 1 _ rfl) 2 _ rfl) Try.underlying34 rfl (by kernel_rfl)) rfl ?_
    have CF := ((CU.out.put HL.out Ng2.out hg2_ 0 (.int .i64 v)).put HL.out Ng2.out hg2_ 1 (.int .i64 y)).put HL.out Ng2.out hg2_ 2 (.int .i64 z)
    exact ⟨rfl, CF.1, CF.2.1, CF.2.2⟩
  · rw [if_neg c0] at H
    have cb : (n == 0) = false := beq_eq_false_iff_ne.mpr c0
    by_cases c1 : n = 1
    · rw [if_pos c1] at H
      have cb1 : (n == 1) = true := beq_iff_eq.mpr c1
      obtain ⟨⟨v, a3, b3⟩, A5, H⟩ := Option.bind_eq_some_iff.mp H
      replace A5 := Aside0.mk A5
      simp only [Option.some.injEq, Prod.mk.injEq] at H
      obtain ⟨rfl, rfl, rfl, rfl, rfl⟩ := H
      go_upto_region 9 with (first | ((with_reducible refine gate_callee (f := 87) rfl ?_); refine goesL_ (some 16) rfl rfl Try.func87 (by kernel_rfl) rfl #[.pointer (some ⟨g, 0, none⟩)] rfl (by (try simp only [List.map_toArray, List.map_cons, List.map_nil]); first | done | rfl) ?_; refine (spec_l4Raw.calls g s0_0 _ _ v a3 b3 w0 _ CU.out.1 CU.out.2.1 A5.out).mono ?_; rintro e w5 ⟨rfl, hi, hb, hk⟩; refine ⟨_, rfl, ?_⟩; have n0_ := Aside0.mk (CU.out.call hi hb hk); have nKg2_ := Aside0.mk (blk_keep Kg2.out hk (CU.out.1.ne_blk Kg2.out (by decide))); have nKg3_ := Aside0.mk (blk_keep Kg3.out hk (CU.out.1.ne_blk Kg3.out (by decide))); clear CU hi hb hk Kg2 Kg3; have CU := n0_; have Kg2 := nKg2_; have Kg3 := nKg3_; clear n0_ nKg2_ nKg3_; have hz := box3z Kg3.out))
      have hne_ := CU.out.1.ne_blk Kg3.out (by decide)
      have h3_ := blk_put (cs' := #[.int .i64 x, .int .i64 v, .int .i64 z]) Kg3.out 1 (.int .i64 v) rfl
      have h2_ := (Below.heap_setCell w5 ⟨g3, 1, none⟩ (.int .i64 v) g2 NE.out).trans Kg2.out
      have n0_ := CU.out.put HL.out Ng3.out hne_ 1 (.int .i64 v)
      generalize w5.setCell ⟨g3, 1, none⟩ (.int .i64 v) = w6 at h3_ h2_ n0_ ⊢
      clear CU Kg2 Kg3 hz hne_
      have CU := Aside0.mk n0_
      have Kg3 := Aside0.mk h3_
      have Kg2 := Aside0.mk h2_
      clear n0_ h3_ h2_
      have hz := box3z Kg3.out
      have hy := box3z Kg2.out
      go_wp2
      have hg2_ := CU.out.1.ne_blk Kg2.out (by decide)
      refine bodyPost_ret (results_cell_row rfl _ _ g2 34 #[.int .i64 x, .int .i64 v, .int .i64 z] (0, 0) _ rfl (blk_put (blk_put (blk_put (cs' := #[.int .i64 x, .int .i64 0, .int .i64 0]) Kg2.out 0 _ rfl) (cs' := #[.int .i64 x, .int .i64 v, .int .i64 0]) 1 _ rfl) 2 _ rfl) Try.underlying34 rfl (by kernel_rfl)) rfl ?_
      have CF := ((CU.out.put HL.out Ng2.out hg2_ 0 (.int .i64 x)).put HL.out Ng2.out hg2_ 1 (.int .i64 v)).put HL.out Ng2.out hg2_ 2 (.int .i64 z)
      exact ⟨rfl, CF.1, CF.2.1, CF.2.2⟩
    · rw [if_neg c1] at H
      have cb1 : (n == 1) = false := beq_eq_false_iff_ne.mpr c1
      by_cases c2 : n = 2
      · rw [if_pos c2] at H
        have cb2 : (n == 2) = true := beq_iff_eq.mpr c2
        obtain ⟨⟨v, a3, b3⟩, A5, H⟩ := Option.bind_eq_some_iff.mp H
        replace A5 := Aside0.mk A5
        simp only [Option.some.injEq, Prod.mk.injEq] at H
        obtain ⟨rfl, rfl, rfl, rfl, rfl⟩ := H
        go_upto_region 9 with (first | ((with_reducible refine gate_callee (f := 87) rfl ?_); refine goesL_ (some 21) rfl rfl Try.func87 (by kernel_rfl) rfl #[.pointer (some ⟨g, 0, none⟩)] rfl (by (try simp only [List.map_toArray, List.map_cons, List.map_nil]); first | done | rfl) ?_; refine (spec_l4Raw.calls g s0_0 _ _ v a3 b3 w0 _ CU.out.1 CU.out.2.1 A5.out).mono ?_; rintro e w5 ⟨rfl, hi, hb, hk⟩; refine ⟨_, rfl, ?_⟩; have n0_ := Aside0.mk (CU.out.call hi hb hk); have nKg2_ := Aside0.mk (blk_keep Kg2.out hk (CU.out.1.ne_blk Kg2.out (by decide))); have nKg3_ := Aside0.mk (blk_keep Kg3.out hk (CU.out.1.ne_blk Kg3.out (by decide))); clear CU hi hb hk Kg2 Kg3; have CU := n0_; have Kg2 := nKg2_; have Kg3 := nKg3_; clear n0_ nKg2_ nKg3_; have hz := box3z Kg3.out))
        have hne_ := CU.out.1.ne_blk Kg3.out (by decide)
        have h3_ := blk_put (cs' := #[.int .i64 x, .int .i64 y, .int .i64 v]) Kg3.out 2 (.int .i64 v) rfl
        have h2_ := (Below.heap_setCell w5 ⟨g3, 2, none⟩ (.int .i64 v) g2 NE.out).trans Kg2.out
        have n0_ := CU.out.put HL.out Ng3.out hne_ 2 (.int .i64 v)
        generalize w5.setCell ⟨g3, 2, none⟩ (.int .i64 v) = w6 at h3_ h2_ n0_ ⊢
        clear CU Kg2 Kg3 hz hne_
        have CU := Aside0.mk n0_
        have Kg3 := Aside0.mk h3_
        have Kg2 := Aside0.mk h2_
        clear n0_ h3_ h2_
        have hz := box3z Kg3.out
        have hy := box3z Kg2.out
        go_wp2
        have hg2_ := CU.out.1.ne_blk Kg2.out (by decide)
        refine bodyPost_ret (results_cell_row rfl _ _ g2 34 #[.int .i64 x, .int .i64 y, .int .i64 v] (0, 0) _ rfl (blk_put (blk_put (blk_put (cs' := #[.int .i64 x, .int .i64 0, .int .i64 0]) Kg2.out 0 _ rfl) (cs' := #[.int .i64 x, .int .i64 y, .int .i64 0]) 1 _ rfl) 2 _ rfl) Try.underlying34 rfl (by kernel_rfl)) rfl ?_
        have CF := ((CU.out.put HL.out Ng2.out hg2_ 0 (.int .i64 x)).put HL.out Ng2.out hg2_ 1 (.int .i64 y)).put HL.out Ng2.out hg2_ 2 (.int .i64 v)
        exact ⟨rfl, CF.1, CF.2.1, CF.2.2⟩
      · rw [if_neg c2] at H
        have cb2 : (n == 2) = false := beq_eq_false_iff_ne.mpr c2
        simp only [Option.some.injEq, Prod.mk.injEq] at H
        obtain ⟨rfl, rfl, rfl, rfl, rfl⟩ := H
        have hz := box3z Kg3.out
        have hy := box3z Kg2.out
        go_wp2
        have hg2_ := CU.out.1.ne_blk Kg2.out (by decide)
        refine bodyPost_ret (results_cell_row rfl _ _ g2 34 #[.int .i64 x, .int .i64 y, .int .i64 z] (0, 0) _ rfl (blk_put (blk_put (blk_put (cs' := #[.int .i64 x, .int .i64 0, .int .i64 0]) Kg2.out 0 _ rfl) (cs' := #[.int .i64 x, .int .i64 y, .int .i64 0]) 1 _ rfl) 2 _ rfl) Try.underlying34 rfl (by kernel_rfl)) rfl ?_
        have CF := ((CU.out.put HL.out Ng2.out hg2_ 0 (.int .i64 x)).put HL.out Ng2.out hg2_ 1 (.int .i64 y)).put HL.out Ng2.out hg2_ 2 (.int .i64 z)
        exact ⟨rfl, CF.1, CF.2.1, CF.2.2⟩

/-! ### spec_l5Any: function 52 -/
def spec_l5Any.f (k : Nat) (s0_0 : List Int) (s0_1 : Int) (s0_2 : Int) : Option (Int × List Int × Int × Int × Int × Int × Int) := (spec_l5Draw.f k s0_0 s0_1 s0_2).bind fun bt287 => ((spec_l1Below.f s0_0 bt287.2.2.2.2.2.1 bt287.2.2.2.2.2.2 9).bind fun bt297 => (if bt297.1 = 0 then ((spec_l1Int.f s0_0 bt297.2.1 bt297.2.2 (([0, 5, 3, 4] : List Int))).bind fun bt303 => (some (bt303.1, bt287.2.1, bt287.2.2.1, bt287.2.2.2.1, bt287.2.2.2.2.1, bt303.2.1, bt303.2.2))) else (if bt297.1 = 1 then ((spec_l1Int.f s0_0 bt297.2.1 bt297.2.2 (([(-1), 255, 256] : List Int))).bind fun bt309 => (if bt287.2.1.length < 17592186044416 then (some (bt287.1, (bt287.2.1 ++ [bt309.1]), bt287.2.2.1, bt287.2.2.2.1, bt287.2.2.2.2.1, bt309.2.1, bt309.2.2)) else (none))) else (if bt297.1 = 2 then (some (bt287.1, (([1, 2, 3, 4, 5, 6, 7] : List Int)), bt287.2.2.1, bt287.2.2.2.1, bt287.2.2.2.2.1, bt297.2.1, bt297.2.2)) else (if bt297.1 = 3 then ((spec_l4Any.f s0_0 bt297.2.1 bt297.2.2).bind fun bt318 => (some (bt287.1, bt287.2.1, bt318.1, bt318.2.1, bt318.2.2.1, bt318.2.2.2.1, bt318.2.2.2.2))) else (some (bt287.1, bt287.2.1, bt287.2.2.1, bt287.2.2.2.1, bt287.2.2.2.2.1, bt297.2.1, bt297.2.2)))))))
def spec_l5Any.T6 : Bool × List (List Nat × List Nat) := (true, [([], []), ([0], [0]), ([], []), ([], []), ([2, 3], [2, 3]), ([4], [4]), ([1, 5, 4], [1, 5]), ([0, 1, 2, 3, 4, 5, 6], []), ([7, 6, 6, 0, 1, 2, 3, 4, 5, 6], [6, 7])])
def spec_l5Any.B6 : List Nat := [0, 1, 0, 0, 12, 28, 63, 127, 255]
theorem spec_l5Any.tab6 : rtab .any (opsOf Try.f52 6) = spec_l5Any.T6 := by kernel_rfl
theorem spec_l5Any.bits6 : waitsOk spec_l5Any.T6.2 spec_l5Any.B6 = true := by kernel_rfl
set_option maxHeartbeats 8000000 in
set_option maxRecDepth 100000 in
theorem spec_l5Any.calls (k : Nat) (g : Nat) (s0_0 : List Int) (s0_1 : Int) (s0_2 : Int) (r1 : Int) (r2 : List Int) (r3 : Int) (r4 : Int) (r5 : Int) (r6 : Int) (r7 : Int) (w0 w : World) (hI : IsS88 w0 w g s0_0 s0_1 s0_2) (hB : Below w0.heap.size w0 w) (h : spec_l5Any.f k s0_0 s0_1 s0_2 = some (r1, r2, r3, r4, r5, r6, r7)) :
    Calls Try.prog 52 #[.pointer (some ⟨g, 0, none⟩)] w fun e w' => ∃ v1_ : Value, e = .returned (.agg #[.int .i64 r1, v1_, .int .i64 r3, .int .i64 r4, .int .i64 r5]) ∧ Kd.R (Kd.int .i64) 3 w' w.heap.size (fun _ => True) v1_ r2 ∧ IsS88 w0 w' g s0_0 r6 r7 ∧ Below w0.heap.size w0 w' ∧ KeepBut w w' g none := by
  have hu36 := Try.underlying36
  have hu34 := Try.underlying34
  have CU := Aside0.mk (Cur.start hI hB)
  have HL := Aside0.mk hB.size
  clear hI hB
  obtain ⟨⟨x0, xl, x2, x3, x4, a1, b1⟩, A2, H⟩ := Option.bind_eq_some_iff.mp h
  clear h
  replace A2 := Aside0.mk A2
  obtain ⟨⟨n, a2, b2⟩, A3, H⟩ := Option.bind_eq_some_iff.mp H
  replace A3 := Aside0.mk A3
  dsimp only at H
  have HH := Aside0.mk H
  clear H
  go_enter Try.func52, Try.ntmps52
  go_upto_region 1 with fail
  obtain ⟨w1, hw_⟩ : ∃ x_, x_ = w.alloc (.cells #[.int .i64 0, .slice none 0 0, .int .i64 0, .int .i64 0, .int .i64 0] 36) := ⟨_, rfl⟩
  have hb : Below w.heap.size w w1 := hw_ ▸ below_alloc (Below.refl _ _) _
  have hx_ : w1.heap[w.heap.size]? = some (.cells #[.int .i64 0, .slice none 0 0, .int .i64 0, .int .i64 0, .int .i64 0] 36 (0, 0)) := hw_ ▸ heap_alloc_new w _
  rw [← hw_]
  clear hw_
  obtain ⟨g2, hg_⟩ : ∃ x_, x_ = w.heap.size := ⟨_, rfl⟩
  rw [← hg_] at hx_ ⊢
  have Ng2 := Aside0.mk (show w.heap.size ≤ g2 by rw [hg_]; exact CU.out.2.2.1)
  have n0_ := Aside0.mk (CU.out.below hb)
  clear CU hb hg_ 
  have CU := n0_
  have Kg2 := Aside0.mk hx_
  clear hx_ n0_ 
  go_upto_region 2 with (first | ((with_reducible refine gate_callee (f := 75) rfl ?_); refine goesL_ (some 5) rfl rfl Try.func75 (by kernel_rfl) rfl #[.pointer (some ⟨g, 0, none⟩)] rfl (by (try simp only [List.map_toArray, List.map_cons, List.map_nil]); first | done | rfl) ?_; refine (spec_l5Draw.calls k g s0_0 _ _ x0 xl x2 x3 x4 a1 b1 w0 _ CU.out.1 CU.out.2.1 A2.out).mono ?_; rintro e w2 ⟨v5, rfl, ho, hi, hb, hk⟩; refine ⟨_, rfl, ?_⟩; obtain ⟨A5, c5, e5⟩ := Kd.R_slice ho; subst e5; have HR := Aside0.mk (Kd.R_lower ho CU.out.2.2.1); clear ho; have n0_ := Aside0.mk (CU.out.call hi hb hk); have nKg2_ := Aside0.mk (blk_keep Kg2.out hk (CU.out.1.ne_blk Kg2.out (by decide))); clear CU hi hb hk Kg2; have CU := n0_; have Kg2 := nKg2_; clear n0_ nKg2_))
  obtain ⟨w3, hw_⟩ : ∃ x_, x_ = w2.alloc (.cells #[.int .i64 x0, .slice A5 xl.length c5, .int .i64 x2, .int .i64 x3, .int .i64 x4] 36) := ⟨_, rfl⟩
  have hb : Below w2.heap.size w2 w3 := hw_ ▸ below_alloc (Below.refl _ _) _
  have hx_ : w3.heap[w2.heap.size]? = some (.cells #[.int .i64 x0, .slice A5 xl.length c5, .int .i64 x2, .int .i64 x3, .int .i64 x4] 36 (0, 0)) := hw_ ▸ heap_alloc_new w2 _
  rw [← hw_]
  clear hw_
  obtain ⟨g3, hg_⟩ : ∃ x_, x_ = w2.heap.size := ⟨_, rfl⟩
  have NE := Aside0.mk (show g2 ≠ g3 by have := blk_lt Kg2.out; omega)
  rw [← hg_] at hx_ ⊢
  have Ng3 := Aside0.mk (show w.heap.size ≤ g3 by rw [hg_]; exact CU.out.2.2.1)
  have HR := Aside0.mk (Kd.R_below HR.out hb)
  have n0_ := Aside0.mk (CU.out.below hb)
  have nKg2_ := Aside0.mk (blk_below Kg2.out hb)
  clear CU hb hg_ Kg2
  have CU := n0_
  have Kg2 := nKg2_
  have Kg3 := Aside0.mk hx_
  clear hx_ n0_ nKg2_
  have hz := box5z Kg3.out
  go_upto_region 3 with (first | ((with_reducible refine gate_callee (f := 54) rfl ?_); refine goesL_ (some 7) rfl rfl Try.func54 (by kernel_rfl) rfl #[.pointer (some ⟨g, 0, none⟩), .int .i64 9] rfl (by (try simp only [List.map_toArray, List.map_cons, List.map_nil]); first | done | rfl) ?_; refine (spec_l1Below.calls g s0_0 _ _ 9 n a2 b2 w0 _ CU.out.1 CU.out.2.1 A3.out).mono ?_; rintro e w4 ⟨rfl, hi, hb, hk⟩; refine ⟨_, rfl, ?_⟩; have nR_ := Aside0.mk (CU.out.row HR.out hk); clear HR; have n0_ := Aside0.mk (CU.out.call hi hb hk); have nKg2_ := Aside0.mk (blk_keep Kg2.out hk (CU.out.1.ne_blk Kg2.out (by decide))); have nKg3_ := Aside0.mk (blk_keep Kg3.out hk (CU.out.1.ne_blk Kg3.out (by decide))); clear CU hi hb hk Kg2 Kg3; have CU := n0_; have Kg2 := nKg2_; have Kg3 := nKg3_; clear n0_ nKg2_ nKg3_; have HR := nR_; clear nR_))
  have H := HH.out
  clear HH hz
  by_cases c0 : n = 0
  · rw [if_pos c0] at H
    have cb : (n == 0) = true := beq_iff_eq.mpr c0
    obtain ⟨⟨v, a3, b3⟩, AV, H⟩ := Option.bind_eq_some_iff.mp H
    replace AV := Aside0.mk AV
    simp only [Option.some.injEq, Prod.mk.injEq] at H
    obtain ⟨rfl, rfl, rfl, rfl, rfl, rfl, rfl⟩ := H
    have hz := box5z Kg3.out
    go_wp2_with fail
    clear hz
    have HNG := Aside0.mk (show g ≠ w4.heap.size from Nat.ne_of_lt CU.out.1.lt)
    have hb_ := below_alloc (Below.refl w4.heap.size w4) (Obj.cells #[.int .i64 0, .int .i64 5, .int .i64 3, .int .i64 4] 3)
    have n0_ := Aside0.mk (CU.out.below hb_)
    have nKg2_ := Aside0.mk (blk_below Kg2.out hb_)
    have nKg3_ := Aside0.mk (blk_below Kg3.out hb_)
    have nR_ := Aside0.mk (Kd.R_below HR.out hb_)
    clear CU Kg2 Kg3 HR
    have CU := n0_
    have Kg2 := nKg2_
    have Kg3 := nKg3_
    have HR := nR_
    clear n0_ nKg2_ nKg3_ nR_
    clear hb_
    refine (spec_l1Int.calls g s0_0 _ _ _ _ ([0, 5, 3, 4] : List Int) v a3 b3 w0 _ CU.out.1 CU.out.2.1 (Kd.R_reads' (lit_ints w4 [0, 5, 3, 4] (by decide))).2.2 (Nat.le_refl _) (lit_far HNG.out) AV.out).mono ?_
    rintro e w5 ⟨rfl, hi, hb, hk⟩
    have nR_ := Aside0.mk (CU.out.row HR.out hk)
    clear HR
    have n0_ := Aside0.mk (CU.out.call hi hb hk)
    have nKg2_ := Aside0.mk (blk_keep Kg2.out hk (CU.out.1.ne_blk Kg2.out (by decide)))
    have nKg3_ := Aside0.mk (blk_keep Kg3.out hk (CU.out.1.ne_blk Kg3.out (by decide)))
    clear CU hi hb hk Kg2 Kg3
    have CU := n0_
    have Kg2 := nKg2_
    have Kg3 := nKg3_
    clear n0_ nKg2_ nKg3_
    have HR := nR_
    clear nR_
    have hz := box5z Kg3.out
    go_upto_region 11 with fail
    clear hz
    have hne_ := CU.out.1.ne_blk Kg3.out (by decide)
    have k30_ := blk_put (cs' := #[.int .i64 v, .slice A5 xl.length c5, .int .i64 x2, .int .i64 x3, .int .i64 x4]) (Kg3.out) 0 (.int .i64 v) rfl
    have n0_ := (CU.out).put HL.out Ng3.out hne_ 0 (.int .i64 v)
    have n2_ := ((Below.heap_setCell w5 ⟨g3, 0, none⟩ (.int .i64 v) g2 NE.out).trans (Kg2.out))
    have nR_ := Kd.R_set (HR.out) (Kg3.out) (by decide) 0 (.int .i64 v)
    have n3_ := k30_
    generalize (w5.setCell ⟨g3, 0, none⟩ (.int .i64 v)) = w6 at n0_ n2_ n3_ nR_ ⊢
    clear CU Kg2 Kg3 HR hne_ k30_
    have CU := Aside0.mk n0_
    have Kg2 := Aside0.mk n2_
    have Kg3 := Aside0.mk n3_
    have HR := Aside0.mk nR_
    clear n0_ n2_ n3_ nR_
    have hz := box5z Kg3.out
    have hy := box5z Kg2.out
    go_wp2
    have hg2_ := CU.out.1.ne_blk Kg2.out (by decide)
    obtain ⟨wf, ef, CF, KF, hf⟩ := CU.out.put5 HL.out Kg2.out Ng2.out hg2_ (.int .i64 v) (.slice A5 xl.length c5) (.int .i64 x2) (.int .i64 x3) (.int .i64 x4)
    have HF := Kd.R_mono (Kd.R_step (Kd.R_types HR.out Kg2.out (by decide)) (fun k_ ho _ => hf k_ ho.2)) (fun _ h_ => h_.1)
    rw [← ef]
    refine bodyPost_ret (results_cell_row rfl _ _ g2 36 #[.int .i64 v, .slice A5 xl.length c5, .int .i64 x2, .int .i64 x3, .int .i64 x4] (0, 0) _ rfl KF Try.underlying36 rfl (by kernel_rfl)) rfl ?_
    exact ⟨_, rfl, HF, CF.1, CF.2.1, CF.2.2⟩
  · rw [if_neg c0] at H
    have cb : (n == 0) = false := beq_eq_false_iff_ne.mpr c0
    by_cases c1 : n = 1
    · rw [if_pos c1] at H
      have cb1 : (n == 1) = true := beq_iff_eq.mpr c1
      obtain ⟨⟨v, a3, b3⟩, AV, H⟩ := Option.bind_eq_some_iff.mp H
      replace AV := Aside0.mk AV
      dsimp only at H
      by_cases cl : xl.length < 17592186044416
      rotate_left
      · rw [if_neg cl] at H
        exact absurd H (by simp)
      rw [if_pos cl] at H
      simp only [Option.some.injEq, Prod.mk.injEq] at H
      obtain ⟨rfl, rfl, rfl, rfl, rfl, rfl, rfl⟩ := H
      go_upto_region 6 with fail
      have hb_ := below_drew1 (Below.refl w4.heap.size w4)
      have n0_ := Aside0.mk (CU.out.below hb_)
      have nKg2_ := Aside0.mk (blk_below Kg2.out hb_)
      have nKg3_ := Aside0.mk (blk_below Kg3.out hb_)
      have nR_ := Aside0.mk (Kd.R_below HR.out hb_)
      clear CU Kg2 Kg3 HR
      have CU := n0_
      have Kg2 := nKg2_
      have Kg3 := nKg3_
      have HR := nR_
      clear n0_ nKg2_ nKg3_ nR_
      clear hb_
      refine start_ (n := 9) (S := fun w' => w'.heap[g3]? = some (.cells #[.int .i64 x0, .slice A5 xl.length c5, .int .i64 x2, .int .i64 x3, .int .i64 x4] 36 (0, 0))) (ds := [8]) (mk 9 0) (by kernel_rfl) rfl rfl Kg3.out (fun hHeld => ?_)
      refine with_tabW spec_l5Any.tab6 spec_l5Any.bits6 (fun HT_ HW_ => ?_)
      generalize w4.drew = wd at CU Kg2 Kg3 HR hHeld ⊢
      refine on_ 0 16 (mk 9 0x1) ?_
      refine on_ 2 18 (mk 9 0x5) ?_
      refine rd_ 1 17 (mk 9 0x7) (hy := by (intro w' hS_; have hz_ := box5z hS_; go_simp; with_reducible rfl)) ?_
      refine one_ (i := 3) (N := some 19) (mk 9 0xF) rfl rfl (one_of HT_.out (by kernel_rfl)) (by decide) (fun K hK => ?_)
      refine event_step (by rfl) (v := .slice (some ⟨wd.heap.size, 0, none⟩) 3 3) (w1 := wd.alloc (.cells #[.int .i64 (-1), .int .i64 255, .int .i64 256] 3)) ?hr ?_
      case hr => first | (go_simp; done) | (go_simp; rfl)
      have HNG := Aside0.mk (show g ≠ wd.heap.size from Nat.ne_of_lt CU.out.1.lt)
      have hb_ := below_alloc (Below.refl wd.heap.size wd) (Obj.cells #[.int .i64 (-1), .int .i64 255, .int .i64 256] 3)
      have n0_ := Aside0.mk (CU.out.below hb_)
      have nKg2_ := Aside0.mk (blk_below Kg2.out hb_)
      have nKg3_ := Aside0.mk (blk_below Kg3.out hb_)
      have nR_ := Aside0.mk (Kd.R_below HR.out hb_)
      clear CU Kg2 Kg3 HR
      have CU := n0_
      have Kg2 := nKg2_
      have Kg3 := nKg3_
      have HR := nR_
      clear n0_ nKg2_ nKg3_ nR_
      clear hb_
      refine hK.out _ _ Kg3.out (fun hHeld => nk_ 19 ?_)
      clear hK K hHeld
      refine cl_ 4 20 (mk 9 0x1F) Try.func74 #[.pointer (some ⟨g, 0, none⟩), .slice (some ⟨wd.heap.size, 0, none⟩) 3 3] ?_
      refine (spec_l1Int.calls g s0_0 _ _ _ _ ([(-1), 255, 256] : List Int) v a3 b3 w0 _ CU.out.1 CU.out.2.1 (Kd.R_reads' (lit_ints wd [(-1), 255, 256] (by decide))).2.2 (Nat.le_refl _) (lit_far HNG.out) AV.out).mono ?_
      rintro e w5 ⟨rfl, hi, hb, hk⟩
      have nR_ := Aside0.mk (CU.out.row HR.out hk)
      clear HR
      have n0_ := Aside0.mk (CU.out.call hi hb hk)
      have nKg2_ := Aside0.mk (blk_keep Kg2.out hk (CU.out.1.ne_blk Kg2.out (by decide)))
      have nKg3_ := Aside0.mk (blk_keep Kg3.out hk (CU.out.1.ne_blk Kg3.out (by decide)))
      clear CU hi hb hk Kg2 Kg3
      have CU := n0_
      have Kg2 := nKg2_
      have Kg3 := nKg3_
      clear n0_ nKg2_ nKg3_
      have HR := nR_
      clear nR_
      refine ⟨_, rfl, Kg3.out, fun hHeld => nm_ ?_⟩
      clear hHeld
      refine one_ (i := 5) (N := some 21) (mk 9 0x3F) rfl rfl (one_of HT_.out (by kernel_rfl)) (by decide) (fun K hK => ?_)
      refine event_step (by rfl) (v := .slice (some ⟨w5.heap.size, 0, none⟩) 1 1) (w1 := w5.alloc (.cells ([.int .i64 v] : List Value).toArray 3)) ?hr ?_
      case hr => first | (go_simp; done) | (go_simp; rfl)
      refine hK.out _ _ (blk_alloc Kg3.out _) (fun hHeld => nk_ 21 ?_)
      clear hK K hHeld
      refine one_ (i := 6) (N := some 22) (mk 9 0x7F) rfl rfl (one_of HT_.out (by kernel_rfl)) (by decide) (fun K hK => ?_)
      refine Kd.R_append_step (Kd.int .i64) w.heap.size (by rfl) (.tmp 17) (.tmp 21) 23 3 (.int .i64 0) 8 rfl Try.underlying23 info3 rfl (by decide) (by omega) (.slice A5 xl.length c5) xl v [.int .i64 v] (fun _ => True) (fun _ => False) rfl rfl (show Kd.M (Kd.int .i64) _ _ _ v [.int .i64 v] from rfl) (fun _ hk => hk.elim) (fun _ _ => trivial) (Kd.R_mono HR.out (fun _ _ => trivial)) (Below.refl _ _) CU.out.2.2.1 (by omega) ?_
      intro v6 w7 ho6 hb6 hg6 hat6
      have hrow : ∀ q_, (.slice A5 xl.length c5 : Value).ownBlock = some q_ → w.heap.size ≤ q_ ∧ q_ ≠ g ∧ q_ ≠ g2 ∧ q_ ≠ g3 := fun q_ h_ => ⟨Kd.R_base HR.out q_ h_, ((CU.out.1.apart HR.out (by decide)).1 q_ h_).2, ((Kd.R_types HR.out Kg2.out (by decide)).1 q_ h_).2, ((Kd.R_types HR.out Kg3.out (by decide)).1 q_ h_).2⟩
      have n0_ := CU.out.grown HL.out hg6 (fun q_ h_ => ⟨(hrow q_ h_).1, (hrow q_ h_).2.1⟩)
      have n2_ := (hg6.block g2 (blk_lt Kg2.out) (fun e_ => (hrow g2 e_.symm).2.2.1 rfl)).trans Kg2.out
      have n3_ := (hg6.block g3 (blk_lt Kg3.out) (fun e_ => (hrow g3 e_.symm).2.2.2 rfl)).trans Kg3.out
      clear CU Kg2 Kg3 HR hrow hb6 hg6 hat6
      have CU := Aside0.mk n0_
      have Kg2 := Aside0.mk n2_
      have Kg3 := Aside0.mk n3_
      obtain ⟨A6, c6, e6⟩ := Kd.R_slice ho6
      subst e6
      rw [show (xl ++ [v]).length = xl.length + 1 by simp] at ho6 ⊢
      have HR := Aside0.mk ho6
      clear n0_ n2_ n3_ ho6
      refine hK.out _ _ Kg3.out (fun hHeld => nk_ 22 ?_)
      clear hK K hHeld
      refine on_ 7 23 (mk 9 0xFF) ?_
      have hz := box5z Kg3.out
      refine last_ (i := 8) (N := none) (mk 9 0x1FF) rfl rfl (one_of HT_.out (by kernel_rfl)) (by decide) (fun K hK => ?_)
      refine skip_ (w1 := w7.setCell ⟨g3, 1, none⟩ (.slice A6 (xl.length + 1) c6)) (by rfl) rfl (by first | (go_simp; done) | (go_simp; rfl)) ?_
      refine hK.out _ _ ?_
      clear hK K hz
      refine dn_ ?_
      have hne_ := CU.out.1.ne_blk Kg3.out (by decide)
      have k31_ := blk_put (cs' := #[.int .i64 x0, .slice A6 (xl.length + 1) c6, .int .i64 x2, .int .i64 x3, .int .i64 x4]) (Kg3.out) 1 (.slice A6 (xl.length + 1) c6) rfl
      have n0_ := (CU.out).put HL.out Ng3.out hne_ 1 (.slice A6 (xl.length + 1) c6)
      have n2_ := ((Below.heap_setCell w7 ⟨g3, 1, none⟩ (.slice A6 (xl.length + 1) c6) g2 NE.out).trans (Kg2.out))
      have nR_ := Kd.R_set (HR.out) (Kg3.out) (by decide) 1 (.slice A6 (xl.length + 1) c6)
      have n3_ := k31_
      generalize (w7.setCell ⟨g3, 1, none⟩ (.slice A6 (xl.length + 1) c6)) = w6 at n0_ n2_ n3_ nR_ ⊢
      clear CU Kg2 Kg3 HR hne_ k31_
      have CU := Aside0.mk n0_
      have Kg2 := Aside0.mk n2_
      have Kg3 := Aside0.mk n3_
      have HR := Aside0.mk nR_
      clear n0_ n2_ n3_ nR_
      have hz := box5z Kg3.out
      have hy := box5z Kg2.out
      go_wp2
      have hg2_ := CU.out.1.ne_blk Kg2.out (by decide)
      obtain ⟨wf, ef, CF, KF, hf⟩ := CU.out.put5 HL.out Kg2.out Ng2.out hg2_ (.int .i64 x0) (.slice A6 (xl.length + 1) c6) (.int .i64 x2) (.int .i64 x3) (.int .i64 x4)
      have HF := Kd.R_mono (Kd.R_step (Kd.R_types HR.out Kg2.out (by decide)) (fun k_ ho _ => hf k_ ho.2)) (fun _ h_ => h_.1)
      rw [← ef]
      refine bodyPost_ret (results_cell_row rfl _ _ g2 36 #[.int .i64 x0, .slice A6 (xl.length + 1) c6, .int .i64 x2, .int .i64 x3, .int .i64 x4] (0, 0) _ rfl KF Try.underlying36 rfl (by kernel_rfl)) rfl ?_
      exact ⟨_, rfl, HF, CF.1, CF.2.1, CF.2.2⟩
    · rw [if_neg c1] at H
      have cb1 : (n == 1) = false := beq_eq_false_iff_ne.mpr c1
      by_cases c2 : n = 2
      · rw [if_pos c2] at H
        have cb2 : (n == 2) = true := beq_iff_eq.mpr c2
        have CU4 := Aside0.mk CU.out.2.2.1
        simp only [Option.some.injEq, Prod.mk.injEq] at H
        obtain ⟨rfl, rfl, rfl, rfl, rfl, rfl, rfl⟩ := H
        have HNG := Aside0.mk (show g ≠ w4.heap.size from Nat.ne_of_lt CU.out.1.lt)
        have hb_ := below_alloc (Below.refl w4.heap.size w4) (Obj.cells #[.int .i64 1, .int .i64 2, .int .i64 3, .int .i64 4, .int .i64 5, .int .i64 6, .int .i64 7] 3)
        have n0_ := Aside0.mk (CU.out.below hb_)
        have nKg2_ := Aside0.mk (blk_below Kg2.out hb_)
        have nKg3_ := Aside0.mk (blk_below Kg3.out hb_)
        have nR_ := Aside0.mk (Kd.R_below HR.out hb_)
        clear CU Kg2 Kg3 HR
        have CU := n0_
        have Kg2 := nKg2_
        have Kg3 := nKg3_
        have HR := nR_
        clear n0_ nKg2_ nKg3_ nR_
        clear hb_
        have hz := box5z Kg3.out
        go_upto_region 11 with fail
        clear hz
        have HR := Aside0.mk (show Kd.R (Kd.int .i64) 3 (w4.alloc (.cells #[.int .i64 1, .int .i64 2, .int .i64 3, .int .i64 4, .int .i64 5, .int .i64 6, .int .i64 7] 3)) w.heap.size (fun _ => True) (.slice (some ⟨w4.heap.size, 0, none⟩) 7 7) ([1, 2, 3, 4, 5, 6, 7] : List Int) from Kd.R_lower (lit_ints w4 [1, 2, 3, 4, 5, 6, 7] (by decide)) CU4.out)
        have nL_ : (w4.alloc (.cells #[.int .i64 1, .int .i64 2, .int .i64 3, .int .i64 4, .int .i64 5, .int .i64 6, .int .i64 7] 3)).heap.size = w4.heap.size + 1 := by simp
        have hne_ := CU.out.1.ne_blk Kg3.out (by decide)
        have k31_ := blk_put (cs' := #[.int .i64 x0, .slice (some ⟨w4.heap.size, 0, none⟩) 7 7, .int .i64 x2, .int .i64 x3, .int .i64 x4]) (Kg3.out) 1 (.slice (some ⟨w4.heap.size, 0, none⟩) 7 7) rfl
        have n0_ := (CU.out).put HL.out Ng3.out hne_ 1 (.slice (some ⟨w4.heap.size, 0, none⟩) 7 7)
        have n2_ := ((Below.heap_setCell (w4.alloc (.cells #[.int .i64 1, .int .i64 2, .int .i64 3, .int .i64 4, .int .i64 5, .int .i64 6, .int .i64 7] 3)) ⟨g3, 1, none⟩ (.slice (some ⟨w4.heap.size, 0, none⟩) 7 7) g2 NE.out).trans (Kg2.out))
        have nR_ := Kd.R_set (HR.out) (Kg3.out) (by decide) 1 (.slice (some ⟨w4.heap.size, 0, none⟩) 7 7)
        have n3_ := k31_
        generalize ((w4.alloc (.cells #[.int .i64 1, .int .i64 2, .int .i64 3, .int .i64 4, .int .i64 5, .int .i64 6, .int .i64 7] 3)).setCell ⟨g3, 1, none⟩ (.slice (some ⟨w4.heap.size, 0, none⟩) 7 7)) = w6 at n0_ n2_ n3_ nR_ ⊢
        clear CU Kg2 Kg3 HR hne_ k31_
        have CU := Aside0.mk n0_
        have Kg2 := Aside0.mk n2_
        have Kg3 := Aside0.mk n3_
        have HR := Aside0.mk nR_
        clear n0_ n2_ n3_ nR_
        have hz := box5z Kg3.out
        have hy := box5z Kg2.out
        go_wp2
        have hg2_ := CU.out.1.ne_blk Kg2.out (by decide)
        obtain ⟨wf, ef, CF, KF, hf⟩ := CU.out.put5 HL.out Kg2.out Ng2.out hg2_ (.int .i64 x0) (.slice (some ⟨w4.heap.size, 0, none⟩) 7 7) (.int .i64 x2) (.int .i64 x3) (.int .i64 x4)
        have HF := Kd.R_mono (Kd.R_step (Kd.R_types HR.out Kg2.out (by decide)) (fun k_ ho _ => hf k_ ho.2)) (fun _ h_ => h_.1)
        rw [← ef]
        refine bodyPost_ret (results_cell_row rfl _ _ g2 36 #[.int .i64 x0, .slice (some ⟨w4.heap.size, 0, none⟩) 7 7, .int .i64 x2, .int .i64 x3, .int .i64 x4] (0, 0) _ rfl KF Try.underlying36 rfl (by kernel_rfl)) rfl ?_
        exact ⟨_, rfl, HF, CF.1, CF.2.1, CF.2.2⟩
      · rw [if_neg c2] at H
        have cb2 : (n == 2) = false := beq_eq_false_iff_ne.mpr c2
        by_cases c3 : n = 3
        · rw [if_pos c3] at H
          have cb3 : (n == 3) = true := beq_iff_eq.mpr c3
          obtain ⟨⟨y2, y3, y4, a3, b3⟩, AV, H⟩ := Option.bind_eq_some_iff.mp H
          replace AV := Aside0.mk AV
          simp only [Option.some.injEq, Prod.mk.injEq] at H
          obtain ⟨rfl, rfl, rfl, rfl, rfl, rfl, rfl⟩ := H
          go_upto_region 11 with (first | ((with_reducible refine gate_callee (f := 76) rfl ?_); refine goesL_ (some 31) rfl rfl Try.func76 (by kernel_rfl) rfl #[.pointer (some ⟨g, 0, none⟩)] rfl (by (try simp only [List.map_toArray, List.map_cons, List.map_nil]); first | done | rfl) ?_; refine (spec_l4Any.calls g s0_0 _ _ y2 y3 y4 a3 b3 w0 _ CU.out.1 CU.out.2.1 AV.out).mono ?_; rintro e w5 ⟨rfl, hi, hb, hk⟩; refine ⟨_, rfl, ?_⟩; have nR_ := Aside0.mk (CU.out.row HR.out hk); clear HR; have n0_ := Aside0.mk (CU.out.call hi hb hk); have nKg2_ := Aside0.mk (blk_keep Kg2.out hk (CU.out.1.ne_blk Kg2.out (by decide))); have nKg3_ := Aside0.mk (blk_keep Kg3.out hk (CU.out.1.ne_blk Kg3.out (by decide))); clear CU hi hb hk Kg2 Kg3; have CU := n0_; have Kg2 := nKg2_; have Kg3 := nKg3_; clear n0_ nKg2_ nKg3_; have HR := nR_; clear nR_; have hz := box5z Kg3.out))
          clear hz
          have hne_ := CU.out.1.ne_blk Kg3.out (by decide)
          have k32_ := blk_put (cs' := #[.int .i64 x0, .slice A5 xl.length c5, .int .i64 y2, .int .i64 x3, .int .i64 x4]) (Kg3.out) 2 (.int .i64 y2) rfl
          have k33_ := blk_put (cs' := #[.int .i64 x0, .slice A5 xl.length c5, .int .i64 y2, .int .i64 y3, .int .i64 x4]) (k32_) 3 (.int .i64 y3) rfl
          have k34_ := blk_put (cs' := #[.int .i64 x0, .slice A5 xl.length c5, .int .i64 y2, .int .i64 y3, .int .i64 y4]) (k33_) 4 (.int .i64 y4) rfl
          have n0_ := (((CU.out).put HL.out Ng3.out hne_ 2 (.int .i64 y2)).put HL.out Ng3.out hne_ 3 (.int .i64 y3)).put HL.out Ng3.out hne_ 4 (.int .i64 y4)
          have n2_ := ((Below.heap_setCell ((w5.setCell ⟨g3, 2, none⟩ (.int .i64 y2)).setCell ⟨g3, 3, none⟩ (.int .i64 y3)) ⟨g3, 4, none⟩ (.int .i64 y4) g2 NE.out).trans (((Below.heap_setCell (w5.setCell ⟨g3, 2, none⟩ (.int .i64 y2)) ⟨g3, 3, none⟩ (.int .i64 y3) g2 NE.out).trans (((Below.heap_setCell w5 ⟨g3, 2, none⟩ (.int .i64 y2) g2 NE.out).trans (Kg2.out))))))
          have nR_ := Kd.R_set (Kd.R_set (Kd.R_set (HR.out) (Kg3.out) (by decide) 2 (.int .i64 y2)) (k32_) (by decide) 3 (.int .i64 y3)) (k33_) (by decide) 4 (.int .i64 y4)
          have n3_ := k34_
          generalize (((w5.setCell ⟨g3, 2, none⟩ (.int .i64 y2)).setCell ⟨g3, 3, none⟩ (.int .i64 y3)).setCell ⟨g3, 4, none⟩ (.int .i64 y4)) = w6 at n0_ n2_ n3_ nR_ ⊢
          clear CU Kg2 Kg3 HR hne_ k32_ k33_ k34_
          have CU := Aside0.mk n0_
          have Kg2 := Aside0.mk n2_
          have Kg3 := Aside0.mk n3_
          have HR := Aside0.mk nR_
          clear n0_ n2_ n3_ nR_
          have hz := box5z Kg3.out
          have hy := box5z Kg2.out
          go_wp2
          have hg2_ := CU.out.1.ne_blk Kg2.out (by decide)
          obtain ⟨wf, ef, CF, KF, hf⟩ := CU.out.put5 HL.out Kg2.out Ng2.out hg2_ (.int .i64 x0) (.slice A5 xl.length c5) (.int .i64 y2) (.int .i64 y3) (.int .i64 y4)
          have HF := Kd.R_mono (Kd.R_step (Kd.R_types HR.out Kg2.out (by decide)) (fun k_ ho _ => hf k_ ho.2)) (fun _ h_ => h_.1)
          rw [← ef]
          refine bodyPost_ret (results_cell_row rfl _ _ g2 36 #[.int .i64 x0, .slice A5 xl.length c5, .int .i64 y2, .int .i64 y3, .int .i64 y4] (0, 0) _ rfl KF Try.underlying36 rfl (by kernel_rfl)) rfl ?_
          exact ⟨_, rfl, HF, CF.1, CF.2.1, CF.2.2⟩
        · rw [if_neg c3] at H
          have cb3 : (n == 3) = false := beq_eq_false_iff_ne.mpr c3
          simp only [Option.some.injEq, Prod.mk.injEq] at H
          obtain ⟨rfl, rfl, rfl, rfl, rfl, rfl, rfl⟩ := H
          have hz := box5z Kg3.out
          have hy := box5z Kg2.out
          go_wp2
          have hg2_ := CU.out.1.ne_blk Kg2.out (by decide)
          obtain ⟨wf, ef, CF, KF, hf⟩ := CU.out.put5 HL.out Kg2.out Ng2.out hg2_ (.int .i64 x0) (.slice A5 xl.length c5) (.int .i64 x2) (.int .i64 x3) (.int .i64 x4)
          have HF := Kd.R_mono (Kd.R_step (Kd.R_types HR.out Kg2.out (by decide)) (fun k_ ho _ => hf k_ ho.2)) (fun _ h_ => h_.1)
          rw [← ef]
          refine bodyPost_ret (results_cell_row rfl _ _ g2 36 #[.int .i64 x0, .slice A5 xl.length c5, .int .i64 x2, .int .i64 x3, .int .i64 x4] (0, 0) _ rfl KF Try.underlying36 rfl (by kernel_rfl)) rfl ?_
          exact ⟨_, rfl, HF, CF.1, CF.2.1, CF.2.2⟩

/-! ### spec_l1In: function 67 -/
def spec_l1In.f (a0 : Int) (a1 : Int) (a2 : Int) : Option (Bool) := if a0 ≥ a1 then (some (decide (a0 ≤ a2))) else (some false)
set_option maxHeartbeats 8000000 in
set_option maxRecDepth 100000 in
theorem spec_l1In.calls (a0 : Int) (a1 : Int) (a2 : Int) (r : Bool) (w : World) (h : spec_l1In.f a0 a1 a2 = some r) :
    Calls Try.prog 67 #[.int .i64 a0, .int .i64 a1, .int .i64 a2] w fun e w' => e = .returned (.bool r) ∧ Drawn0 w w' := by
  have H : (if a0 ≥ a1 then (some (decide (a0 ≤ a2))) else (some false)) = some r := h
  clear h
  by_cases c4 : a0 ≥ a1
  · rw [if_pos c4] at H
    have c4b0 : decide (a1 ≤ a0) = true := decide_eq_true c4
    clear c4
    obtain rfl := Option.some.inj H
    go_enter Try.func67, Try.ntmps67
    go_wp2
    go_ret
    exact ⟨by first | rfl | (simp; done) | (simp [*]; done), by repeat (first | exact Drawn0.refl _ | apply Drawn0.step)⟩
  · rw [if_neg c4] at H
    have c4b0 : decide (a1 ≤ a0) = false := decide_eq_false c4
    clear c4
    obtain rfl := Option.some.inj H
    go_enter Try.func67, Try.ntmps67
    go_wp2
    go_ret
    exact ⟨by first | rfl | (simp; done) | (simp [*]; done), by repeat (first | exact Drawn0.refl _ | apply Drawn0.step)⟩

/-! ### spec_Mod: function 79 -/
def spec_Mod.f (a0 : Int) (a1 : Int) : Option (Int) := (spec_l1In.f a1 1 1000000000000).bind fun t323 => (if t323 = true then (if a1 = 0 then (none) else (some (Int.tmod (wrap64 ((Int.tmod a0 a1) + a1)) a1))) else (some 0))
set_option maxHeartbeats 8000000 in
set_option maxRecDepth 100000 in
theorem spec_Mod.calls (a0 : Int) (a1 : Int) (r : Int) (w : World) (h : spec_Mod.f a0 a1 = some r) :
    Calls Try.prog 79 #[.int .i64 a0, .int .i64 a1] w fun e w' => e = .returned (.int .i64 r) ∧ Drawn0 w w' := by
  have H : ((spec_l1In.f a1 1 1000000000000).bind fun t323 => (if t323 = true then (if a1 = 0 then (none) else (some (Int.tmod (wrap64 ((Int.tmod a0 a1) + a1)) a1))) else (some 0))) = some r := h
  clear h
  replace H := Option.bind_eq_some_iff.mp H
  obtain ⟨t323, A30, H⟩ := H
  replace H : (if t323 = true then (if a1 = 0 then (none) else (some (Int.tmod (wrap64 ((Int.tmod a0 a1) + a1)) a1))) else (some 0)) = some r := H
  have A3 := Aside0.mk A30
  clear A30
  by_cases c4 : t323 = true
  · subst c4
    have H1 : (if a1 = 0 then (none) else (some (Int.tmod (wrap64 ((Int.tmod a0 a1) + a1)) a1))) = some r := by rw [if_pos rfl] at H; exact H
    clear H
    have H := H1
    clear H1
    by_cases c5 : a1 = 0
    · rw [if_pos c5] at H
      exact absurd H (by simp)
    · rw [if_neg c5] at H
      have c5b0 : (a1 == 0) = false := beq_eq_false_iff_ne.mpr c5
      have c5b1 : (a1 != 0) = true := bne_iff_ne.mpr c5
      obtain rfl := Option.some.inj H
      go_enter Try.func79, Try.ntmps79
      go_wp2_with (first | ((with_reducible refine gate_callee (f := 67) rfl ?_); refine goesL_ (some 6) rfl rfl Try.func67 (by kernel_rfl) rfl #[.int .i64 a1, .int .i64 1, .int .i64 1000000000000] rfl (by (try simp only [List.map_toArray, List.map_cons, List.map_nil]); first | done | rfl | (simp only [List.length_drop, List.length_take]; rfl)) ?_; (with_reducible refine (spec_l1In.calls a1 1 1000000000000 true _ A3.out).mono ?_); rintro e w' ⟨rfl, ⟨nd, rfl⟩⟩; refine ⟨_, rfl, ?_⟩))
      go_ret
      exact ⟨by first | rfl | (simp; done) | (simp [*]; done), by repeat (first | exact Drawn0.refl _ | apply Drawn0.step)⟩
  · replace c4 := Bool.eq_false_iff.mpr c4
    subst c4
    have H1 : (some 0) = some r := by rw [if_neg (show ¬ (false = true) by decide)] at H; exact H
    clear H
    have H := H1
    clear H1
    obtain rfl := Option.some.inj H
    go_enter Try.func79, Try.ntmps79
    go_wp2_with (first | ((with_reducible refine gate_callee (f := 67) rfl ?_); refine goesL_ (some 6) rfl rfl Try.func67 (by kernel_rfl) rfl #[.int .i64 a1, .int .i64 1, .int .i64 1000000000000] rfl (by (try simp only [List.map_toArray, List.map_cons, List.map_nil]); first | done | rfl | (simp only [List.length_drop, List.length_take]; rfl)) ?_; (with_reducible refine (spec_l1In.calls a1 1 1000000000000 false _ A3.out).mono ?_); rintro e w' ⟨rfl, ⟨nd, rfl⟩⟩; refine ⟨_, rfl, ?_⟩))
    go_ret
    exact ⟨by first | rfl | (simp; done) | (simp [*]; done), by repeat (first | exact Drawn0.refl _ | apply Drawn0.step)⟩

/-! ### spec_Hash: function 59 -/
def spec_Hash.l0 : Nat → List Int → Int → Int → Option (Int)
  | 0, _, _, _ => none
  | k + 1, x0, x3, x4 => if x4 < (x0.length : Int) then (if 0 ≤ x4 then ((spec_Mod.f (rd x0 x4) 2147483647).bind fun t325 => (spec_Hash.l0 k x0 (Int.tmod (wrap64 ((wrap64 ((wrap64 (x3 * 1000003)) + t325)) + 13)) 2147483647) (wrap64 (x4 + 1)))) else (none)) else (some x3)
def spec_Hash.f (k : Nat) (l0 : List Int) : Option (Int) := spec_Hash.l0 k l0 11 0
set_option maxHeartbeats 8000000 in
set_option maxRecDepth 100000 in
theorem spec_Hash.calls (k : Nat) (A0 : Option Addr) (c0 : Nat) (l0 : List Int) (r : Int) (w : World) (hr0 : Kd.C (Kd.int .i64) w A0 l0.length l0) (hc0 : l0.length ≤ c0) (h : spec_Hash.f k l0 = some r) :
    Calls Try.prog 59 #[.slice A0 l0.length c0] w fun e w' => e = .returned (.int .i64 r) ∧ Drawn0 w w' := by
  have HR0 := Aside0.mk hr0
  have HC0 := Aside0.mk hc0
  clear hr0 hc0
  have H : (spec_Hash.l0 k l0 11 0) = some r := h
  clear h
  have H' := Aside0.mk H
  clear H
  go_enter Try.func59, Try.ntmps59
  go_wp2
  go_loopg [3, 4] k (fun kq v3 v4 w' => ∃ (x3_1 : Int) (x4_1 : Int), v3 = .int .i64 x3_1 ∧ v4 = .int .i64 x4_1 ∧ Aside0 (spec_Hash.l0 kq l0 x3_1 x4_1 = some r) ∧ Aside0 (kq ≤ k) ∧ Drawn0 w w')
  case atStart => exact ⟨(11), (0), (by first | rfl | (simp; done) | (simp [*]; done)), (by first | rfl | (simp; done) | (simp [*]; done)), H', ⟨Nat.le_refl _⟩, by repeat (first | exact Drawn0.refl _ | apply Drawn0.step)⟩
  case round =>
    clear H'
    obtain ⟨x3_1, x4_1, rfl, rfl, HA, HK1, ⟨m1, rfl⟩⟩ := hrel
    cases gk with
    | zero => exact absurd HA.out (by simp [spec_Hash.l0])
    | succ k1 =>
      have H := HA.out
      clear HA
      simp only [spec_Hash.l0] at H
      by_cases c2 : x4_1 < (l0.length : Int)
      · rw [if_pos c2] at H
        have c2b0 : decide (x4_1 < (l0.length : Int)) = true := decide_eq_true c2
        clear c2
        by_cases c3 : 0 ≤ x4_1
        · rw [if_pos c3] at H
          have c3b0 : decide (0 ≤ x4_1) = true := decide_eq_true c3
          clear c3
          replace H := Option.bind_eq_some_iff.mp H
          obtain ⟨t325, A40, H⟩ := H
          replace H : (spec_Hash.l0 k1 l0 (Int.tmod (wrap64 ((wrap64 ((wrap64 (x3_1 * 1000003)) + t325)) + 13)) 2147483647) (wrap64 (x4_1 + 1))) = some r := H
          have A4 := Aside0.mk A40
          clear A40
          have H' := Aside0.mk H
          clear H
          have p324 : 0 ≤ (x4_1 : Int) := of_decide_eq_true (by first | (with_reducible assumption) | assumption)
          have q324 : x4_1 < (l0.length : Int) := of_decide_eq_true (by first | (with_reducible assumption) | assumption)
          obtain ⟨ad324, e324, hx324_0⟩ := Kd.at_int HR0.out x4_1 p324 q324
          cases e324
          replace p324 := eq_true p324
          replace q324 := eq_true q324
          go_wp2_with (first | ((with_reducible refine gate_callee (f := 79) rfl ?_); refine goesL_ (some 17) rfl rfl Try.func79 (by kernel_rfl) rfl #[.int .i64 (rd l0 x4_1), .int .i64 2147483647] rfl (by (try simp only [List.map_toArray, List.map_cons, List.map_nil]); first | done | rfl | (simp only [List.length_drop, List.length_take]; rfl)) ?_; (with_reducible refine (spec_Mod.calls (rd l0 x4_1) 2147483647 t325 _ A4.out).mono ?_); rintro e w' ⟨rfl, ⟨nd, rfl⟩⟩; refine ⟨_, rfl, ?_⟩))
          go_roundg k1
          case measure => have := HK1.out; omega
          case rel => exact ⟨(Int.tmod (wrap64 ((wrap64 ((wrap64 (x3_1 * 1000003)) + t325)) + 13)) 2147483647), (wrap64 (x4_1 + 1)), (by first | rfl | (simp; done) | (simp [*]; done)), (by first | rfl | (simp; done) | (simp [*]; done)), H', ⟨by have := HK1.out; omega⟩, by repeat (first | exact Drawn0.refl _ | apply Drawn0.step)⟩
        · rw [if_neg c3] at H
          exact absurd H (by simp)
      · rw [if_neg c2] at H
        have c2b0 : decide (x4_1 < (l0.length : Int)) = false := decide_eq_false c2
        clear c2
        obtain rfl := Option.some.inj H
        go_wp2
        go_ret
        exact ⟨by first | rfl | (simp; done) | (simp [*]; done), by repeat (first | exact Drawn0.refl _ | apply Drawn0.step)⟩

/-! ### spec_ResourceInts: function 60 -/
def spec_ResourceInts.f (a0_0 : Int) (l0_1 : List Int) (a0_2 : Int) (a0_3 : Int) (a0_4 : Int) : Option (List Int) := (some (([a0_0, a0_2, a0_3, a0_4, (l0_1.length : Int)] : List Int) : List Int)).bind fun y327 => (if y327.length + l0_1.length < 17592186044416 then (some (y327 ++ l0_1)) else (none))
set_option maxHeartbeats 8000000 in
set_option maxRecDepth 100000 in
theorem spec_ResourceInts.calls (a0_0 : Int) (A0_1 : Option Addr) (c0_1 : Nat) (l0_1 : List Int) (a0_2 : Int) (a0_3 : Int) (a0_4 : Int) (r : List Int) (w : World) (hr0_1 : Kd.C (Kd.int .i64) w A0_1 l0_1.length l0_1) (hc0_1 : l0_1.length ≤ c0_1) (h : spec_ResourceInts.f a0_0 l0_1 a0_2 a0_3 a0_4 = some r) :
    Calls Try.prog 60 #[.agg #[.int .i64 a0_0, .slice A0_1 l0_1.length c0_1, .int .i64 a0_2, .int .i64 a0_3, .int .i64 a0_4]] w fun e w' => ∃ v0_ : Value, e = .returned (v0_) ∧ Kd.R (Kd.int .i64) 3 w' w.heap.size (fun _ => True) v0_ r ∧ Below w.heap.size w w' := by
  have hu36 := Try.underlying36
  have HR0_1 := Aside0.mk hr0_1
  have HC0_1 := Aside0.mk hc0_1
  clear hr0_1 hc0_1
  have HB := Aside0.mk (Below.refl w.heap.size w)
  have H : ((some (([a0_0, a0_2, a0_3, a0_4, (l0_1.length : Int)] : List Int) : List Int)).bind fun y327 => (if y327.length + l0_1.length < 17592186044416 then (some (y327 ++ l0_1)) else (none))) = some r := h
  clear h
  obtain ⟨y327, hy327⟩ : ∃ y_ : List Int, y_ = (([a0_0, a0_2, a0_3, a0_4, (l0_1.length : Int)] : List Int)) := ⟨_, rfl⟩
  replace H : (if y327.length + l0_1.length < 17592186044416 then (some (y327 ++ l0_1)) else (none)) = some r := by first | (rw [hy327]; with_reducible exact H) | (have H2_ := (Option.bind_some _ _).symm.trans H; rw [hy327]; with_reducible exact H2_) | (have H2_ := (Option.bind_some _ _).symm.trans H; with_reducible exact H2_) | with_reducible exact H | (rw [hy327]; exact H) | exact H
  have Ny327 := Aside0.mk hy327
  clear hy327
  by_cases c2 : y327.length + l0_1.length < 17592186044416
  · rw [if_pos c2] at H
    have LMc2 := Aside0.mk c2
    clear c2
    obtain ⟨y330, hy330⟩ : ∃ y_ : List Int, y_ = (y327 ++ l0_1) := ⟨_, rfl⟩
    replace H : (some y330) = some r := by first | (rw [hy330]; with_reducible exact H) | (have H2_ := (Option.bind_some _ _).symm.trans H; rw [hy330]; with_reducible exact H2_) | (have H2_ := (Option.bind_some _ _).symm.trans H; with_reducible exact H2_) | with_reducible exact H | (rw [hy330]; exact H) | exact H
    have Ny330 := Aside0.mk hy330
    clear hy330
    obtain rfl := Option.some.inj H
    go_enter Try.func60, Try.ntmps60
    go_wp2_with (first | ((with_reducible refine gate_dst (N := 1) rfl ?_); refine box_event ?hg (N := 1) ?hd (cs := #[.int .i64 a0_0, .slice A0_1 l0_1.length c0_1, .int .i64 a0_2, .int .i64 a0_3, .int .i64 a0_4]) (t := 36) ?hr ?_; (case hd => rfl); (case hg => rfl); (case hr => first | (go_simp; done) | (go_simp; rfl)); intro gb326 hg w3 hbox hb; have n0_ := Aside0.mk (below_step (by repeat (first | (with_reducible first | exact HB.out | apply below_alloc | apply pw_below_drewN | apply below_drew1) | exact HB.out)) hb); have n1_ := Aside0.mk (hbox); have n2_ := Aside0.mk ((by rw [hg]; exact (below_size (by repeat (first | (with_reducible first | exact HB.out | apply below_alloc | apply pw_below_drewN | apply below_drew1) | exact HB.out))) : w.heap.size ≤ gb326)); have n3_ := Aside0.mk ((by rw [hg]; exact (below_size (by repeat (first | (with_reducible first | exact HB.out | apply below_alloc | apply pw_below_drewN | apply below_drew1) | exact HB.out))) : w.heap.size ≤ gb326)); clear HB; have HB := n0_; have BK326 := n1_; have GW326 := n2_; have GE326 := n3_; clear n0_ n1_ n2_ n3_; clear hb hbox hg; have hcz4_0 : w3.cell? ⟨gb326, 0, none⟩ = some (.int .i64 a0_0) := (blk_cell BK326.out 0).trans rfl; have hcz4_1 : w3.cell? ⟨gb326, 1, none⟩ = some (.slice A0_1 l0_1.length c0_1) := (blk_cell BK326.out 1).trans rfl; have hcz4_2 : w3.cell? ⟨gb326, 2, none⟩ = some (.int .i64 a0_2) := (blk_cell BK326.out 2).trans rfl; have hcz4_3 : w3.cell? ⟨gb326, 3, none⟩ = some (.int .i64 a0_3) := (blk_cell BK326.out 3).trans rfl; have hcz4_4 : w3.cell? ⟨gb326, 4, none⟩ = some (.int .i64 a0_4) := (blk_cell BK326.out 4).trans rfl; have hfz4_0 := blk_frozen BK326.out 0; have hfz4_1 := blk_frozen BK326.out 1; have hfz4_2 := blk_frozen BK326.out 2; have hfz4_3 := blk_frozen BK326.out 3; have hfz4_4 := blk_frozen BK326.out 4) | ((with_reducible refine gate_dst (N := 17) rfl ?_); refine Kd.R_lit (Kd.int .i64) _ 3 ?hg (N := 17) ?hd (xs := ([a0_0, a0_2, a0_3, a0_4, (l0_1.length : Int)] : List Int)) (inner := [.int .i64 a0_0, .int .i64 a0_2, .int .i64 a0_3, .int .i64 a0_4, .int .i64 (l0_1.length : Int)]) (ok := fun _ => True) (okp := fun _ => True) ?hr ?hp (fun _ hk => hk) trivial (Below.refl _ _) (Nat.le_refl _) (by simp) ?_; (case hd => rfl); (case hg => rfl); (case hr => first | (go_simp; done) | (go_simp; rfl)); (case hp => exact (Reps.one (show Kd.M (Kd.int .i64) _ _ _ a0_0 [.int .i64 a0_0] from rfl) (Reps.one (show Kd.M (Kd.int .i64) _ _ _ a0_2 [.int .i64 a0_2] from rfl) (Reps.one (show Kd.M (Kd.int .i64) _ _ _ a0_3 [.int .i64 a0_3] from rfl) (Reps.one (show Kd.M (Kd.int .i64) _ _ _ a0_4 [.int .i64 a0_4] from rfl) (Reps.one (show Kd.M (Kd.int .i64) _ _ _ (l0_1.length : Int) [.int .i64 (l0_1.length : Int)] from rfl) (Reps.none _ _))))))); intro v328 w5 ho6 hb hg_ hnew_; clear hg_ hnew_; (first | rw [← Ny327.out] at ho6 | (simp only [Int.reduceToNat] at ho6; rw [← Ny327.out] at ho6)); have n0_ := Aside0.mk (Kd.R_lower ho6 (below_size (by repeat (first | (with_reducible first | exact HB.out | apply below_alloc | apply pw_below_drewN | apply below_drew1 | refine below_set ?_ GE326.out) | exact HB.out)))); have n1_ := Aside0.mk (blk_below (g := gb326) (o := .cells #[.int .i64 a0_0, .slice A0_1 l0_1.length c0_1, .int .i64 a0_2, .int .i64 a0_3, .int .i64 a0_4] 36 (0, 0)) (by (with_reducible repeat (first | refine blk_drewN ?_ _ | refine blk_drew ?_ | refine blk_alloc ?_ _)); exact BK326.out) hb); have n2_ := Aside0.mk (below_step (by repeat (first | (with_reducible first | exact HB.out | apply below_alloc | apply pw_below_drewN | apply below_drew1 | refine below_set ?_ GE326.out) | exact HB.out)) hb); clear BK326; clear HB; have HO329 := n0_; have BK326 := n1_; have HB := n2_; clear n0_ n1_ n2_; clear hb ho6; have hcz7_0 : w5.cell? ⟨gb326, 0, none⟩ = some (.int .i64 a0_0) := (blk_cell BK326.out 0).trans rfl; have hcz7_1 : w5.cell? ⟨gb326, 1, none⟩ = some (.slice A0_1 l0_1.length c0_1) := (blk_cell BK326.out 1).trans rfl; have hcz7_2 : w5.cell? ⟨gb326, 2, none⟩ = some (.int .i64 a0_2) := (blk_cell BK326.out 2).trans rfl; have hcz7_3 : w5.cell? ⟨gb326, 3, none⟩ = some (.int .i64 a0_3) := (blk_cell BK326.out 3).trans rfl; have hcz7_4 : w5.cell? ⟨gb326, 4, none⟩ = some (.int .i64 a0_4) := (blk_cell BK326.out 4).trans rfl; have hfz7_0 := blk_frozen BK326.out 0; have hfz7_1 := blk_frozen BK326.out 1; have hfz7_2 := blk_frozen BK326.out 2; have hfz7_3 := blk_frozen BK326.out 3; have hfz7_4 := blk_frozen BK326.out 4) | ((with_reducible refine gate_builtin (b := .append) (xs := #[.tmp 17, .tmp 19]) rfl ?_); at_builtin; refine Kd.R_append_rows (Kd.int .i64) (w0 := w) w.heap.size rfl (.tmp 17) (.tmp 19) 23 3 (.int .i64 0) 8 rfl Try.underlying23 info3 rfl (by decide) (by omega) v328 y327 l0_1 _ _ _ (fun _ => True) (fun _ => False) rfl rfl ?aO ?aR (fun _ _ h => h) (fun _ h => h.elim) ?aF ?aB ?aS ?aL ?_; (case aR => repeat (first | exact (Kd.C_below HR0_1.out HB.out) | (with_reducible refine Kd.C_alloc ?_ _) | (with_reducible refine Kd.C_drewN ?_ _) | (with_reducible refine Kd.C_drew ?_))); (case aB => exact (by repeat (first | (with_reducible first | exact HB.out | apply below_alloc | apply pw_below_drewN | apply below_drew1 | refine below_set ?_ GE326.out) | exact HB.out))); (case aF => exact (fun _ _ => trivial)); (case aO => exact (by (with_reducible repeat (first | apply Kd.R_alloc | apply Kd.R_drewN | apply Kd.R_drew)); exact HO329.out)); (case aS => exact (below_size (by repeat (first | (with_reducible first | exact HB.out | apply below_alloc | apply pw_below_drewN | apply below_drew1 | refine below_set ?_ GE326.out) | exact HB.out)))); (case aL => have := LMc2.out; omega); intro v331 w8 ho hb hg hat; rw [← Ny330.out] at ho; have n0_ := Aside0.mk (blk_grown (g := gb326) (o := .cells #[.int .i64 a0_0, .slice A0_1 l0_1.length c0_1, .int .i64 a0_2, .int .i64 a0_3, .int .i64 a0_4] 36 (0, 0)) (by (with_reducible repeat (first | refine blk_drewN ?_ _ | refine blk_drew ?_ | refine blk_alloc ?_ _)); exact BK326.out) hg (Kd.R_ne HO329.out BK326.out (by decide))); have n1_ := Aside0.mk (hb); have n2_ := Aside0.mk (ho); clear BK326; clear HB; clear HO329; have BK326 := n0_; have HB := n1_; have HO332 := n2_; clear n0_ n1_ n2_; clear ho hb hg hat))
    go_ret
    exact ⟨_, by first | rfl | (simp [errW_none, errW_some] <;> rfl) | (simp [*, errW_none, errW_some] <;> rfl), by (with_reducible repeat (first | apply Kd.R_alloc | apply Kd.R_drewN | apply Kd.R_drew)); exact HO332.out, by repeat (first | (with_reducible first | exact HB.out | apply below_alloc | apply pw_below_drewN | apply below_drew1 | refine below_set ?_ GE326.out) | exact HB.out)⟩
  · rw [if_neg c2] at H
    exact absurd H (by simp)

/-! ### spec_DigestOf: function 23 -/
def spec_DigestOf.f (k : Nat) (a0_0 : Int) (l0_1 : List Int) (a0_2 : Int) (a0_3 : Int) (a0_4 : Int) : Option (Int) := (spec_ResourceInts.f a0_0 l0_1 a0_2 a0_3 a0_4).bind fun t334 => ((spec_Hash.f k t334).bind fun t337 => (some t337))
set_option maxHeartbeats 8000000 in
set_option maxRecDepth 100000 in
theorem spec_DigestOf.calls (k : Nat) (a0_0 : Int) (A0_1 : Option Addr) (c0_1 : Nat) (l0_1 : List Int) (a0_2 : Int) (a0_3 : Int) (a0_4 : Int) (r : Int) (w : World) (hr0_1 : Kd.C (Kd.int .i64) w A0_1 l0_1.length l0_1) (hc0_1 : l0_1.length ≤ c0_1) (h : spec_DigestOf.f k a0_0 l0_1 a0_2 a0_3 a0_4 = some r) :
    Calls Try.prog 23 #[.agg #[.int .i64 a0_0, .slice A0_1 l0_1.length c0_1, .int .i64 a0_2, .int .i64 a0_3, .int .i64 a0_4]] w fun e w' => e = .returned (.int .i64 r) ∧ Below w.heap.size w w' := by
  have hu36 := Try.underlying36
  have HR0_1 := Aside0.mk hr0_1
  have HC0_1 := Aside0.mk hc0_1
  clear hr0_1 hc0_1
  have HB := Aside0.mk (Below.refl w.heap.size w)
  have H : ((spec_ResourceInts.f a0_0 l0_1 a0_2 a0_3 a0_4).bind fun t334 => ((spec_Hash.f k t334).bind fun t337 => (some t337))) = some r := h
  clear h
  replace H := Option.bind_eq_some_iff.mp H
  obtain ⟨t334, A20, H⟩ := H
  replace H : ((spec_Hash.f k t334).bind fun t337 => (some t337)) = some r := H
  have A2 := Aside0.mk A20
  clear A20
  replace H := Option.bind_eq_some_iff.mp H
  obtain ⟨t337, A30, H⟩ := H
  replace H : (some t337) = some r := H
  have A3 := Aside0.mk A30
  clear A30
  obtain rfl := Option.some.inj H
  go_enter Try.func23, Try.ntmps23
  go_wp2_with (first | ((with_reducible refine gate_dst (N := 1) rfl ?_); refine box_event ?hg (N := 1) ?hd (cs := #[.int .i64 a0_0, .slice A0_1 l0_1.length c0_1, .int .i64 a0_2, .int .i64 a0_3, .int .i64 a0_4]) (t := 36) ?hr ?_; (case hd => rfl); (case hg => rfl); (case hr => first | (go_simp; done) | (go_simp; rfl)); intro gb333 hg w4 hbox hb; have n0_ := Aside0.mk (below_step (by repeat (first | (with_reducible first | exact HB.out | apply below_alloc | apply pw_below_drewN | apply below_drew1) | exact HB.out)) hb); have n1_ := Aside0.mk (hbox); have n2_ := Aside0.mk ((by rw [hg]; exact (below_size (by repeat (first | (with_reducible first | exact HB.out | apply below_alloc | apply pw_below_drewN | apply below_drew1) | exact HB.out))) : w.heap.size ≤ gb333)); have n3_ := Aside0.mk ((by rw [hg]; exact (below_size (by repeat (first | (with_reducible first | exact HB.out | apply below_alloc | apply pw_below_drewN | apply below_drew1) | exact HB.out))) : w.heap.size ≤ gb333)); clear HB; have HB := n0_; have BK333 := n1_; have GW333 := n2_; have GE333 := n3_; clear n0_ n1_ n2_ n3_; clear hb hbox hg; have hcz5_0 : w4.cell? ⟨gb333, 0, none⟩ = some (.int .i64 a0_0) := (blk_cell BK333.out 0).trans rfl; have hcz5_1 : w4.cell? ⟨gb333, 1, none⟩ = some (.slice A0_1 l0_1.length c0_1) := (blk_cell BK333.out 1).trans rfl; have hcz5_2 : w4.cell? ⟨gb333, 2, none⟩ = some (.int .i64 a0_2) := (blk_cell BK333.out 2).trans rfl; have hcz5_3 : w4.cell? ⟨gb333, 3, none⟩ = some (.int .i64 a0_3) := (blk_cell BK333.out 3).trans rfl; have hcz5_4 : w4.cell? ⟨gb333, 4, none⟩ = some (.int .i64 a0_4) := (blk_cell BK333.out 4).trans rfl; have hfz5_0 := blk_frozen BK333.out 0; have hfz5_1 := blk_frozen BK333.out 1; have hfz5_2 := blk_frozen BK333.out 2; have hfz5_3 := blk_frozen BK333.out 3; have hfz5_4 := blk_frozen BK333.out 4) | ((with_reducible refine gate_callee (f := 60) rfl ?_); refine goesL_ (some 4) rfl rfl Try.func60 (by kernel_rfl) rfl #[.agg #[.int .i64 a0_0, .slice A0_1 l0_1.length c0_1, .int .i64 a0_2, .int .i64 a0_3, .int .i64 a0_4]] rfl (by (try simp only [List.map_toArray, List.map_cons, List.map_nil]); first | done | rfl | (simp only [List.length_drop, List.length_take]; rfl)) ?_; (with_reducible refine (spec_ResourceInts.calls a0_0 _ _ l0_1 a0_2 a0_3 a0_4 t334 _ ?side1 ?side2 A2.out).mono ?_); (case side1 => repeat (first | exact (Kd.C_below HR0_1.out HB.out) | (with_reducible refine Kd.C_alloc ?_ _) | (with_reducible refine Kd.C_drewN ?_ _) | (with_reducible refine Kd.C_drew ?_))); (case side2 => exact HC0_1.out); rintro e w6 ⟨v335, rfl, ho0, hb⟩; refine ⟨_, rfl, ?_⟩; have n0_ := Aside0.mk (Kd.R_lower ho0 (below_size (by repeat (first | (with_reducible first | exact HB.out | apply below_alloc | apply pw_below_drewN | apply below_drew1 | refine below_set ?_ GE333.out) | exact HB.out)))); have n1_ := Aside0.mk (blk_below (g := gb333) (o := .cells #[.int .i64 a0_0, .slice A0_1 l0_1.length c0_1, .int .i64 a0_2, .int .i64 a0_3, .int .i64 a0_4] 36 (0, 0)) (by (with_reducible repeat (first | refine blk_drewN ?_ _ | refine blk_drew ?_ | refine blk_alloc ?_ _)); exact BK333.out) hb); have n2_ := Aside0.mk (below_step (by repeat (first | (with_reducible first | exact HB.out | apply below_alloc | apply pw_below_drewN | apply below_drew1 | refine below_set ?_ GE333.out) | exact HB.out)) hb); clear BK333; clear HB; have HO336 := n0_; have BK333 := n1_; have HB := n2_; clear n0_ n1_ n2_; (try clear hb); (try clear hb2); (try clear hk); (try clear hi); (try clear ho0); obtain ⟨Ao7, co7, eo7⟩ := Kd.R_slice HO336.out; subst eo7) | ((with_reducible refine gate_callee (f := 59) rfl ?_); refine goesL_ (some 5) rfl rfl Try.func59 (by kernel_rfl) rfl #[.slice Ao7 t334.length co7] rfl (by (try simp only [List.map_toArray, List.map_cons, List.map_nil]); first | done | rfl | (simp only [List.length_drop, List.length_take]; rfl)) ?_; (with_reducible refine (spec_Hash.calls k _ _ t334 t337 _ ?side1 ?side2 A3.out).mono ?_); (case side1 => repeat (first | exact (Kd.R_reads' HO336.out).2.2 | (with_reducible refine Kd.C_alloc ?_ _) | (with_reducible refine Kd.C_drewN ?_ _) | (with_reducible refine Kd.C_drew ?_))); (case side2 => exact (Kd.R_reads' HO336.out).2.1); rintro e w' ⟨rfl, ⟨nd, rfl⟩⟩; refine ⟨_, rfl, ?_⟩))
  go_ret
  exact ⟨by first | rfl | (simp [errW_none, errW_some] <;> rfl) | (simp [*, errW_none, errW_some] <;> rfl), by repeat (first | (with_reducible first | exact HB.out | apply below_alloc | apply pw_below_drewN | apply below_drew1 | refine below_set ?_ GE333.out) | exact HB.out)⟩

end Go.Proofs.Ytlpfobakbgipbaa.QFnParts
