/- The Go functions that the law FnParts comes to, each as a Lean function, with a proof that the call does what it says; written by a program of this session over the print of the kit. No conditions. -/
import Derived.Test.YtlpfobakbgipbaaQFnPartsx0
import Derived.Test.YtlpfobakbgipbaaQFnPartsx2
namespace Go.Proofs.Ytlpfobakbgipbaa.QFnParts
open Go.RowKit Go.Proofs.YtlpfobakbgipbaaW.PrintWords Go.Proofs.YtlpfobakbgipbaaW.PrintLast Go.Proofs.YtlpfobakbgipbaaW.PrintMore
attribute [local go_sem] max2_int min2_int max_two min_two max_three min_three max_four min_four   -- for this text's walks alone
set_option linter.unusedVariables false
set_option linter.unusedSimpArgs false

/-! ### impl_IsStore: function 25 -/
def impl_IsStore.l0 : Nat → List (S63) → List (S63) → Int → Int → Option (Bool)
  | 0, _, _, _, _ => none
  | k + 1, x0, x8, x9, x10 => if x10 < x9 then (if 0 ≤ x10 then (if x10 < (x8.length : Int) then (if x10 > 0 then (if 0 ≤ (wrap64 (x10 - 1)) then (if (wrap64 (x10 - 1)) < (x0.length : Int) then (if ((rd_T63 x0 (wrap64 (x10 - 1))).f0) ≥ ((rd_T63 x8 x10).f0) then (some false) else ((impl_IsResource.f k ((rd_T63 x8 x10).f1.f0) ((rd_T63 x8 x10).f1.f1) ((rd_T63 x8 x10).f1.f2.f0) ((rd_T63 x8 x10).f1.f2.f1) ((rd_T63 x8 x10).f1.f2.f2)).bind fun t128 => (if t128 = true then ((impl_DigestOf.f k ((rd_T63 x8 x10).f1.f0) ((rd_T63 x8 x10).f1.f1) ((rd_T63 x8 x10).f1.f2.f0) ((rd_T63 x8 x10).f1.f2.f1) ((rd_T63 x8 x10).f1.f2.f2)).bind fun t129 => (if t129 = ((rd_T63 x8 x10).f0) then ((impl_InRange.f ((rd_T63 x8 x10).f2) 1 1000).bind fun t130 => (if t130 = true then (impl_IsStore.l0 k x0 x8 x9 (wrap64 (x10 + 1))) else (some false))) else (some false))) else (some false)))) else (none)) else (none)) else ((impl_IsResource.f k ((rd_T63 x8 x10).f1.f0) ((rd_T63 x8 x10).f1.f1) ((rd_T63 x8 x10).f1.f2.f0) ((rd_T63 x8 x10).f1.f2.f1) ((rd_T63 x8 x10).f1.f2.f2)).bind fun t131 => (if t131 = true then ((impl_DigestOf.f k ((rd_T63 x8 x10).f1.f0) ((rd_T63 x8 x10).f1.f1) ((rd_T63 x8 x10).f1.f2.f0) ((rd_T63 x8 x10).f1.f2.f1) ((rd_T63 x8 x10).f1.f2.f2)).bind fun t132 => (if t132 = ((rd_T63 x8 x10).f0) then ((impl_InRange.f ((rd_T63 x8 x10).f2) 1 1000).bind fun t133 => (if t133 = true then (impl_IsStore.l0 k x0 x8 x9 (wrap64 (x10 + 1))) else (some false))) else (some false))) else (some false)))) else (none)) else (none)) else (some true)
def impl_IsStore.f (k : Nat) (l0 : List (S63)) : Option (Bool) := if (l0.length : Int) > 30 then (some false) else (impl_IsStore.l0 k l0 l0 (l0.length : Int) 0)
def impl_IsStore.T6 : Bool × List (List Nat × List Nat) := (true, [([], []), ([0], [0]), ([1], [1]), ([2], [2]), ([2], [2]), ([4, 2], [2, 4]), ([3, 5, 2], [2, 3, 5]), ([6, 2], [2, 6]), ([7, 2], [2, 7]), ([2], [2]), ([9, 2], [2, 9]), ([8, 10, 2], [2, 8, 10]), ([2, 11], [2, 11]), ([12, 2], [12]), ([13], [13]), ([14, 13], [13, 14]), ([15, 13, 13], [13, 15]), ([16, 13], [13, 16]), ([13, 17], [13, 17]), ([18, 16], [18]), ([19], [19]), ([20, 19], [19, 20]), ([21, 19, 19], [19, 21]), ([19], [19]), ([23, 19], [19, 23]), ([22, 24, 19], [19, 22, 24]), ([19, 25], [19, 25]), ([26, 22], [26]), ([27], [27]), ([28, 27], [27, 28]), ([29, 27, 27], [27, 29]), ([30, 27], [27, 30]), ([27, 31], [27, 31])])
def impl_IsStore.B6 : List Nat := [0, 1, 3, 7, 7, 23, 63, 127, 255, 7, 519, 2047, 4095, 8191, 16383, 32767, 65535, 131071, 262143, 524287, 1048575, 2097151, 4194303, 1048575, 9437183, 33554431, 67108863, 134217727, 268435455, 536870911, 1073741823, 2147483647, 4294967295]
theorem impl_IsStore.tab6 : rtab .any (opsOf Try.f25 6) = impl_IsStore.T6 := by kernel_rfl
theorem impl_IsStore.bits6 : waitsOk impl_IsStore.T6.2 impl_IsStore.B6 = true := by kernel_rfl
set_option maxHeartbeats 8000000 in
set_option maxRecDepth 100000 in
theorem impl_IsStore.calls (k : Nat) (A0 : Option Addr) (c0 : Nat) (l0 : List (S63)) (r : Bool) (w : World) (hr0 : Kd.C k63 w A0 l0.length l0) (hc0 : l0.length ≤ c0) (h : impl_IsStore.f k l0 = some r) :
    Calls Try.prog 25 #[.slice A0 l0.length c0] w fun e w' => e = .returned (.bool r) ∧ Below w.heap.size w w' := by
  have hu63 := Try.underlying63
  have hu36 := Try.underlying36
  have HR0 := Aside0.mk hr0
  clear hr0 hc0
  have HB := Aside0.mk (Below.refl w.heap.size w)
  have H : (if (l0.length : Int) > 30 then (some false) else (impl_IsStore.l0 k l0 l0 (l0.length : Int) 0)) = some r := h
  clear h
  by_cases c2 : (l0.length : Int) > 30
  · rw [if_pos c2] at H
    have c2b0 : decide (30 < (l0.length : Int)) = true := decide_eq_true c2
    have c2b1 : decide (30 < l0.length) = true := decide_eq_true (by omega)
    clear c2
    obtain rfl := Option.some.inj H
    go_enter Try.func25, Try.ntmps25
    go_wp2
    go_ret
    exact ⟨(by first | rfl | (simp [errW_none, errW_some] <;> rfl) | (simp [*, errW_none, errW_some] <;> rfl)), (by repeat (first | (with_reducible first | exact HB.out | apply below_alloc | apply pw_below_drewN | apply below_drew1) | exact HB.out))⟩
  · rw [if_neg c2] at H
    have c2b0 : decide (30 < (l0.length : Int)) = false := decide_eq_false c2
    have c2b1 : decide (30 < l0.length) = false := decide_eq_false (by omega)
    have H' := Aside0.mk H
    clear H
    go_enter Try.func25, Try.ntmps25
    go_wp2
    go_loopg [10] k (fun kq v10 w' => ∃ (x10_1 : Int), v10 = .int .i64 x10_1 ∧ Aside0 (impl_IsStore.l0 kq l0 l0 (l0.length : Int) x10_1 = some r) ∧ Aside0 (kq ≤ k) ∧ Aside0 (Below w.heap.size w w'))
    case atStart => exact ⟨0, (by first | rfl | (simp; done)), H', ⟨Nat.le_refl _⟩, HB⟩
    case round =>
      clear H' HB c2 c2b0 c2b1
      try clear p2
      obtain ⟨i, rfl, HA, HK1, HB⟩ := hrel
      cases gk with
      | zero => exact absurd HA.out (by simp [impl_IsStore.l0])
      | succ k1 =>
        have H := HA.out
        clear HA
        simp only [impl_IsStore.l0] at H
        by_cases c3 : i < (l0.length : Int)
        · rw [if_pos c3] at H
          by_cases c4 : 0 ≤ i
          · rw [if_pos c4, if_pos c3] at H
            have c3b0 : decide (i < (l0.length : Int)) = true := decide_eq_true c3
            obtain ⟨ad, A2, c2, e2, hx0, hx1, hx2, hx3, hx4, hx5, hx6, hl2, hi2⟩ := at_T63 HR0.out i c4 c3
            cases e2
            obtain ⟨⟨d, ⟨kd, bd, ⟨ho, pa, qu⟩⟩, us⟩, hx⟩ : ∃ x, rd_T63 l0 i = x := ⟨_, rfl⟩
            simp only [hx] at H hx0 hx1 hx2 hx3 hx4 hx5 hx6 hi2 hl2
            have hxs := cells7 HB.out hx0 hx1 hx2 hx3 hx4 hx5 hx6
            have HR2 := Aside0.mk hi2
            have HC2 := Aside0.mk hl2
            have HH := Aside0.mk H
            clear hi2 hl2 hx H hx0 hx1 hx2 hx3 hx4 hx5 hx6
            have c4b := eq_true c4
            have c3b := eq_true c3
            go_wp2_with (first | ((with_reducible refine gate_dst (N := 4) rfl ?_); refine box_event ?hg (N := 4) ?hd (cs := #[.int .i64 0, .int .i64 0, .slice none 0 0, .int .i64 0, .int .i64 0, .int .i64 0, .int .i64 0]) (t := 63) ?hr ?_; (case hd => rfl); (case hg => rfl); (case hr => first | (go_simp; done) | (go_simp; rfl)); intro gb hg w11 hbox hb; have n0_ := Aside0.mk (below_step (by repeat (first | (with_reducible first | exact HB.out | apply below_alloc | apply pw_below_drewN | apply below_drew1) | exact HB.out)) hb); have n2_ := Aside0.mk ((by rw [hg]; exact (below_size (by repeat (first | (with_reducible first | exact HB.out | apply below_alloc | apply pw_below_drewN | apply below_drew1) | exact HB.out)))) : w.heap.size ≤ gb); have BK := Aside0.mk hbox; clear HB; have HB := n0_; have GW := n2_; clear n0_ n2_ hb hg; have hz := box7z hbox; clear hbox))
            obtain ⟨w13, e13, hbk, hbb⟩ := box7 BK.out (.int .i64 d) (.int .i64 kd) (.slice A2 bd.length c2) (.int .i64 ho) (.int .i64 pa) (.int .i64 qu) (.int .i64 us) HB.out GW.out
            rw [← e13]
            clear HB BK e13 hz hxs
            have HB := Aside0.mk (below_drew1 hbb)
            have BK := Aside0.mk (blk_drew hbk)
            clear hbb hbk GW
            have H := HH.out
            clear HH
            by_cases c6 : i > 0
            · rw [if_pos c6] at H
              have c6b0 : decide (0 < i) = true := decide_eq_true c6
              clear c6
              obtain ⟨j, hj⟩ : ∃ j, wrap64 (i - 1) = j := ⟨_, rfl⟩
              rw [hj] at H
              have hjw : IntKind.i64.wrap (i - 1) = j := (i64_w _).trans hj
              by_cases c8 : 0 ≤ j
              · rw [if_pos c8] at H
                by_cases c9 : j < (l0.length : Int)
                · rw [if_pos c9] at H
                  obtain ⟨ad1, _, _, e2, hy, _, _, _, _, _, _, _, _⟩ := at_T63 HR0.out j c8 c9
                  obtain rfl : ad = ad1 := by injection e2
                  obtain ⟨dj, hdj⟩ : ∃ x, (rd_T63 l0 j).f0 = x := ⟨_, rfl⟩
                  rw [hdj] at H hy
                  clear e2 hj hdj
                  replace c8 := eq_true c8
                  replace c9 := eq_true c9
                  have PF := Aside0.mk (fun w' (b : w'.heap[gb]? = some (.cells #[.int .i64 d, .int .i64 kd, .slice A2 bd.length c2, .int .i64 ho, .int .i64 pa, .int .i64 qu, .int .i64 us] 63 (0, 0))) (hb : Below w.heap.size w w') => (show w'.cell? ⟨gb, 0, none⟩ = some (.int .i64 d) ∧ w'.cell? ⟨gb, 1, none⟩ = some (.int .i64 kd) ∧ w'.cell? ⟨gb, 2, none⟩ = some (.slice A2 bd.length c2) ∧ w'.cell? ⟨gb, 3, none⟩ = some (.int .i64 ho) ∧ w'.cell? ⟨gb, 4, none⟩ = some (.int .i64 pa) ∧ w'.cell? ⟨gb, 5, none⟩ = some (.int .i64 qu) ∧ w'.cell? ⟨gb, 6, none⟩ = some (.int .i64 us) ∧ w'.cell? (ad.add (j.toNat * 7)) = some (.int .i64 dj) from by obtain ⟨⟨h0, h1, h2, h3, h4, h5, h6⟩, _⟩ := box7z b; exact ⟨h0, h1, h2, h3, h4, h5, h6, cell_on hb hy⟩))
                  clear hy
                  by_cases c10 : dj ≥ d
                  · rw [if_pos c10] at H
                    have c10b : decide (d ≤ dj) = true := decide_eq_true c10
                    obtain rfl := Option.some.inj H
                    clear H
                    refine start_ (n := 33) (S := fun w' => w'.cell? ⟨gb, 0, none⟩ = some (.int .i64 d) ∧ w'.cell? ⟨gb, 1, none⟩ = some (.int .i64 kd) ∧ w'.cell? ⟨gb, 2, none⟩ = some (.slice A2 bd.length c2) ∧ w'.cell? ⟨gb, 3, none⟩ = some (.int .i64 ho) ∧ w'.cell? ⟨gb, 4, none⟩ = some (.int .i64 pa) ∧ w'.cell? ⟨gb, 5, none⟩ = some (.int .i64 qu) ∧ w'.cell? ⟨gb, 6, none⟩ = some (.int .i64 us) ∧ w'.cell? (ad.add (j.toNat * 7)) = some (.int .i64 dj)) (ds := []) (mk 33 0) (by kernel_rfl) rfl rfl (PF.out _ BK.out HB.out) (fun hHeld => ?_)
                    refine with_tabW impl_IsStore.tab6 impl_IsStore.bits6 (fun HT_ HW_ => ?_)
                    refine on_ 0 15 (mk 33 0x1) ?_
                    refine on_ 1 16 (mk 33 0x3) ?_
                    refine on_ 2 17 (mk 33 0x7) ?_
                    refine on_ 3 18 (mk 33 0xF) ?_
                    refine on_ 4 19 (mk 33 0x1F) ?_
                    refine on_ 5 20 (mk 33 0x3F) ?_
                    refine on_ 6 21 (mk 33 0x7F) ?_
                    refine on_ 7 22 (mk 33 0xFF) ?_
                    refine on_ 9 24 (mk 33 0x2FF) ?_
                    refine rd_ 8 23 (mk 33 0x3FF) ?_
                    refine rd_ 10 25 (mk 33 0x7FF) ?_
                    refine on_ 11 26 (mk 33 0xFFF) ?_
                    refine on_ 12 27 (mk 33 0x1FFF) ?_
                    refine on_ 13 28 (mk 33 0x3FFF) ?_
                    refine of_ 14 29 (mk 33 0x7FFF) ?_
                    refine of_ 15 30 (mk 33 0xFFFF) ?_
                    refine of_ 16 31 (mk 33 0x1FFFF) ?_
                    refine of_ 17 32 (mk 33 0x3FFFF) ?_
                    refine on_ 18 33 (mk 33 0x7FFFF) ?_
                    refine on_ 19 34 (mk 33 0xFFFFF) ?_
                    refine of_ 20 35 (mk 33 0x1FFFFF) ?_
                    refine of_ 21 36 (mk 33 0x3FFFFF) ?_
                    refine of_ 22 37 (mk 33 0x7FFFFF) ?_
                    refine of_ 23 38 (mk 33 0xFFFFFF) ?_
                    refine of_ 24 39 (mk 33 0x1FFFFFF) ?_
                    refine of_ 25 40 (mk 33 0x3FFFFFF) ?_
                    refine on_ 26 41 (mk 33 0x7FFFFFF) ?_
                    refine on_ 27 42 (mk 33 0xFFFFFFF) ?_
                    refine of_ 28 43 (mk 33 0x1FFFFFFF) ?_
                    refine of_ 29 44 (mk 33 0x3FFFFFFF) ?_
                    refine of_ 30 45 (mk 33 0x7FFFFFFF) ?_
                    refine of_ 31 46 (mk 33 0xFFFFFFFF) ?_
                    refine on_ 32 47 (mk 33 0x1FFFFFFFF) ?_
                    refine dn_ ?_
                    go_wp2
                    go_ret
                    exact ⟨(by first | rfl | (simp [errW_none, errW_some] <;> rfl) | (simp [*, errW_none, errW_some] <;> rfl)), (by repeat (first | (with_reducible first | exact HB.out | apply below_alloc | apply pw_below_drewN | apply below_drew1) | exact HB.out))⟩
                  · rw [if_neg c10] at H
                    have c10b : decide (d ≤ dj) = false := decide_eq_false c10
                    refine start_ (n := 33) (S := fun w' => w'.cell? ⟨gb, 0, none⟩ = some (.int .i64 d) ∧ w'.cell? ⟨gb, 1, none⟩ = some (.int .i64 kd) ∧ w'.cell? ⟨gb, 2, none⟩ = some (.slice A2 bd.length c2) ∧ w'.cell? ⟨gb, 3, none⟩ = some (.int .i64 ho) ∧ w'.cell? ⟨gb, 4, none⟩ = some (.int .i64 pa) ∧ w'.cell? ⟨gb, 5, none⟩ = some (.int .i64 qu) ∧ w'.cell? ⟨gb, 6, none⟩ = some (.int .i64 us) ∧ w'.cell? (ad.add (j.toNat * 7)) = some (.int .i64 dj)) (ds := []) (mk 33 0) (by kernel_rfl) rfl rfl (PF.out _ BK.out HB.out) (fun hHeld => ?_)
                    refine with_tabW impl_IsStore.tab6 impl_IsStore.bits6 (fun HT_ HW_ => ?_)
                    refine on_ 0 15 (mk 33 0x1) ?_
                    refine on_ 1 16 (mk 33 0x3) ?_
                    refine on_ 2 17 (mk 33 0x7) ?_
                    refine on_ 3 18 (mk 33 0xF) ?_
                    refine on_ 4 19 (mk 33 0x1F) ?_
                    refine on_ 5 20 (mk 33 0x3F) ?_
                    refine on_ 6 21 (mk 33 0x7F) ?_
                    refine on_ 7 22 (mk 33 0xFF) ?_
                    refine on_ 9 24 (mk 33 0x2FF) ?_
                    refine rd_ 8 23 (mk 33 0x3FF) ?_
                    refine rd_ 10 25 (mk 33 0x7FF) ?_
                    refine on_ 11 26 (mk 33 0xFFF) ?_
                    refine on_ 12 27 (mk 33 0x1FFF) ?_
                    refine on_ 13 28 (mk 33 0x3FFF) ?_
                    replace H := Option.bind_eq_some_iff.mp H
                    obtain ⟨t1, A15, H⟩ := H
                    have A15 := Aside0.mk A15
                    refine on_ 14 29 (mk 33 0x7FFF) ?_
                    refine rd_ 15 30 (mk 33 0xFFFF) ?_
                    refine cl_ 16 31 (mk 33 0x1FFFF) Try.func62 #[.agg #[.int .i64 kd, .slice A2 bd.length c2, .int .i64 ho, .int .i64 pa, .int .i64 qu]] ?_
                    refine (impl_IsResource.calls k1 kd _ _ bd ho pa qu _ _ (Kd.C_below HR2.out HB.out) HC2.out A15.out).mono ?_
                    rintro e w25 ⟨rfl, hb⟩
                    have n0_ := Aside0.mk (below_step HB.out hb)
                    have n1_ := Aside0.mk (blk_below BK.out hb)
                    clear HB BK
                    have HB := n0_
                    have BK := n1_
                    clear n0_ n1_
                    refine ⟨_, rfl, PF.out _ BK.out HB.out, fun hHeld => nm_ ?_⟩
                    by_cases c1 : t1 = true
                    · rw [if_pos c1] at H
                      subst c1
                      replace H := Option.bind_eq_some_iff.mp H
                      obtain ⟨t2, A17, H⟩ := H
                      have A17 := Aside0.mk A17
                      refine on_ 17 32 (mk 33 0x3FFFF) ?_
                      refine on_ 18 33 (mk 33 0x7FFFF) ?_
                      refine on_ 19 34 (mk 33 0xFFFFF) ?_
                      refine on_ 20 35 (mk 33 0x1FFFFF) ?_
                      refine on_ 23 38 (mk 33 0x9FFFFF) ?_
                      refine rd_ 21 36 (mk 33 0xBFFFFF) ?_
                      refine rd_ 24 39 (mk 33 0x1BFFFFF) ?_
                      refine cl_ 22 37 (mk 33 0x1FFFFFF) Try.func20 #[.agg #[.int .i64 kd, .slice A2 bd.length c2, .int .i64 ho, .int .i64 pa, .int .i64 qu]] ?_
                      refine (impl_DigestOf.calls k1 kd _ _ bd ho pa qu _ _ (Kd.C_below HR2.out HB.out) HC2.out A17.out).mono ?_
                      rintro e w26 ⟨rfl, hb⟩
                      have n0_ := Aside0.mk (below_step HB.out hb)
                      have n1_ := Aside0.mk (blk_below BK.out hb)
                      clear HB BK
                      have HB := n0_
                      have BK := n1_
                      clear n0_ n1_
                      refine ⟨_, rfl, PF.out _ BK.out HB.out, fun hHeld => nm_ ?_⟩
                      by_cases c5 : t2 = d
                      · rw [if_pos c5] at H
                        have c2b : (t2 != d) = false := bne_eq_false_iff_eq.mpr c5
                        replace H := Option.bind_eq_some_iff.mp H
                        obtain ⟨t3, A19, H⟩ := H
                        have A19 := Aside0.mk A19
                        refine on_ 25 40 (mk 33 0x3FFFFFF) ?_
                        refine on_ 26 41 (mk 33 0x7FFFFFF) ?_
                        refine on_ 27 42 (mk 33 0xFFFFFFF) ?_
                        refine on_ 28 43 (mk 33 0x1FFFFFFF) ?_
                        refine rd_ 29 44 (mk 33 0x3FFFFFFF) ?_
                        refine cl_ 30 45 (mk 33 0x7FFFFFFF) Try.func63 #[.int .i64 us, .int .i64 1, .int .i64 1000] ?_
                        refine (impl_InRange.calls us 1 1000 _ _ A19.out).mono ?_
                        rintro e w27 ⟨rfl, nd, rfl⟩
                        have n0_ := Aside0.mk (pw_below_drewN HB.out nd)
                        have n1_ := Aside0.mk (blk_drewN BK.out nd)
                        clear HB BK
                        have HB := n0_
                        have BK := n1_
                        clear n0_ n1_
                        refine ⟨_, rfl, PF.out _ BK.out HB.out, fun hHeld => nm_ ?_⟩
                        refine on_ 31 46 (mk 33 0xFFFFFFFF) ?_
                        refine on_ 32 47 (mk 33 0x1FFFFFFFF) ?_
                        refine dn_ ?_
                        by_cases c7 : t3 = true
                        · rw [if_pos c7] at H
                          subst c7
                          have H' := Aside0.mk H
                          clear H
                          go_wp2
                          go_roundg k1
                          case measure => have := HK1.out; omega
                          case rel => exact ⟨wrap64 (i + 1), (by first | rfl | (simp; done) | (simp [*]; done)), H', ⟨by have := HK1.out; omega⟩, ⟨(by repeat (first | (with_reducible first | exact HB.out | apply below_alloc | apply pw_below_drewN | apply below_drew1) | exact HB.out))⟩⟩
                        · rw [if_neg c7] at H
                          replace c7 := Bool.eq_false_iff.mpr c7
                          subst c7
                          obtain rfl := Option.some.inj H
                          clear H
                          go_wp2
                          go_ret
                          exact ⟨(by first | rfl | (simp [errW_none, errW_some] <;> rfl) | (simp [*, errW_none, errW_some] <;> rfl)), (by repeat (first | (with_reducible first | exact HB.out | apply below_alloc | apply pw_below_drewN | apply below_drew1) | exact HB.out))⟩
                      · rw [if_neg c5] at H
                        have c2b : (t2 != d) = true := bne_iff_ne.mpr c5
                        obtain rfl := Option.some.inj H
                        clear H
                        refine on_ 25 40 (mk 33 0x3FFFFFF) ?_
                        refine on_ 26 41 (mk 33 0x7FFFFFF) ?_
                        refine on_ 27 42 (mk 33 0xFFFFFFF) ?_
                        refine of_ 28 43 (mk 33 0x1FFFFFFF) ?_
                        refine of_ 29 44 (mk 33 0x3FFFFFFF) ?_
                        refine of_ 30 45 (mk 33 0x7FFFFFFF) ?_
                        refine of_ 31 46 (mk 33 0xFFFFFFFF) ?_
                        refine on_ 32 47 (mk 33 0x1FFFFFFFF) ?_
                        refine dn_ ?_
                        go_wp2
                        go_ret
                        exact ⟨(by first | rfl | (simp [errW_none, errW_some] <;> rfl) | (simp [*, errW_none, errW_some] <;> rfl)), (by repeat (first | (with_reducible first | exact HB.out | apply below_alloc | apply pw_below_drewN | apply below_drew1) | exact HB.out))⟩
                    · rw [if_neg c1] at H
                      replace c1 := Bool.eq_false_iff.mpr c1
                      subst c1
                      obtain rfl := Option.some.inj H
                      clear H
                      refine on_ 17 32 (mk 33 0x3FFFF) ?_
                      refine on_ 18 33 (mk 33 0x7FFFF) ?_
                      refine on_ 19 34 (mk 33 0xFFFFF) ?_
                      refine of_ 20 35 (mk 33 0x1FFFFF) ?_
                      refine of_ 21 36 (mk 33 0x3FFFFF) ?_
                      refine of_ 22 37 (mk 33 0x7FFFFF) ?_
                      refine of_ 23 38 (mk 33 0xFFFFFF) ?_
                      refine of_ 24 39 (mk 33 0x1FFFFFF) ?_
                      refine of_ 25 40 (mk 33 0x3FFFFFF) ?_
                      refine on_ 26 41 (mk 33 0x7FFFFFF) ?_
                      refine on_ 27 42 (mk 33 0xFFFFFFF) ?_
                      refine of_ 28 43 (mk 33 0x1FFFFFFF) ?_
                      refine of_ 29 44 (mk 33 0x3FFFFFFF) ?_
                      refine of_ 30 45 (mk 33 0x7FFFFFFF) ?_
                      refine of_ 31 46 (mk 33 0xFFFFFFFF) ?_
                      refine on_ 32 47 (mk 33 0x1FFFFFFFF) ?_
                      refine dn_ ?_
                      go_wp2
                      go_ret
                      exact ⟨(by first | rfl | (simp [errW_none, errW_some] <;> rfl) | (simp [*, errW_none, errW_some] <;> rfl)), (by repeat (first | (with_reducible first | exact HB.out | apply below_alloc | apply pw_below_drewN | apply below_drew1) | exact HB.out))⟩
                · rw [if_neg c9] at H
                  exact absurd H (by simp)
              · rw [if_neg c8] at H
                exact absurd H (by simp)
            · rw [if_neg c6] at H
              have c6b0 : decide (0 < i) = false := decide_eq_false c6
              clear c6
              have PF := Aside0.mk (fun w' (b : w'.heap[gb]? = some (.cells #[.int .i64 d, .int .i64 kd, .slice A2 bd.length c2, .int .i64 ho, .int .i64 pa, .int .i64 qu, .int .i64 us] 63 (0, 0))) (hb : Below w.heap.size w w') => (show w'.cell? ⟨gb, 0, none⟩ = some (.int .i64 d) ∧ w'.cell? ⟨gb, 1, none⟩ = some (.int .i64 kd) ∧ w'.cell? ⟨gb, 2, none⟩ = some (.slice A2 bd.length c2) ∧ w'.cell? ⟨gb, 3, none⟩ = some (.int .i64 ho) ∧ w'.cell? ⟨gb, 4, none⟩ = some (.int .i64 pa) ∧ w'.cell? ⟨gb, 5, none⟩ = some (.int .i64 qu) ∧ w'.cell? ⟨gb, 6, none⟩ = some (.int .i64 us) from by obtain ⟨⟨h0, h1, h2, h3, h4, h5, h6⟩, _⟩ := box7z b; exact ⟨h0, h1, h2, h3, h4, h5, h6⟩))
              refine start_ (n := 33) (S := fun w' => w'.cell? ⟨gb, 0, none⟩ = some (.int .i64 d) ∧ w'.cell? ⟨gb, 1, none⟩ = some (.int .i64 kd) ∧ w'.cell? ⟨gb, 2, none⟩ = some (.slice A2 bd.length c2) ∧ w'.cell? ⟨gb, 3, none⟩ = some (.int .i64 ho) ∧ w'.cell? ⟨gb, 4, none⟩ = some (.int .i64 pa) ∧ w'.cell? ⟨gb, 5, none⟩ = some (.int .i64 qu) ∧ w'.cell? ⟨gb, 6, none⟩ = some (.int .i64 us)) (ds := []) (mk 33 0) (by kernel_rfl) rfl rfl (PF.out _ BK.out HB.out) (fun hHeld => ?_)
              refine with_tabW impl_IsStore.tab6 impl_IsStore.bits6 (fun HT_ HW_ => ?_)
              refine on_ 0 15 (mk 33 0x1) ?_
              refine on_ 1 16 (mk 33 0x3) ?_
              refine on_ 2 17 (mk 33 0x7) ?_
              refine of_ 3 18 (mk 33 0xF) ?_
              refine of_ 4 19 (mk 33 0x1F) ?_
              refine of_ 5 20 (mk 33 0x3F) ?_
              refine of_ 6 21 (mk 33 0x7F) ?_
              refine of_ 7 22 (mk 33 0xFF) ?_
              refine of_ 8 23 (mk 33 0x1FF) ?_
              refine of_ 9 24 (mk 33 0x3FF) ?_
              refine of_ 10 25 (mk 33 0x7FF) ?_
              refine of_ 11 26 (mk 33 0xFFF) ?_
              refine on_ 12 27 (mk 33 0x1FFF) ?_
              refine on_ 13 28 (mk 33 0x3FFF) ?_
              replace H := Option.bind_eq_some_iff.mp H
              obtain ⟨t1, A15, H⟩ := H
              have A15 := Aside0.mk A15
              refine on_ 14 29 (mk 33 0x7FFF) ?_
              refine rd_ 15 30 (mk 33 0xFFFF) ?_
              refine cl_ 16 31 (mk 33 0x1FFFF) Try.func62 #[.agg #[.int .i64 kd, .slice A2 bd.length c2, .int .i64 ho, .int .i64 pa, .int .i64 qu]] ?_
              refine (impl_IsResource.calls k1 kd _ _ bd ho pa qu _ _ (Kd.C_below HR2.out HB.out) HC2.out A15.out).mono ?_
              rintro e w25 ⟨rfl, hb⟩
              have n0_ := Aside0.mk (below_step HB.out hb)
              have n1_ := Aside0.mk (blk_below BK.out hb)
              clear HB BK
              have HB := n0_
              have BK := n1_
              clear n0_ n1_
              refine ⟨_, rfl, PF.out _ BK.out HB.out, fun hHeld => nm_ ?_⟩
              by_cases c1 : t1 = true
              · rw [if_pos c1] at H
                subst c1
                replace H := Option.bind_eq_some_iff.mp H
                obtain ⟨t2, A17, H⟩ := H
                have A17 := Aside0.mk A17
                refine on_ 17 32 (mk 33 0x3FFFF) ?_
                refine on_ 18 33 (mk 33 0x7FFFF) ?_
                refine on_ 19 34 (mk 33 0xFFFFF) ?_
                refine on_ 20 35 (mk 33 0x1FFFFF) ?_
                refine on_ 23 38 (mk 33 0x9FFFFF) ?_
                refine rd_ 21 36 (mk 33 0xBFFFFF) ?_
                refine rd_ 24 39 (mk 33 0x1BFFFFF) ?_
                refine cl_ 22 37 (mk 33 0x1FFFFFF) Try.func20 #[.agg #[.int .i64 kd, .slice A2 bd.length c2, .int .i64 ho, .int .i64 pa, .int .i64 qu]] ?_
                refine (impl_DigestOf.calls k1 kd _ _ bd ho pa qu _ _ (Kd.C_below HR2.out HB.out) HC2.out A17.out).mono ?_
                rintro e w26 ⟨rfl, hb⟩
                have n0_ := Aside0.mk (below_step HB.out hb)
                have n1_ := Aside0.mk (blk_below BK.out hb)
                clear HB BK
                have HB := n0_
                have BK := n1_
                clear n0_ n1_
                refine ⟨_, rfl, PF.out _ BK.out HB.out, fun hHeld => nm_ ?_⟩
                by_cases c5 : t2 = d
                · rw [if_pos c5] at H
                  have c2b : (t2 != d) = false := bne_eq_false_iff_eq.mpr c5
                  replace H := Option.bind_eq_some_iff.mp H
                  obtain ⟨t3, A19, H⟩ := H
                  have A19 := Aside0.mk A19
                  refine on_ 25 40 (mk 33 0x3FFFFFF) ?_
                  refine on_ 26 41 (mk 33 0x7FFFFFF) ?_
                  refine on_ 27 42 (mk 33 0xFFFFFFF) ?_
                  refine on_ 28 43 (mk 33 0x1FFFFFFF) ?_
                  refine rd_ 29 44 (mk 33 0x3FFFFFFF) ?_
                  refine cl_ 30 45 (mk 33 0x7FFFFFFF) Try.func63 #[.int .i64 us, .int .i64 1, .int .i64 1000] ?_
                  refine (impl_InRange.calls us 1 1000 _ _ A19.out).mono ?_
                  rintro e w27 ⟨rfl, nd, rfl⟩
                  have n0_ := Aside0.mk (pw_below_drewN HB.out nd)
                  have n1_ := Aside0.mk (blk_drewN BK.out nd)
                  clear HB BK
                  have HB := n0_
                  have BK := n1_
                  clear n0_ n1_
                  refine ⟨_, rfl, PF.out _ BK.out HB.out, fun hHeld => nm_ ?_⟩
                  refine on_ 31 46 (mk 33 0xFFFFFFFF) ?_
                  refine on_ 32 47 (mk 33 0x1FFFFFFFF) ?_
                  refine dn_ ?_
                  by_cases c7 : t3 = true
                  · rw [if_pos c7] at H
                    subst c7
                    have H' := Aside0.mk H
                    clear H
                    go_wp2
                    go_roundg k1
                    case measure => have := HK1.out; omega
                    case rel => exact ⟨wrap64 (i + 1), (by first | rfl | (simp; done) | (simp [*]; done)), H', ⟨by have := HK1.out; omega⟩, ⟨(by repeat (first | (with_reducible first | exact HB.out | apply below_alloc | apply pw_below_drewN | apply below_drew1) | exact HB.out))⟩⟩
                  · rw [if_neg c7] at H
                    replace c7 := Bool.eq_false_iff.mpr c7
                    subst c7
                    obtain rfl := Option.some.inj H
                    clear H
                    go_wp2
                    go_ret
                    exact ⟨(by first | rfl | (simp [errW_none, errW_some] <;> rfl) | (simp [*, errW_none, errW_some] <;> rfl)), (by repeat (first | (with_reducible first | exact HB.out | apply below_alloc | apply pw_below_drewN | apply below_drew1) | exact HB.out))⟩
                · rw [if_neg c5] at H
                  have c2b : (t2 != d) = true := bne_iff_ne.mpr c5
                  obtain rfl := Option.some.inj H
                  clear H
                  refine on_ 25 40 (mk 33 0x3FFFFFF) ?_
                  refine on_ 26 41 (mk 33 0x7FFFFFF) ?_
                  refine on_ 27 42 (mk 33 0xFFFFFFF) ?_
                  refine of_ 28 43 (mk 33 0x1FFFFFFF) ?_
                  refine of_ 29 44 (mk 33 0x3FFFFFFF) ?_
                  refine of_ 30 45 (mk 33 0x7FFFFFFF) ?_
                  refine of_ 31 46 (mk 33 0xFFFFFFFF) ?_
                  refine on_ 32 47 (mk 33 0x1FFFFFFFF) ?_
                  refine dn_ ?_
                  go_wp2
                  go_ret
                  exact ⟨(by first | rfl | (simp [errW_none, errW_some] <;> rfl) | (simp [*, errW_none, errW_some] <;> rfl)), (by repeat (first | (with_reducible first | exact HB.out | apply below_alloc | apply pw_below_drewN | apply below_drew1) | exact HB.out))⟩
              · rw [if_neg c1] at H
                replace c1 := Bool.eq_false_iff.mpr c1
                subst c1
                obtain rfl := Option.some.inj H
                clear H
                refine on_ 17 32 (mk 33 0x3FFFF) ?_
                refine on_ 18 33 (mk 33 0x7FFFF) ?_
                refine on_ 19 34 (mk 33 0xFFFFF) ?_
                refine of_ 20 35 (mk 33 0x1FFFFF) ?_
                refine of_ 21 36 (mk 33 0x3FFFFF) ?_
                refine of_ 22 37 (mk 33 0x7FFFFF) ?_
                refine of_ 23 38 (mk 33 0xFFFFFF) ?_
                refine of_ 24 39 (mk 33 0x1FFFFFF) ?_
                refine of_ 25 40 (mk 33 0x3FFFFFF) ?_
                refine on_ 26 41 (mk 33 0x7FFFFFF) ?_
                refine on_ 27 42 (mk 33 0xFFFFFFF) ?_
                refine of_ 28 43 (mk 33 0x1FFFFFFF) ?_
                refine of_ 29 44 (mk 33 0x3FFFFFFF) ?_
                refine of_ 30 45 (mk 33 0x7FFFFFFF) ?_
                refine of_ 31 46 (mk 33 0xFFFFFFFF) ?_
                refine on_ 32 47 (mk 33 0x1FFFFFFFF) ?_
                refine dn_ ?_
                go_wp2
                go_ret
                exact ⟨(by first | rfl | (simp [errW_none, errW_some] <;> rfl) | (simp [*, errW_none, errW_some] <;> rfl)), (by repeat (first | (with_reducible first | exact HB.out | apply below_alloc | apply pw_below_drewN | apply below_drew1) | exact HB.out))⟩
          · rw [if_neg c4] at H
            exact absurd H (by simp)
        · rw [if_neg c3] at H
          have c3b0 : decide (i < (l0.length : Int)) = false := decide_eq_false c3
          obtain rfl := Option.some.inj H
          clear c3 H
          go_wp2
          go_ret
          exact ⟨(by first | rfl | (simp [errW_none, errW_some] <;> rfl) | (simp [*, errW_none, errW_some] <;> rfl)), (by repeat (first | (with_reducible first | exact HB.out | apply below_alloc | apply pw_below_drewN | apply below_drew1) | exact HB.out))⟩

/-! ### slices_Clone_int_int: function 72 -/
def slices_Clone_int_int.f (l0 : List Int) : Option (List Int) := (some (([] : List Int) : List Int)).bind fun y134 => (if y134.length + l0.length < 17592186044416 then (some (y134 ++ l0)) else (none))
set_option maxHeartbeats 8000000 in
set_option maxRecDepth 100000 in
theorem slices_Clone_int_int.calls (A0 : Option Addr) (c0 : Nat) (l0 : List Int) (r : List Int) (w : World) (hr0 : Kd.C (Kd.int .i64) w A0 l0.length l0) (hc0 : l0.length ≤ c0) (h : slices_Clone_int_int.f l0 = some r) :
    Calls Try.prog 72 #[.slice A0 l0.length c0] w fun e w' => ∃ v0_ : Value, e = .returned (v0_) ∧ Kd.R (Kd.int .i64) 3 w' w.heap.size (fun _ => True) v0_ r ∧ Below w.heap.size w w' := by
  have HR0 := Aside0.mk hr0
  have HC0 := Aside0.mk hc0
  clear hr0 hc0
  have HB := Aside0.mk (Below.refl w.heap.size w)
  have H : ((some (([] : List Int) : List Int)).bind fun y134 => (if y134.length + l0.length < 17592186044416 then (some (y134 ++ l0)) else (none))) = some r := h
  clear h
  obtain ⟨y134, hy134⟩ : ∃ y_ : List Int, y_ = (([] : List Int)) := ⟨_, rfl⟩
  replace H : (if y134.length + l0.length < 17592186044416 then (some (y134 ++ l0)) else (none)) = some r := by first | (rw [hy134]; with_reducible exact H) | (have H2_ := (Option.bind_some _ _).symm.trans H; rw [hy134]; with_reducible exact H2_) | (have H2_ := (Option.bind_some _ _).symm.trans H; with_reducible exact H2_) | with_reducible exact H | (rw [hy134]; exact H) | exact H
  have Ny134 := Aside0.mk hy134
  clear hy134
  by_cases c2 : y134.length + l0.length < 17592186044416
  · rw [if_pos c2] at H
    have LMc2 := Aside0.mk c2
    clear c2
    obtain ⟨y137, hy137⟩ : ∃ y_ : List Int, y_ = (y134 ++ l0) := ⟨_, rfl⟩
    replace H : (some y137) = some r := by first | (rw [hy137]; with_reducible exact H) | (have H2_ := (Option.bind_some _ _).symm.trans H; rw [hy137]; with_reducible exact H2_) | (have H2_ := (Option.bind_some _ _).symm.trans H; with_reducible exact H2_) | with_reducible exact H | (rw [hy137]; exact H) | exact H
    have Ny137 := Aside0.mk hy137
    clear hy137
    obtain rfl := Option.some.inj H
    rcases A0 with _ | ad0
    · have hl0 : l0 = [] := by
        rcases Nat.eq_zero_or_pos l0.length with h0 | hp
        · exact List.eq_nil_of_length_eq_zero h0
        · obtain ⟨ad, e, _⟩ := HR0.out.2.2 hp
          cases e
      have he : y137 = [] := by rw [Ny137.out, Ny134.out, hl0]; rfl
      have HE := Aside0.mk he
      clear he
      have heq : ∀ (c : Nat) (W : World), (binOp .eql 23 (.slice none 0 c) (.slice none 0 0)).run Try.prog W = .ok (.bool true) W := fun c W => by rfl
      subst hl0
      go_enter Try.func72, Try.ntmps72
      go_wp2
      go_ret
      exact ⟨_, by first | rfl | (simp; done) | (simp [*]; done), by rw [HE.out]; exact Kd.R_nil _ _ _ _ _, by repeat (first | exact HB.out | apply below_alloc | apply pw_below_drewN | apply below_drew1)⟩
    · have hne : ∀ (ad : Addr) (n c : Nat) (W : World), (binOp .eql 23 (.slice (some ad) n c) (.slice none 0 0)).run Try.prog W = .ok (.bool false) W := fun ad n c W => by rfl
      go_enter Try.func72, Try.ntmps72
      go_wp2_with (first | ((with_reducible refine gate_dst (N := 5) rfl ?_); refine Kd.R_lit (Kd.int .i64) _ 3 ?hg (N := 5) ?hd (xs := ([] : List Int)) (inner := []) (ok := fun _ => True) (okp := fun _ => True) ?hr ?hp (fun _ hk => hk) trivial (Below.refl _ _) (Nat.le_refl _) (by simp) ?_; (case hd => rfl); (case hg => rfl); (case hr => first | (go_simp; done) | (go_simp; rfl)); (case hp => exact (Reps.none _ _)); intro v135 w3 ho4 hb hg_ hnew_; clear hg_ hnew_; (first | rw [← Ny134.out] at ho4 | (simp only [Int.reduceToNat] at ho4; rw [← Ny134.out] at ho4)); have n0_ := Aside0.mk (Kd.R_lower ho4 (below_size (by repeat (first | (with_reducible first | exact HB.out | apply below_alloc | apply pw_below_drewN | apply below_drew1) | exact HB.out)))); have n1_ := Aside0.mk (below_step (by repeat (first | (with_reducible first | exact HB.out | apply below_alloc | apply pw_below_drewN | apply below_drew1) | exact HB.out)) hb); clear HB; have HO136 := n0_; have HB := n1_; clear n0_ n1_; clear hb ho4) | ((with_reducible refine gate_builtin (b := .append) (xs := #[.tmp 5, .tmp 6]) rfl ?_); at_builtin; refine Kd.R_append_rows (Kd.int .i64) (w0 := w) w.heap.size rfl (.tmp 5) (.tmp 6) 23 3 (.int .i64 0) 8 rfl Try.underlying23 info3 rfl (by decide) (by omega) v135 y134 l0 _ _ _ (fun _ => True) (fun _ => False) rfl rfl ?aO ?aR (fun _ _ h => h) (fun _ h => h.elim) ?aF ?aB ?aS ?aL ?_; (case aR => repeat (first | exact (Kd.C_below HR0.out HB.out) | (with_reducible refine Kd.C_alloc ?_ _) | (with_reducible refine Kd.C_drewN ?_ _) | (with_reducible refine Kd.C_drew ?_))); (case aB => exact (by repeat (first | (with_reducible first | exact HB.out | apply below_alloc | apply pw_below_drewN | apply below_drew1) | exact HB.out))); (case aF => exact (fun _ _ => trivial)); (case aO => exact (by (with_reducible repeat (first | apply Kd.R_alloc | apply Kd.R_drewN | apply Kd.R_drew)); exact HO136.out)); (case aS => exact (below_size (by repeat (first | (with_reducible first | exact HB.out | apply below_alloc | apply pw_below_drewN | apply below_drew1) | exact HB.out)))); (case aL => have := LMc2.out; omega); intro v138 w5 ho hb hg hat; rw [← Ny137.out] at ho; have n0_ := Aside0.mk (hb); have n1_ := Aside0.mk (ho); clear HB; clear HO136; have HB := n0_; have HO139 := n1_; clear n0_ n1_; clear ho hb hg hat))
      go_ret
      exact ⟨_, by first | rfl | (simp [errW_none, errW_some] <;> rfl) | (simp [*, errW_none, errW_some] <;> rfl), by (with_reducible repeat (first | apply Kd.R_alloc | apply Kd.R_drewN | apply Kd.R_drew)); exact HO139.out, by repeat (first | (with_reducible first | exact HB.out | apply below_alloc | apply pw_below_drewN | apply below_drew1) | exact HB.out)⟩
  · rw [if_neg c2] at H
    exact absurd H (by simp)

/-! ### impl_copyResource: function 44 -/
def impl_copyResource.f (a0_0 : Int) (l0_1 : List Int) (a0_2 : Int) (a0_3 : Int) (a0_4 : Int) : Option (Int × List Int × Int × Int × Int) := (slices_Clone_int_int.f l0_1).bind fun t142 => (some (a0_0, t142, a0_2, a0_3, a0_4))
set_option maxHeartbeats 8000000 in
set_option maxRecDepth 100000 in
theorem impl_copyResource.calls (a0_0 : Int) (A0_1 : Option Addr) (c0_1 : Nat) (l0_1 : List Int) (a0_2 : Int) (a0_3 : Int) (a0_4 : Int) (r1 : Int) (r2 : List Int) (r3 : Int) (r4 : Int) (r5 : Int) (w : World) (hr0_1 : Kd.C (Kd.int .i64) w A0_1 l0_1.length l0_1) (hc0_1 : l0_1.length ≤ c0_1) (h : impl_copyResource.f a0_0 l0_1 a0_2 a0_3 a0_4 = some (r1, r2, r3, r4, r5)) :
    Calls Try.prog 44 #[.agg #[.int .i64 a0_0, .slice A0_1 l0_1.length c0_1, .int .i64 a0_2, .int .i64 a0_3, .int .i64 a0_4]] w fun e w' => ∃ v1_ : Value, e = .returned (.agg #[.int .i64 r1, v1_, .int .i64 r3, .int .i64 r4, .int .i64 r5]) ∧ Kd.R (Kd.int .i64) 3 w' w.heap.size (fun _ => True) v1_ r2 ∧ Below w.heap.size w w' := by
  have hu36 := Try.underlying36
  have HR0_1 := Aside0.mk hr0_1
  have HC0_1 := Aside0.mk hc0_1
  clear hr0_1 hc0_1
  have HB := Aside0.mk (Below.refl w.heap.size w)
  have H : ((slices_Clone_int_int.f l0_1).bind fun t142 => (some (a0_0, t142, a0_2, a0_3, a0_4))) = some (r1, r2, r3, r4, r5) := h
  clear h
  replace H := Option.bind_eq_some_iff.mp H
  obtain ⟨t142, A20, H⟩ := H
  replace H : (some (a0_0, t142, a0_2, a0_3, a0_4)) = some (r1, r2, r3, r4, r5) := H
  have A2 := Aside0.mk A20
  clear A20
  simp only [Option.some.injEq, Prod.mk.injEq] at H
  obtain ⟨rfl, rfl, rfl, rfl, rfl⟩ := H
  go_enter Try.func44, Try.ntmps44
  go_wp2_with (first | ((with_reducible refine gate_dst (N := 1) rfl ?_); refine box_event ?hg (N := 1) ?hd (cs := #[.int .i64 a0_0, .slice A0_1 l0_1.length c0_1, .int .i64 a0_2, .int .i64 a0_3, .int .i64 a0_4]) (t := 36) ?hr ?_; (case hd => rfl); (case hg => rfl); (case hr => first | (go_simp; done) | (go_simp; rfl)); intro gb140 hg w3 hbox hb; have n0_ := Aside0.mk (below_step (by repeat (first | (with_reducible first | exact HB.out | apply below_alloc | apply pw_below_drewN | apply below_drew1) | exact HB.out)) hb); have n1_ := Aside0.mk (hbox); have n2_ := Aside0.mk ((by rw [hg]; exact (below_size (by repeat (first | (with_reducible first | exact HB.out | apply below_alloc | apply pw_below_drewN | apply below_drew1) | exact HB.out))) : w.heap.size ≤ gb140)); have n3_ := Aside0.mk ((by rw [hg]; exact (below_size (by repeat (first | (with_reducible first | exact HB.out | apply below_alloc | apply pw_below_drewN | apply below_drew1) | exact HB.out))) : w.heap.size ≤ gb140)); clear HB; have HB := n0_; have BK140 := n1_; have GW140 := n2_; have GE140 := n3_; clear n0_ n1_ n2_ n3_; clear hb hbox hg) | ((with_reducible refine gate_dst (N := 2) rfl ?_); refine box_event ?hg (N := 2) ?hd (cs := #[.int .i64 0, .slice none 0 0, .int .i64 0, .int .i64 0, .int .i64 0]) (t := 36) ?hr ?_; (case hd => rfl); (case hg => rfl); (case hr => first | (go_simp; done) | (go_simp; rfl)); intro gb141 hg w4 hbox hb; have n0_ := Aside0.mk (blk_below (g := gb140) (o := .cells #[.int .i64 a0_0, .slice A0_1 l0_1.length c0_1, .int .i64 a0_2, .int .i64 a0_3, .int .i64 a0_4] 36 (0, 0)) (by (with_reducible repeat (first | refine blk_drewN ?_ _ | refine blk_drew ?_ | refine blk_alloc ?_ _)); exact BK140.out) hb); have n1_ := Aside0.mk (below_step (by repeat (first | (with_reducible first | exact HB.out | apply below_alloc | apply pw_below_drewN | apply below_drew1 | refine below_set ?_ GE140.out) | exact HB.out)) hb); have n2_ := Aside0.mk (hbox); have n3_ := Aside0.mk ((by rw [hg]; exact (below_size (by repeat (first | (with_reducible first | exact HB.out | apply below_alloc | apply pw_below_drewN | apply below_drew1 | refine below_set ?_ GE140.out) | exact HB.out))) : w.heap.size ≤ gb141)); have n4_ := Aside0.mk ((by rw [hg]; exact (below_size (by repeat (first | (with_reducible first | exact HB.out | apply below_alloc | apply pw_below_drewN | apply below_drew1 | refine below_set ?_ GE140.out) | exact HB.out))) : w.heap.size ≤ gb141)); have n5_ := Aside0.mk ((by rw [hg]; exact Nat.ne_of_lt (blk_lt (g := gb140) (o := .cells #[.int .i64 a0_0, .slice A0_1 l0_1.length c0_1, .int .i64 a0_2, .int .i64 a0_3, .int .i64 a0_4] 36 (0, 0)) (by (with_reducible repeat (first | refine blk_drewN ?_ _ | refine blk_drew ?_ | refine blk_alloc ?_ _)); exact BK140.out)) : gb140 ≠ gb141)); have n6_ := Aside0.mk ((by rw [hg]; exact Nat.ne_of_gt (blk_lt (g := gb140) (o := .cells #[.int .i64 a0_0, .slice A0_1 l0_1.length c0_1, .int .i64 a0_2, .int .i64 a0_3, .int .i64 a0_4] 36 (0, 0)) (by (with_reducible repeat (first | refine blk_drewN ?_ _ | refine blk_drew ?_ | refine blk_alloc ?_ _)); exact BK140.out)) : gb141 ≠ gb140)); clear BK140; clear HB; have BK140 := n0_; have HB := n1_; have BK141 := n2_; have GW141 := n3_; have GE141 := n4_; have NB140_141 := n5_; have NB141_140 := n6_; clear n0_ n1_ n2_ n3_ n4_ n5_ n6_; clear hb hbox hg; have hnb5 := NB140_141.out; have hnc5 := NB141_140.out; have hcz6_0 : w4.cell? ⟨gb140, 0, none⟩ = some (.int .i64 a0_0) := (blk_cell BK140.out 0).trans rfl; have hcz6_1 : w4.cell? ⟨gb140, 1, none⟩ = some (.slice A0_1 l0_1.length c0_1) := (blk_cell BK140.out 1).trans rfl; have hcz6_2 : w4.cell? ⟨gb140, 2, none⟩ = some (.int .i64 a0_2) := (blk_cell BK140.out 2).trans rfl; have hcz6_3 : w4.cell? ⟨gb140, 3, none⟩ = some (.int .i64 a0_3) := (blk_cell BK140.out 3).trans rfl; have hcz6_4 : w4.cell? ⟨gb140, 4, none⟩ = some (.int .i64 a0_4) := (blk_cell BK140.out 4).trans rfl; have hfz6_0 := blk_frozen BK140.out 0; have hfz6_1 := blk_frozen BK140.out 1; have hfz6_2 := blk_frozen BK140.out 2; have hfz6_3 := blk_frozen BK140.out 3; have hfz6_4 := blk_frozen BK140.out 4) | ((with_reducible refine gate_callee (f := 72) rfl ?_); refine goesL_ (some 5) rfl rfl Try.func72 (by kernel_rfl) rfl #[.slice A0_1 l0_1.length c0_1] rfl (by (try simp only [List.map_toArray, List.map_cons, List.map_nil]); first | done | rfl | (simp only [List.length_drop, List.length_take]; rfl)) ?_; (with_reducible refine (slices_Clone_int_int.calls _ _ l0_1 t142 _ ?side1 ?side2 A2.out).mono ?_); (case side1 => repeat (first | exact (Kd.C_below HR0_1.out HB.out) | (with_reducible refine Kd.C_alloc ?_ _) | (with_reducible refine Kd.C_drewN ?_ _) | (with_reducible refine Kd.C_drew ?_))); (case side2 => exact HC0_1.out); rintro e w7 ⟨v143, rfl, ho0, hb⟩; refine ⟨_, rfl, ?_⟩; have n0_ := Aside0.mk (Kd.R_lower ho0 (below_size (by repeat (first | (with_reducible first | exact HB.out | apply below_alloc | apply pw_below_drewN | apply below_drew1 | refine below_set ?_ GE140.out | refine below_set ?_ GE141.out) | exact HB.out)))); have n1_ := Aside0.mk (blk_below (g := gb140) (o := .cells #[.int .i64 a0_0, .slice A0_1 l0_1.length c0_1, .int .i64 a0_2, .int .i64 a0_3, .int .i64 a0_4] 36 (0, 0)) (by (with_reducible repeat (first | refine blk_drewN ?_ _ | refine blk_drew ?_ | refine blk_alloc ?_ _)); exact BK140.out) hb); have n2_ := Aside0.mk (blk_below (g := gb141) (o := .cells #[.int .i64 0, .slice none 0 0, .int .i64 0, .int .i64 0, .int .i64 0] 36 (0, 0)) (by (with_reducible repeat (first | refine blk_drewN ?_ _ | refine blk_drew ?_ | refine blk_alloc ?_ _)); exact BK141.out) hb); have n3_ := Aside0.mk (below_step (by repeat (first | (with_reducible first | exact HB.out | apply below_alloc | apply pw_below_drewN | apply below_drew1 | refine below_set ?_ GE140.out | refine below_set ?_ GE141.out) | exact HB.out)) hb); clear BK140; clear BK141; clear HB; have HO144 := n0_; have BK140 := n1_; have BK141 := n2_; have HB := n3_; clear n0_ n1_ n2_ n3_; (try clear hb); (try clear hb2); (try clear hk); (try clear hi); (try clear ho0); obtain ⟨Ao8, co8, eo8⟩ := Kd.R_slice HO144.out; subst eo8; have hcz9_0 : w7.cell? ⟨gb140, 0, none⟩ = some (.int .i64 a0_0) := (blk_cell BK140.out 0).trans rfl; have hcz9_1 : w7.cell? ⟨gb140, 1, none⟩ = some (.slice A0_1 l0_1.length c0_1) := (blk_cell BK140.out 1).trans rfl; have hcz9_2 : w7.cell? ⟨gb140, 2, none⟩ = some (.int .i64 a0_2) := (blk_cell BK140.out 2).trans rfl; have hcz9_3 : w7.cell? ⟨gb140, 3, none⟩ = some (.int .i64 a0_3) := (blk_cell BK140.out 3).trans rfl; have hcz9_4 : w7.cell? ⟨gb140, 4, none⟩ = some (.int .i64 a0_4) := (blk_cell BK140.out 4).trans rfl; have hfz9_0 := blk_frozen BK140.out 0; have hfz9_1 := blk_frozen BK140.out 1; have hfz9_2 := blk_frozen BK140.out 2; have hfz9_3 := blk_frozen BK140.out 3; have hfz9_4 := blk_frozen BK140.out 4; have hcz10_0 : w7.cell? ⟨gb141, 0, none⟩ = some (.int .i64 0) := (blk_cell BK141.out 0).trans rfl; have hcz10_1 : w7.cell? ⟨gb141, 1, none⟩ = some (.slice none 0 0) := (blk_cell BK141.out 1).trans rfl; have hcz10_2 : w7.cell? ⟨gb141, 2, none⟩ = some (.int .i64 0) := (blk_cell BK141.out 2).trans rfl; have hcz10_3 : w7.cell? ⟨gb141, 3, none⟩ = some (.int .i64 0) := (blk_cell BK141.out 3).trans rfl; have hcz10_4 : w7.cell? ⟨gb141, 4, none⟩ = some (.int .i64 0) := (blk_cell BK141.out 4).trans rfl; have hfz10_0 := blk_frozen BK141.out 0; have hfz10_1 := blk_frozen BK141.out 1; have hfz10_2 := blk_frozen BK141.out 2; have hfz10_3 := blk_frozen BK141.out 3; have hfz10_4 := blk_frozen BK141.out 4))
  refine bodyPost_ret (results_cell_row rfl _ _ gb141 36 #[.int .i64 a0_0, .slice Ao8 t142.length co8, .int .i64 a0_2, .int .i64 a0_3, .int .i64 a0_4] (0, 0) _ rfl (by (with_reducible repeat (first | refine blk_drewN ?_ _ | refine blk_drew ?_ | refine blk_alloc ?_ _)); refine blk_put (cs := #[.int .i64 a0_0, .slice Ao8 t142.length co8, .int .i64 a0_2, .int .i64 a0_3, .int .i64 0]) ?_ 4 _ rfl; (with_reducible repeat (first | refine blk_drewN ?_ _ | refine blk_drew ?_ | refine blk_alloc ?_ _)); refine blk_put (cs := #[.int .i64 a0_0, .slice Ao8 t142.length co8, .int .i64 a0_2, .int .i64 0, .int .i64 0]) ?_ 3 _ rfl; (with_reducible repeat (first | refine blk_drewN ?_ _ | refine blk_drew ?_ | refine blk_alloc ?_ _)); refine blk_put (cs := #[.int .i64 a0_0, .slice Ao8 t142.length co8, .int .i64 0, .int .i64 0, .int .i64 0]) ?_ 2 _ rfl; (with_reducible repeat (first | refine blk_drewN ?_ _ | refine blk_drew ?_ | refine blk_alloc ?_ _)); refine blk_put (cs := #[.int .i64 a0_0, .slice none 0 0, .int .i64 0, .int .i64 0, .int .i64 0]) ?_ 1 _ rfl; (with_reducible repeat (first | refine blk_drewN ?_ _ | refine blk_drew ?_ | refine blk_alloc ?_ _)); refine blk_put (cs := #[.int .i64 0, .slice none 0 0, .int .i64 0, .int .i64 0, .int .i64 0]) ?_ 0 _ rfl; (with_reducible repeat (first | refine blk_drewN ?_ _ | refine blk_drew ?_ | refine blk_alloc ?_ _)); refine blk_far ?_ NB141_140.out _; (with_reducible repeat (first | refine blk_drewN ?_ _ | refine blk_drew ?_ | refine blk_alloc ?_ _)); exact BK141.out) Try.underlying36 rfl (by kernel_rfl)) rfl ?_
  exact ⟨_, by first | rfl | (simp [errW_none, errW_some] <;> rfl) | (simp [*, errW_none, errW_some] <;> rfl), by (with_reducible repeat (first | apply Kd.R_alloc | apply Kd.R_drewN | apply Kd.R_drew)); exact Kd.R_mono (Kd.R_far (p := ⟨gb141, 4, none⟩) (Kd.R_far (p := ⟨gb141, 3, none⟩) (Kd.R_far (p := ⟨gb141, 2, none⟩) (Kd.R_far (p := ⟨gb141, 1, none⟩) (Kd.R_far (p := ⟨gb141, 0, none⟩) (Kd.R_far (p := ⟨gb140, 1, none⟩) (Kd.R_types (Kd.R_types HO144.out BK140.out (by decide)) BK141.out (by decide)) (fun _ hk => hk.1.2) (.slice Ao8 t142.length co8)) (fun _ hk => hk.2) (.int .i64 a0_0)) (fun _ hk => hk.2) (.slice Ao8 t142.length co8)) (fun _ hk => hk.2) (.int .i64 a0_2)) (fun _ hk => hk.2) (.int .i64 a0_3)) (fun _ hk => hk.2) (.int .i64 a0_4)) (fun _ hk => trivial), by repeat (first | (with_reducible first | exact HB.out | apply below_alloc | apply pw_below_drewN | apply below_drew1 | refine below_set ?_ GE140.out | refine below_set ?_ GE141.out) | exact HB.out)⟩

/-! ### impl_copyParts: function 41 -/
def impl_copyParts.l0 : Nat → List (S63) → List (S63) → Int → Int → Option ((List (S63)))
  | 0, _, _, _, _ => none
  | k + 1, x3, x6, x7, x8 => if x8 < x7 then (if 0 ≤ x8 then (if x8 < (x6.length : Int) then ((impl_copyResource.f ((rd_T63 x6 x8).f1.f0) ((rd_T63 x6 x8).f1.f1) ((rd_T63 x6 x8).f1.f2.f0) ((rd_T63 x6 x8).f1.f2.f1) ((rd_T63 x6 x8).f1.f2.f2)).bind fun bt147 => (if x3.length < 1954687338268 then (impl_copyParts.l0 k (x3 ++ [(⟨(rd_T63 x6 x8).f0, (⟨bt147.1, bt147.2.1, (⟨bt147.2.2.1, bt147.2.2.2.1, bt147.2.2.2.2⟩ : S34)⟩ : S36), (rd_T63 x6 x8).f2⟩ : S63)]) x6 x7 (wrap64 (x8 + 1))) else (none))) else (none)) else (none)) else (some x3)
def impl_copyParts.f (k : Nat) (l0 : List (S63)) : Option ((List (S63))) := impl_copyParts.l0 k ([] : List (S63)) l0 (l0.length : Int) 0
def impl_copyParts.T5 : Bool × List (List Nat × List Nat) := (true, [([], []), ([], []), ([1], [1]), ([], []), ([3], [3]), ([4], [4]), ([], []), ([6], [6]), ([2, 5, 7], [2, 5, 7]), ([8], [8]), ([0, 9, 5], [0, 9]), ([10, 10, 0, 1, 2, 3, 4, 5, 6, 7, 8, 9, 10], [0, 10])])
def impl_copyParts.B5 : List Nat := [0, 0, 2, 0, 8, 24, 0, 64, 254, 510, 1023, 2047]
theorem impl_copyParts.tab5 : rtab .any (opsOf Try.f41 5) = impl_copyParts.T5 := by kernel_rfl
theorem impl_copyParts.bits5 : waitsOk impl_copyParts.T5.2 impl_copyParts.B5 = true := by kernel_rfl
set_option maxHeartbeats 8000000 in
set_option maxRecDepth 100000 in
theorem impl_copyParts.calls (k : Nat) (A0 : Option Addr) (c0 : Nat) (l0 : List (S63)) (r : List (S63)) (w : World) (hr0 : Kd.C k63 w A0 l0.length l0) (hc0 : l0.length ≤ c0) (h : impl_copyParts.f k l0 = some r) :
    Calls Try.prog 41 #[.slice A0 l0.length c0] w fun e w' => ∃ v0_ : Value, e = .returned (v0_) ∧ Kd.S k63 63 w' w.heap.size (fun _ => True) v0_ r ∧ Below w.heap.size w w' := by
  have hu63 := Try.underlying63
  have hu36 := Try.underlying36
  have HR0 := Aside0.mk hr0
  have HC0 := Aside0.mk hc0
  clear hr0 hc0
  have HB := Aside0.mk (Below.refl w.heap.size w)
  have H : (impl_copyParts.l0 k ([] : List (S63)) l0 (l0.length : Int) 0) = some r := h
  clear h
  have H' := Aside0.mk H
  clear H
  go_enter Try.func41, Try.ntmps41
  go_wp2
  go_loopg [3, 8] k (fun kq v3 v8 w' => ∃ (x3_1 : List (S63)) (x8_1 : Int), v8 = .int .i64 x8_1 ∧ Aside0 (impl_copyParts.l0 kq x3_1 l0 (l0.length : Int) x8_1 = some r) ∧ Aside0 (kq ≤ k) ∧ Aside0 (Kd.S k63 63 w' w.heap.size (fun _ => True) v3 x3_1) ∧ Aside0 (Below w.heap.size w w'))
  case atStart => exact ⟨(([] : List (S63))), (0), (by first | rfl | (simp; done) | (simp [*]; done)), H', ⟨Nat.le_refl _⟩, ⟨by first | exact Kd.S_nil _ _ _ _ _ | exact Kd.N_nil _ _ _ _ _ | exact Kd.V_nil _ _ _ _ _ | exact Kd.Q_nil _ _ _ _ _ | exact Kd.R_nil _ _ _ _ _⟩, ⟨by repeat (first | (with_reducible first | exact HB.out | apply below_alloc | apply pw_below_drewN | apply below_drew1) | exact HB.out)⟩⟩
  case round =>
    clear H'
    obtain ⟨x3_1, x8_1, rfl, HA, HK1, HO_3, HB⟩ := hrel
    cases gk with
    | zero => exact absurd HA.out (by simp [impl_copyParts.l0])
    | succ k1 =>
      have H := HA.out
      clear HA
      simp only [impl_copyParts.l0] at H
      by_cases c2 : x8_1 < (l0.length : Int)
      · rw [if_pos c2] at H
        have c2b0 : decide (x8_1 < (l0.length : Int)) = true := decide_eq_true c2
        clear c2
        by_cases c3 : 0 ≤ x8_1
        · rw [if_pos c3] at H
          have c3b0 : decide (0 ≤ x8_1) = true := decide_eq_true c3
          clear c3
          by_cases c4 : x8_1 < (l0.length : Int)
          · rw [if_pos c4] at H
            have c4b0 : decide (x8_1 < (l0.length : Int)) = true := decide_eq_true c4
            clear c4
            replace H := Option.bind_eq_some_iff.mp H
            obtain ⟨⟨t147, t148, t151, t152, t153⟩, A50, H⟩ := H
            replace H : (if x3_1.length < 1954687338268 then (impl_copyParts.l0 k1 (x3_1 ++ [(⟨(rd_T63 l0 x8_1).f0, (⟨t147, t148, (⟨t151, t152, t153⟩ : S34)⟩ : S36), (rd_T63 l0 x8_1).f2⟩ : S63)]) l0 (l0.length : Int) (wrap64 (x8_1 + 1))) else (none)) = some r := H
            have A5 := Aside0.mk A50
            clear A50
            by_cases c6 : x3_1.length < 1954687338268
            · rw [if_pos c6] at H
              have LMc6 := Aside0.mk c6
              clear c6
              obtain ⟨y154, hy154⟩ : ∃ y_ : List (S63), y_ = (x3_1 ++ [(⟨(rd_T63 l0 x8_1).f0, (⟨t147, t148, (⟨t151, t152, t153⟩ : S34)⟩ : S36), (rd_T63 l0 x8_1).f2⟩ : S63)]) := ⟨_, rfl⟩
              replace H : (impl_copyParts.l0 k1 y154 l0 (l0.length : Int) (wrap64 (x8_1 + 1))) = some r := by first | (rw [hy154]; with_reducible exact H) | (have H2_ := (Option.bind_some _ _).symm.trans H; rw [hy154]; with_reducible exact H2_) | (have H2_ := (Option.bind_some _ _).symm.trans H; with_reducible exact H2_) | with_reducible exact H | (rw [hy154]; exact H) | exact H
              have Ny154 := Aside0.mk hy154
              clear hy154
              have H' := Aside0.mk H
              clear H
              have p145 : 0 ≤ (x8_1 : Int) := of_decide_eq_true (by first | (with_reducible assumption) | assumption)
              have q145 : x8_1 < (l0.length : Int) := of_decide_eq_true (by first | (with_reducible assumption) | assumption)
              obtain ⟨ad145, A145_2, c145_2, e145, hx145_0, hx145_1, hx145_2, hx145_3, hx145_4, hx145_5, hx145_6, hl145_2, hi145_2⟩ := at_T63 HR0.out x8_1 p145 q145
              cases e145
              replace hx145_0 := (HB.out.cell (World.block_lt_of_cell? w _ hx145_0)).trans hx145_0
              replace hx145_1 := (HB.out.cell (World.block_lt_of_cell? w _ hx145_1)).trans hx145_1
              replace hx145_2 := (HB.out.cell (World.block_lt_of_cell? w _ hx145_2)).trans hx145_2
              replace hx145_3 := (HB.out.cell (World.block_lt_of_cell? w _ hx145_3)).trans hx145_3
              replace hx145_4 := (HB.out.cell (World.block_lt_of_cell? w _ hx145_4)).trans hx145_4
              replace hx145_5 := (HB.out.cell (World.block_lt_of_cell? w _ hx145_5)).trans hx145_5
              replace hx145_6 := (HB.out.cell (World.block_lt_of_cell? w _ hx145_6)).trans hx145_6
              have HR145_2 := Aside0.mk hi145_2
              have HC145_2 := Aside0.mk hl145_2
              clear hi145_2 hl145_2
              replace p145 := eq_true p145
              replace q145 := eq_true q145
              try go_wp2_with (first | ((with_reducible refine gate_dst (N := 5) rfl ?_); refine box_event ?hg (N := 5) ?hd (cs := #[.int .i64 0, .int .i64 0, .slice none 0 0, .int .i64 0, .int .i64 0, .int .i64 0, .int .i64 0]) (t := 63) ?hr ?_; (case hd => rfl); (case hg => rfl); (case hr => first | (go_simp; done) | (go_simp; rfl)); intro gb146 hg w7 hbox hb; have n0_ := Aside0.mk (Kd.S_below (Kd.S_elderB (by (with_reducible repeat (first | apply Kd.S_alloc | apply Kd.S_drewN | apply Kd.S_drew)); exact HO_3.out) gb146 (Nat.le_of_eq hg.symm)) hb); have n1_ := Aside0.mk (below_step (by repeat (first | (with_reducible first | exact HB.out | apply below_alloc | apply pw_below_drewN | apply below_drew1) | exact HB.out)) hb); have n2_ := Aside0.mk (hbox); have n3_ := Aside0.mk ((by rw [hg]; exact (below_size (by repeat (first | (with_reducible first | exact HB.out | apply below_alloc | apply pw_below_drewN | apply below_drew1) | exact HB.out))) : w.heap.size ≤ gb146)); have n4_ := Aside0.mk ((by rw [hg]; exact (below_size (by repeat (first | (with_reducible first | exact HB.out | apply below_alloc | apply pw_below_drewN | apply below_drew1) | exact HB.out))) : w.heap.size ≤ gb146)); clear HO_3; clear HB; have HO_3 := n0_; have HB := n1_; have BK146 := n2_; have GW146 := n3_; have GE146 := n4_; clear n0_ n1_ n2_ n3_ n4_; clear hb hbox hg; have hcz8_0 : w7.cell? ⟨gb146, 0, none⟩ = some (.int .i64 0) := (blk_cell BK146.out 0).trans rfl; have hcz8_1 : w7.cell? ⟨gb146, 1, none⟩ = some (.int .i64 0) := (blk_cell BK146.out 1).trans rfl; have hcz8_2 : w7.cell? ⟨gb146, 2, none⟩ = some (.slice none 0 0) := (blk_cell BK146.out 2).trans rfl; have hcz8_3 : w7.cell? ⟨gb146, 3, none⟩ = some (.int .i64 0) := (blk_cell BK146.out 3).trans rfl; have hcz8_4 : w7.cell? ⟨gb146, 4, none⟩ = some (.int .i64 0) := (blk_cell BK146.out 4).trans rfl; have hcz8_5 : w7.cell? ⟨gb146, 5, none⟩ = some (.int .i64 0) := (blk_cell BK146.out 5).trans rfl; have hcz8_6 : w7.cell? ⟨gb146, 6, none⟩ = some (.int .i64 0) := (blk_cell BK146.out 6).trans rfl; have hfz8_0 := blk_frozen BK146.out 0; have hfz8_1 := blk_frozen BK146.out 1; have hfz8_2 := blk_frozen BK146.out 2; have hfz8_3 := blk_frozen BK146.out 3; have hfz8_4 := blk_frozen BK146.out 4; have hfz8_5 := blk_frozen BK146.out 5; have hfz8_6 := blk_frozen BK146.out 6))
              have n0_ : Aside0 (Kd.S k63 63 (((((((w7.setCell ⟨gb146, 0, none⟩ (.int .i64 ((rd_T63 l0 x8_1).f0))).setCell ⟨gb146, 1, none⟩ (.int .i64 ((rd_T63 l0 x8_1).f1.f0))).setCell ⟨gb146, 2, none⟩ (.slice A145_2 ((rd_T63 l0 x8_1).f1.f1).length c145_2)).setCell ⟨gb146, 3, none⟩ (.int .i64 ((rd_T63 l0 x8_1).f1.f2.f0))).setCell ⟨gb146, 4, none⟩ (.int .i64 ((rd_T63 l0 x8_1).f1.f2.f1))).setCell ⟨gb146, 5, none⟩ (.int .i64 ((rd_T63 l0 x8_1).f1.f2.f2))).setCell ⟨gb146, 6, none⟩ (.int .i64 ((rd_T63 l0 x8_1).f2))) w.heap.size (fun k_ => k_ ≠ gb146) u3 x3_1) := ⟨by (with_reducible repeat (first | apply Kd.S_alloc | apply Kd.S_drewN | apply Kd.S_drew)); exact Kd.S_mono (Kd.S_far (p := ⟨gb146, 6, none⟩) (Kd.S_far (p := ⟨gb146, 5, none⟩) (Kd.S_far (p := ⟨gb146, 4, none⟩) (Kd.S_far (p := ⟨gb146, 3, none⟩) (Kd.S_far (p := ⟨gb146, 2, none⟩) (Kd.S_far (p := ⟨gb146, 1, none⟩) (Kd.S_far (p := ⟨gb146, 0, none⟩) (Kd.S_mono HO_3.out (fun k_ hk => (⟨hk, hk.2⟩ : _ ∧ k_ ≠ gb146))) (fun _ hk => hk.2) (.int .i64 ((rd_T63 l0 x8_1).f0))) (fun _ hk => hk.2) (.int .i64 ((rd_T63 l0 x8_1).f1.f0))) (fun _ hk => hk.2) (.slice A145_2 ((rd_T63 l0 x8_1).f1.f1).length c145_2)) (fun _ hk => hk.2) (.int .i64 ((rd_T63 l0 x8_1).f1.f2.f0))) (fun _ hk => hk.2) (.int .i64 ((rd_T63 l0 x8_1).f1.f2.f1))) (fun _ hk => hk.2) (.int .i64 ((rd_T63 l0 x8_1).f1.f2.f2))) (fun _ hk => hk.2) (.int .i64 ((rd_T63 l0 x8_1).f2))) (fun _ hk => hk.1.2)⟩
              have n1_ : Aside0 ((((((((w7.setCell ⟨gb146, 0, none⟩ (.int .i64 ((rd_T63 l0 x8_1).f0))).setCell ⟨gb146, 1, none⟩ (.int .i64 ((rd_T63 l0 x8_1).f1.f0))).setCell ⟨gb146, 2, none⟩ (.slice A145_2 ((rd_T63 l0 x8_1).f1.f1).length c145_2)).setCell ⟨gb146, 3, none⟩ (.int .i64 ((rd_T63 l0 x8_1).f1.f2.f0))).setCell ⟨gb146, 4, none⟩ (.int .i64 ((rd_T63 l0 x8_1).f1.f2.f1))).setCell ⟨gb146, 5, none⟩ (.int .i64 ((rd_T63 l0 x8_1).f1.f2.f2))).setCell ⟨gb146, 6, none⟩ (.int .i64 ((rd_T63 l0 x8_1).f2))).heap[gb146]? = some (.cells #[.int .i64 ((rd_T63 l0 x8_1).f0), .int .i64 ((rd_T63 l0 x8_1).f1.f0), .slice A145_2 ((rd_T63 l0 x8_1).f1.f1).length c145_2, .int .i64 ((rd_T63 l0 x8_1).f1.f2.f0), .int .i64 ((rd_T63 l0 x8_1).f1.f2.f1), .int .i64 ((rd_T63 l0 x8_1).f1.f2.f2), .int .i64 ((rd_T63 l0 x8_1).f2)] 63 (0, 0))) := ⟨by (with_reducible repeat (first | refine blk_drewN ?_ _ | refine blk_drew ?_ | refine blk_alloc ?_ _)); refine blk_put (cs := #[.int .i64 ((rd_T63 l0 x8_1).f0), .int .i64 ((rd_T63 l0 x8_1).f1.f0), .slice A145_2 ((rd_T63 l0 x8_1).f1.f1).length c145_2, .int .i64 ((rd_T63 l0 x8_1).f1.f2.f0), .int .i64 ((rd_T63 l0 x8_1).f1.f2.f1), .int .i64 ((rd_T63 l0 x8_1).f1.f2.f2), .int .i64 0]) ?_ 6 _ rfl; (with_reducible repeat (first | refine blk_drewN ?_ _ | refine blk_drew ?_ | refine blk_alloc ?_ _)); refine blk_put (cs := #[.int .i64 ((rd_T63 l0 x8_1).f0), .int .i64 ((rd_T63 l0 x8_1).f1.f0), .slice A145_2 ((rd_T63 l0 x8_1).f1.f1).length c145_2, .int .i64 ((rd_T63 l0 x8_1).f1.f2.f0), .int .i64 ((rd_T63 l0 x8_1).f1.f2.f1), .int .i64 0, .int .i64 0]) ?_ 5 _ rfl; (with_reducible repeat (first | refine blk_drewN ?_ _ | refine blk_drew ?_ | refine blk_alloc ?_ _)); refine blk_put (cs := #[.int .i64 ((rd_T63 l0 x8_1).f0), .int .i64 ((rd_T63 l0 x8_1).f1.f0), .slice A145_2 ((rd_T63 l0 x8_1).f1.f1).length c145_2, .int .i64 ((rd_T63 l0 x8_1).f1.f2.f0), .int .i64 0, .int .i64 0, .int .i64 0]) ?_ 4 _ rfl; (with_reducible repeat (first | refine blk_drewN ?_ _ | refine blk_drew ?_ | refine blk_alloc ?_ _)); refine blk_put (cs := #[.int .i64 ((rd_T63 l0 x8_1).f0), .int .i64 ((rd_T63 l0 x8_1).f1.f0), .slice A145_2 ((rd_T63 l0 x8_1).f1.f1).length c145_2, .int .i64 0, .int .i64 0, .int .i64 0, .int .i64 0]) ?_ 3 _ rfl; (with_reducible repeat (first | refine blk_drewN ?_ _ | refine blk_drew ?_ | refine blk_alloc ?_ _)); refine blk_put (cs := #[.int .i64 ((rd_T63 l0 x8_1).f0), .int .i64 ((rd_T63 l0 x8_1).f1.f0), .slice none 0 0, .int .i64 0, .int .i64 0, .int .i64 0, .int .i64 0]) ?_ 2 _ rfl; (with_reducible repeat (first | refine blk_drewN ?_ _ | refine blk_drew ?_ | refine blk_alloc ?_ _)); refine blk_put (cs := #[.int .i64 ((rd_T63 l0 x8_1).f0), .int .i64 0, .slice none 0 0, .int .i64 0, .int .i64 0, .int .i64 0, .int .i64 0]) ?_ 1 _ rfl; (with_reducible repeat (first | refine blk_drewN ?_ _ | refine blk_drew ?_ | refine blk_alloc ?_ _)); refine blk_put (cs := #[.int .i64 0, .int .i64 0, .slice none 0 0, .int .i64 0, .int .i64 0, .int .i64 0, .int .i64 0]) ?_ 0 _ rfl; (with_reducible repeat (first | refine blk_drewN ?_ _ | refine blk_drew ?_ | refine blk_alloc ?_ _)); exact BK146.out⟩
              have n2_ : Aside0 (Below w.heap.size w (((((((w7.setCell ⟨gb146, 0, none⟩ (.int .i64 ((rd_T63 l0 x8_1).f0))).setCell ⟨gb146, 1, none⟩ (.int .i64 ((rd_T63 l0 x8_1).f1.f0))).setCell ⟨gb146, 2, none⟩ (.slice A145_2 ((rd_T63 l0 x8_1).f1.f1).length c145_2)).setCell ⟨gb146, 3, none⟩ (.int .i64 ((rd_T63 l0 x8_1).f1.f2.f0))).setCell ⟨gb146, 4, none⟩ (.int .i64 ((rd_T63 l0 x8_1).f1.f2.f1))).setCell ⟨gb146, 5, none⟩ (.int .i64 ((rd_T63 l0 x8_1).f1.f2.f2))).setCell ⟨gb146, 6, none⟩ (.int .i64 ((rd_T63 l0 x8_1).f2)))) := ⟨by repeat (first | (with_reducible first | exact HB.out | apply below_alloc | apply pw_below_drewN | apply below_drew1 | refine below_set ?_ GE146.out) | exact HB.out)⟩
              (try clear HO_3)
              (try clear BK146)
              (try clear HB)
              generalize (((((((w7.setCell ⟨gb146, 0, none⟩ (.int .i64 ((rd_T63 l0 x8_1).f0))).setCell ⟨gb146, 1, none⟩ (.int .i64 ((rd_T63 l0 x8_1).f1.f0))).setCell ⟨gb146, 2, none⟩ (.slice A145_2 ((rd_T63 l0 x8_1).f1.f1).length c145_2)).setCell ⟨gb146, 3, none⟩ (.int .i64 ((rd_T63 l0 x8_1).f1.f2.f0))).setCell ⟨gb146, 4, none⟩ (.int .i64 ((rd_T63 l0 x8_1).f1.f2.f1))).setCell ⟨gb146, 5, none⟩ (.int .i64 ((rd_T63 l0 x8_1).f1.f2.f2))).setCell ⟨gb146, 6, none⟩ (.int .i64 ((rd_T63 l0 x8_1).f2))) = w9 at n0_ n1_ n2_ ⊢
              have HO_3 := n0_
              have BK146 := n1_
              have HB := n2_
              clear n0_ n1_ n2_
              have n0_ := Aside0.mk (Kd.S_drew HO_3.out)
              have n1_ := Aside0.mk (blk_drew BK146.out)
              have n2_ := Aside0.mk (below_drew1 HB.out)
              clear HO_3
              clear BK146
              clear HB
              have HO_3 := n0_
              have BK146 := n1_
              have HB := n2_
              clear n0_ n1_ n2_
              refine start_ (n := 12) (S := fun w' => w'.cell? ⟨gb146, 0, none⟩ = some (.int .i64 ((rd_T63 l0 x8_1).f0)) ∧ w'.cell? ⟨gb146, 1, none⟩ = some (.int .i64 ((rd_T63 l0 x8_1).f1.f0)) ∧ w'.cell? ⟨gb146, 2, none⟩ = some (.slice A145_2 ((rd_T63 l0 x8_1).f1.f1).length c145_2) ∧ w'.cell? ⟨gb146, 3, none⟩ = some (.int .i64 ((rd_T63 l0 x8_1).f1.f2.f0)) ∧ w'.cell? ⟨gb146, 4, none⟩ = some (.int .i64 ((rd_T63 l0 x8_1).f1.f2.f1)) ∧ w'.cell? ⟨gb146, 5, none⟩ = some (.int .i64 ((rd_T63 l0 x8_1).f1.f2.f2)) ∧ w'.cell? ⟨gb146, 6, none⟩ = some (.int .i64 ((rd_T63 l0 x8_1).f2))) (ds := []) #[false, false, false, false, false, false, false, false, false, false, false, false] (by kernel_rfl) rfl rfl ⟨(blk_cell BK146.out 0).trans rfl, (blk_cell BK146.out 1).trans rfl, (blk_cell BK146.out 2).trans rfl, (blk_cell BK146.out 3).trans rfl, (blk_cell BK146.out 4).trans rfl, (blk_cell BK146.out 5).trans rfl, (blk_cell BK146.out 6).trans rfl⟩ (fun hHeld => ?_); refine with_tabW impl_copyParts.tab5 impl_copyParts.bits5 (fun HT_ HW_ => ?_)
              generalize w9.drew = w10 at HO_3 BK146 HB hHeld ⊢
              refine pure_ (i := 0) (N := some 12) (v := ?_) (a' := ?_) #[true, false, false, false, false, false, false, false, false, false, false, false] rfl rfl (any_of HT_.out (by kernel_rfl)) (fun _ _ _ h => h) (Or.inl ⟨by rfl, ?_⟩) ?_ ?_
              rotate_left
              · intro w'
                go_simp
                with_reducible rfl
              rotate_left
              · simp only [Act.put, List.setIfInBounds_toArray, List.set_cons_zero, List.set_cons_succ, i64_w, i32_w]
                rfl
              refine pure_ (i := 1) (N := some 13) (v := ?_) (a' := ?_) #[true, true, false, false, false, false, false, false, false, false, false, false] rfl rfl (any_of HT_.out (by kernel_rfl)) (fun _ _ _ h => h) (Or.inl ⟨by rfl, ?_⟩) ?_ ?_
              rotate_left
              · intro w'
                go_simp
                with_reducible rfl
              rotate_left
              · simp only [Act.put, List.setIfInBounds_toArray, List.set_cons_zero, List.set_cons_succ, i64_w, i32_w]
                rfl
              refine pure_ (i := 3) (N := some 15) (v := ?_) (a' := ?_) #[true, true, false, true, false, false, false, false, false, false, false, false] rfl rfl (any_of HT_.out (by kernel_rfl)) (fun _ _ _ h => h) (Or.inl ⟨by rfl, ?_⟩) ?_ ?_
              rotate_left
              · intro w'
                go_simp
                with_reducible rfl
              rotate_left
              · simp only [Act.put, List.setIfInBounds_toArray, List.set_cons_zero, List.set_cons_succ, i64_w, i32_w]
                rfl
              refine pure_ (i := 6) (N := some 18) (v := ?_) (a' := ?_) #[true, true, false, true, false, false, true, false, false, false, false, false] rfl rfl (any_of HT_.out (by kernel_rfl)) (fun _ _ _ h => h) (Or.inl ⟨by rfl, ?_⟩) ?_ ?_
              rotate_left
              · intro w'
                go_simp
                with_reducible rfl
              rotate_left
              · simp only [Act.put, List.setIfInBounds_toArray, List.set_cons_zero, List.set_cons_succ, i64_w, i32_w]
                rfl
              refine take_ (i := 2) (N := some 14) (v := ?_) (a' := ?_) #[true, true, true, true, false, false, true, false, false, false, false, false] rfl rfl (take_ofW HT_.out HW_.out (by kernel_rfl)) (fun _ _ _ h => h) (Or.inl ⟨by rfl, ?_⟩) hHeld ?_ ?_
              rotate_left
              · rintro w' ⟨s0, s1, s2, s3, s4, s5, s6⟩
                go_simp
                with_reducible rfl
              rotate_left
              · simp only [Act.put, List.setIfInBounds_toArray, List.set_cons_zero, List.set_cons_succ, i64_w, i32_w]
                rfl
              refine take_ (i := 4) (N := some 16) (v := ?_) (a' := ?_) #[true, true, true, true, true, false, true, false, false, false, false, false] rfl rfl (take_ofW HT_.out HW_.out (by kernel_rfl)) (fun _ _ _ h => h) (Or.inl ⟨by rfl, ?_⟩) hHeld ?_ ?_
              rotate_left
              · rintro w' ⟨s0, s1, s2, s3, s4, s5, s6⟩
                go_simp
                with_reducible rfl
              rotate_left
              · simp only [Act.put, List.setIfInBounds_toArray, List.set_cons_zero, List.set_cons_succ, i64_w, i32_w]
                rfl
              refine take_ (i := 7) (N := some 19) (v := ?_) (a' := ?_) #[true, true, true, true, true, false, true, true, false, false, false, false] rfl rfl (take_ofW HT_.out HW_.out (by kernel_rfl)) (fun _ _ _ h => h) (Or.inl ⟨by rfl, ?_⟩) hHeld ?_ ?_
              rotate_left
              · rintro w' ⟨s0, s1, s2, s3, s4, s5, s6⟩
                go_simp
                with_reducible rfl
              rotate_left
              · simp only [Act.put, List.setIfInBounds_toArray, List.set_cons_zero, List.set_cons_succ, i64_w, i32_w]
                rfl
              refine one_ (i := 5) (N := some 17) #[true, true, true, true, true, true, true, true, false, false, false, false] rfl rfl (one_of HT_.out (by kernel_rfl)) (by decide) (fun K hK => ?_)
              refine goes_ Try.func44 (by kernel_rfl) rfl #[.agg #[.int .i64 ((rd_T63 l0 x8_1).f1.f0), .slice A145_2 ((rd_T63 l0 x8_1).f1.f1).length c145_2, .int .i64 ((rd_T63 l0 x8_1).f1.f2.f0), .int .i64 ((rd_T63 l0 x8_1).f1.f2.f1), .int .i64 ((rd_T63 l0 x8_1).f1.f2.f2)]] (by rfl) rfl rfl (by (try simp only [List.map_toArray, List.map_cons, List.map_nil]); first | done | rfl | (simp only [List.length_drop, List.length_take]; rfl)) ?_
              with_reducible refine (impl_copyResource.calls ((rd_T63 l0 x8_1).f1.f0) _ _ ((rd_T63 l0 x8_1).f1.f1) ((rd_T63 l0 x8_1).f1.f2.f0) ((rd_T63 l0 x8_1).f1.f2.f1) ((rd_T63 l0 x8_1).f1.f2.f2) t147 t148 t151 t152 t153 _ ?side1 ?side2 A5.out).mono ?_
              (case side1 => repeat (first | exact (Kd.C_below HR145_2.out HB.out) | (with_reducible refine Kd.C_alloc ?_ _) | (with_reducible refine Kd.C_drewN ?_ _) | (with_reducible refine Kd.C_drew ?_)))
              (case side2 => exact HC145_2.out)
              rintro e w11 ⟨v149, rfl, ho0, hb⟩
              refine ⟨_, rfl, ?_⟩
              have n0_ := Aside0.mk (Kd.S_elder' (by (with_reducible repeat (first | apply Kd.S_alloc | apply Kd.S_drewN | apply Kd.S_drew)); exact HO_3.out) (Kd.R_base ho0) hb)
              have n1_ := Aside0.mk (Kd.R_lower ho0 (below_size (by repeat (first | (with_reducible first | exact HB.out | apply below_alloc | apply pw_below_drewN | apply below_drew1 | refine below_set ?_ GE146.out) | exact HB.out))))
              have n2_ := Aside0.mk (blk_below (g := gb146) (o := .cells #[.int .i64 ((rd_T63 l0 x8_1).f0), .int .i64 ((rd_T63 l0 x8_1).f1.f0), .slice A145_2 ((rd_T63 l0 x8_1).f1.f1).length c145_2, .int .i64 ((rd_T63 l0 x8_1).f1.f2.f0), .int .i64 ((rd_T63 l0 x8_1).f1.f2.f1), .int .i64 ((rd_T63 l0 x8_1).f1.f2.f2), .int .i64 ((rd_T63 l0 x8_1).f2)] 63 (0, 0)) (by (with_reducible repeat (first | refine blk_drewN ?_ _ | refine blk_drew ?_ | refine blk_alloc ?_ _)); exact BK146.out) hb)
              have n3_ := Aside0.mk (below_step (by repeat (first | (with_reducible first | exact HB.out | apply below_alloc | apply pw_below_drewN | apply below_drew1 | refine below_set ?_ GE146.out) | exact HB.out)) hb)
              clear HO_3
              clear BK146
              clear HB
              have HO_3 := n0_
              have HO150 := n1_
              have BK146 := n2_
              have HB := n3_
              clear n0_ n1_ n2_ n3_
              (try clear hb)
              (try clear hb2)
              (try clear hk)
              (try clear hi)
              (try clear ho0)
              obtain ⟨Ao12, co12, eo12⟩ := Kd.R_slice HO150.out
              (first | subst eo12 | (injection eo12 with f1_ f2_ f3_; have f4_ := f1_.symm; have f5_ := f3_.symm; clear f1_ f2_ f3_; subst f4_; subst f5_))
              refine hK.out _ _ ⟨(blk_cell BK146.out 0).trans rfl, (blk_cell BK146.out 1).trans rfl, (blk_cell BK146.out 2).trans rfl, (blk_cell BK146.out 3).trans rfl, (blk_cell BK146.out 4).trans rfl, (blk_cell BK146.out 5).trans rfl, (blk_cell BK146.out 6).trans rfl⟩ (fun hHeld => ?_)
              clear hK K
              refine norm_ (a' := ?_) ?_ ?_
              rotate_left
              · show Act.put _ (some 17) _ = _
                simp only [Act.put, List.setIfInBounds_toArray, List.set_cons_zero, List.set_cons_succ, i64_w, i32_w]
                rfl
              refine pure_ (i := 8) (N := some 20) (v := ?_) (a' := ?_) #[true, true, true, true, true, true, true, true, true, false, false, false] rfl rfl (any_of HT_.out (by kernel_rfl)) (fun _ _ _ h => h) (Or.inl ⟨by rfl, ?_⟩) ?_ ?_
              rotate_left
              · intro w'
                go_simp
                with_reducible rfl
              rotate_left
              · simp only [Act.put, List.setIfInBounds_toArray, List.set_cons_zero, List.set_cons_succ, i64_w, i32_w]
                rfl
              refine one_ (i := 9) (N := some 21) #[true, true, true, true, true, true, true, true, true, true, false, false] rfl rfl (one_of HT_.out (by kernel_rfl)) (by decide) (fun K hK => ?_)
              refine value_ (w1 := ?_) (v := ?_) (by rfl) rfl ?_ ?_
              rotate_left 2
              · go_simp
                constructor
                · rfl
                · rfl
              refine hK.out _ _ ⟨(blk_cell (blk_alloc BK146.out _) 0).trans rfl, (blk_cell (blk_alloc BK146.out _) 1).trans rfl, (blk_cell (blk_alloc BK146.out _) 2).trans rfl, (blk_cell (blk_alloc BK146.out _) 3).trans rfl, (blk_cell (blk_alloc BK146.out _) 4).trans rfl, (blk_cell (blk_alloc BK146.out _) 5).trans rfl, (blk_cell (blk_alloc BK146.out _) 6).trans rfl⟩ (fun hHeld => ?_)
              clear hK K
              refine norm_ (a' := ?_) ?_ ?_
              rotate_left
              · show Act.put _ (some 21) _ = _
                simp only [Act.put, List.setIfInBounds_toArray, List.set_cons_zero, List.set_cons_succ, i64_w, i32_w]
                rfl
              refine one_ (i := 10) (N := some 22) #[true, true, true, true, true, true, true, true, true, true, true, false] rfl rfl (one_of HT_.out (by kernel_rfl)) (by decide) (fun K hK => ?_)
              refine Kd.S_append_step k63 (w0 := w) w.heap.size (by rfl) (.tmp 12) (.tmp 21) 30 63 (.agg #[(.int .i64 0), (.int .i64 0), (.slice none 0 0), (.int .i64 0), (.int .i64 0), (.int .i64 0), (.int .i64 0)]) 72 rfl Try.underlying30 info63 rfl (by decide) (by omega) u3 x3_1 (⟨(rd_T63 l0 x8_1).f0, (⟨t147, t148, (⟨t151, t152, t153⟩ : S34)⟩ : S36), (rd_T63 l0 x8_1).f2⟩ : S63) [.int .i64 ((rd_T63 l0 x8_1).f0), .int .i64 t147, .slice Ao12 t148.length co12, .int .i64 t151, .int .i64 t152, .int .i64 t153, .int .i64 ((rd_T63 l0 x8_1).f2)] (fun k_ => k_ ≠ gb146) (fun k_ => some k_ = (.slice Ao12 t148.length co12 : Value).ownBlock) rfl rfl ?aP (fun k_ hk_ => ((Kd.R_mono (ok' := fun k_ => ((fun k_ => k_ ≠ gb146)) k_ ∧ some k_ ≠ (u3 : Value).ownBlock) (Kd.R_types (Kd.R_apart' (HO150.out) (Kd.S_typed HO_3.out) (by decide)) BK146.out (by decide)) (fun k_ hk => ⟨hk.2, hk.1.2⟩))).1 k_ hk_.symm) ?aF ?aO ?aB ?aS ?aL ?_
              (case aP => exact k63_mkM _ _ _ (⟨(rd_T63 l0 x8_1).f0, (⟨t147, t148, (⟨t151, t152, t153⟩ : S34)⟩ : S36), (rd_T63 l0 x8_1).f2⟩ : S63) (Kd.R_mono (Kd.R_tight rfl (Kd.R_mono (ok' := fun k_ => ((fun k_ => k_ ≠ gb146)) k_ ∧ some k_ ≠ (u3 : Value).ownBlock) (Kd.R_types (Kd.R_apart' (HO150.out) (Kd.S_typed HO_3.out) (by decide)) BK146.out (by decide)) (fun k_ hk => ⟨hk.2, hk.1.2⟩))) (fun _ h_ => h_)))
              (case aB => exact (by repeat (first | (with_reducible first | exact HB.out | apply below_alloc | apply pw_below_drewN | apply below_drew1 | refine below_set ?_ GE146.out) | exact HB.out)))
              (case aF => exact (fun k_ hk => Kd.freshB (g := gb146) (o := .cells #[.int .i64 ((rd_T63 l0 x8_1).f0), .int .i64 ((rd_T63 l0 x8_1).f1.f0), .slice A145_2 ((rd_T63 l0 x8_1).f1.f1).length c145_2, .int .i64 ((rd_T63 l0 x8_1).f1.f2.f0), .int .i64 ((rd_T63 l0 x8_1).f1.f2.f1), .int .i64 ((rd_T63 l0 x8_1).f1.f2.f2), .int .i64 ((rd_T63 l0 x8_1).f2)] 63 (0, 0)) (by (with_reducible repeat (first | refine blk_drewN ?_ _ | refine blk_drew ?_ | refine blk_alloc ?_ _)); exact BK146.out) k_ hk))
              (case aO => exact (by (with_reducible repeat (first | apply Kd.S_alloc | apply Kd.S_drewN | apply Kd.S_drew)); exact Kd.S_mono HO_3.out (fun k_ hk => ⟨hk.1, fun e_ => hk.2 e_⟩)))
              (case aS => exact (below_size (by repeat (first | (with_reducible first | exact HB.out | apply below_alloc | apply pw_below_drewN | apply below_drew1 | refine below_set ?_ GE146.out) | exact HB.out))))
              (case aL => have := LMc6.out; omega)
              intro v155 w13 ho hb hg hat
              rw [← Ny154.out] at ho
              have n0_ := Aside0.mk (blk_grown (g := gb146) (o := .cells #[.int .i64 ((rd_T63 l0 x8_1).f0), .int .i64 ((rd_T63 l0 x8_1).f1.f0), .slice A145_2 ((rd_T63 l0 x8_1).f1.f1).length c145_2, .int .i64 ((rd_T63 l0 x8_1).f1.f2.f0), .int .i64 ((rd_T63 l0 x8_1).f1.f2.f1), .int .i64 ((rd_T63 l0 x8_1).f1.f2.f2), .int .i64 ((rd_T63 l0 x8_1).f2)] 63 (0, 0)) (by (with_reducible repeat (first | refine blk_drewN ?_ _ | refine blk_drew ?_ | refine blk_alloc ?_ _)); exact BK146.out) hg (Kd.S_away HO_3.out (fun _ hk => hk.1)))
              have n1_ := Aside0.mk (hb)
              have n2_ := Aside0.mk (ho)
              clear BK146
              clear HB
              clear HO_3
              clear HO150
              have BK146 := n0_
              have HB := n1_
              have HO156 := n2_
              clear n0_ n1_ n2_
              clear ho hb hg hat
              refine hK.out _ _ ⟨(blk_cell BK146.out 0).trans rfl, (blk_cell BK146.out 1).trans rfl, (blk_cell BK146.out 2).trans rfl, (blk_cell BK146.out 3).trans rfl, (blk_cell BK146.out 4).trans rfl, (blk_cell BK146.out 5).trans rfl, (blk_cell BK146.out 6).trans rfl⟩ (fun hHeld => ?_)
              clear hK K
              refine norm_ (a' := ?_) ?_ ?_
              rotate_left
              · show Act.put _ (some 22) _ = _
                simp only [Act.put, List.setIfInBounds_toArray, List.set_cons_zero, List.set_cons_succ, i64_w, i32_w]
                rfl
              refine pure_ (i := 11) (N := some 3) (v := ?_) (a' := ?_) #[true, true, true, true, true, true, true, true, true, true, true, true] rfl rfl (any_of HT_.out (by kernel_rfl)) (fun _ _ _ h => h) (Or.inl ⟨by rfl, ?_⟩) ?_ ?_
              rotate_left
              · intro w'
                go_simp
                with_reducible rfl
              rotate_left
              · simp only [Act.put, List.setIfInBounds_toArray, List.set_cons_zero, List.set_cons_succ, i64_w, i32_w]
                rfl
              refine done_ (done_of HT_.out (by kernel_rfl)) ?_
              try go_wp2
              go_roundg k1
              case measure => have := HK1.out; omega
              case rel => exact ⟨(y154), (wrap64 (x8_1 + 1)), (by first | rfl | (simp; done) | (simp [*]; done)), H', ⟨by have := HK1.out; omega⟩, ⟨by (with_reducible repeat (first | apply Kd.S_alloc | apply Kd.S_drewN | apply Kd.S_drew)); exact Kd.S_mono HO156.out (fun _ hk => trivial)⟩, ⟨by repeat (first | (with_reducible first | exact HB.out | apply below_alloc | apply pw_below_drewN | apply below_drew1 | refine below_set ?_ GE146.out) | exact HB.out)⟩⟩
            · rw [if_neg c6] at H
              exact absurd H (by simp)
          · rw [if_neg c4] at H
            exact absurd H (by simp)
        · rw [if_neg c3] at H
          exact absurd H (by simp)
      · rw [if_neg c2] at H
        have c2b0 : decide (x8_1 < (l0.length : Int)) = false := decide_eq_false c2
        clear c2
        obtain rfl := Option.some.inj H
        go_wp2
        go_ret
        exact ⟨_, by first | rfl | (simp [errW_none, errW_some] <;> rfl) | (simp [*, errW_none, errW_some] <;> rfl), by (with_reducible repeat (first | apply Kd.S_alloc | apply Kd.S_drewN | apply Kd.S_drew)); exact HO_3.out, by repeat (first | (with_reducible first | exact HB.out | apply below_alloc | apply pw_below_drewN | apply below_drew1) | exact HB.out)⟩

-- NOT PRINTED: function 68 (impl_Part_68)

/-! ### impl_partAt: function 42 -/
def impl_partAt.l0 : Nat → List (S63) → Int → Int → Option (Int)
  | 0, _, _, _ => none
  | k + 1, x0, x1, x5 => if x5 < (x0.length : Int) then (if 0 ≤ x5 then (if ((rd_T63 x0 x5).f0) = x1 then (some x5) else (impl_partAt.l0 k x0 x1 (wrap64 (x5 + 1)))) else (none)) else (some (-1))
def impl_partAt.f (k : Nat) (l0 : List (S63)) (a1 : Int) : Option (Int) := impl_partAt.l0 k l0 a1 0
set_option maxHeartbeats 8000000 in
set_option maxRecDepth 100000 in
theorem impl_partAt.clo (A5 : Option Addr) (c5 : Nat) (q0 q1 q3 q4 q5 q6 : Int) (q2 : Nat) (a1 : Int) (gb : Nat) (w : World) (hg : w.cell? ⟨gb, 0, none⟩ = some (.int .i64 a1)) (hgl : gb < w.heap.size) :
    Calls Try.prog 69 #[.agg #[.int .i64 q0, .int .i64 q1, .slice A5 q2 c5, .int .i64 q3, .int .i64 q4, .int .i64 q5, .int .i64 q6], .pointer (some ⟨gb, 0, none⟩)] w fun e w' => e = .returned (.bool (q0 == a1)) ∧ Below w.heap.size w w' := by
  have hu36 := Try.underlying36
  have hu63 := Try.underlying63
  have HB := Aside0.mk (Below.refl w.heap.size w)
  go_enter Try.func69, Try.ntmps69
  go_wp2_with (first | ((with_reducible refine gate_dst (N := 2) rfl ?_); refine box_event ?hg (N := 2) ?hd (cs := #[.int .i64 q0, .int .i64 q1, .slice A5 q2 c5, .int .i64 q3, .int .i64 q4, .int .i64 q5, .int .i64 q6]) (t := 63) ?hr ?_; (case hd => rfl); (case hg => rfl); (case hr => first | (go_simp; done) | (go_simp; rfl)); intro gb1 hg1 w5 hbox hb; have hg5 := (hb.cell (p := ⟨gb, 0, none⟩) hgl).trans hg; have n0_ := Aside0.mk (below_step HB.out hb); have n1_ := Aside0.mk hbox; clear HB; have HB := n0_; have BK1 := n1_; clear n0_ n1_ hb hbox hg1; have hb1_ := (blk_cell BK1.out 0).trans rfl; clear hg))
  go_ret
  exact ⟨rfl, HB.out⟩
set_option maxHeartbeats 8000000 in
set_option maxRecDepth 100000 in
theorem impl_partAt.calls (k : Nat) (A0 : Option Addr) (c0 : Nat) (l0 : List (S63)) (a1 : Int) (r : Int) (w : World) (hr0 : Kd.C k63 w A0 l0.length l0) (hc0 : l0.length ≤ c0) (h : impl_partAt.f k l0 a1 = some r) :
    Calls Try.prog 42 #[.slice A0 l0.length c0, .int .i64 a1] w fun e w' => e = .returned (.int .i64 r) ∧ Below w.heap.size w w' := by
  have hu36 := Try.underlying36
  have hu63 := Try.underlying63
  have HR0 := Aside0.mk hr0
  clear hr0 hc0
  have HB := Aside0.mk (Below.refl w.heap.size w)
  have H' := Aside0.mk (show impl_partAt.l0 k l0 a1 0 = some r from h)
  clear h
  go_enter Try.func42, Try.ntmps42
  go_wp2_with (first | ((with_reducible refine gate_dst (N := 3) rfl ?_); refine box_event ?hg (N := 3) ?hd (cs := #[.int .i64 a1]) (t := 3) ?hr ?_; (case hd => rfl); (case hg => rfl); (case hr => first | (go_simp; done) | (go_simp; rfl)); intro gb hg1 w5 hbox hb; have n0_ := Aside0.mk (below_step HB.out hb); have n1_ := Aside0.mk hbox; clear HB; have HB := n0_; have BK1 := n1_; clear n0_ n1_ hb hbox hg1) | go_in)
  go_loopg [5, 8] k (fun kq v5 v8 w' => ∃ (x8_1 : Int), v8 = .int .i64 x8_1 ∧ Aside0 (impl_partAt.l0 kq l0 a1 x8_1 = some r) ∧ Aside0 (kq ≤ k) ∧ Aside0 (Below w.heap.size w w') ∧ Aside0 (w'.heap[gb]? = some (.cells #[.int .i64 a1] 3 (0, 0))))
  case atStart => exact ⟨0, (by first | rfl | (simp; done) | (simp [*]; done)), H', ⟨Nat.le_refl _⟩, HB, BK1⟩
  case round =>
    clear H' HB BK1
    try clear p2
    obtain ⟨x8_1, rfl, HA, HK1, HB, BK1⟩ := hrel
    cases gk with
    | zero => exact absurd HA.out (by simp [impl_partAt.l0])
    | succ k1 =>
      have H := HA.out
      clear HA
      simp only [impl_partAt.l0] at H
      by_cases c3 : x8_1 < (l0.length : Int)
      · rw [if_pos c3] at H
        have c3b0 : decide (x8_1 < (l0.length : Int)) = true := decide_eq_true c3
        clear c3
        by_cases c4 : 0 ≤ x8_1
        · rw [if_pos c4] at H
          have c4b0 : decide (0 ≤ x8_1) = true := decide_eq_true c4
          clear c4
          by_cases c5 : ((rd_T63 l0 x8_1).f0) = a1
          · rw [if_pos c5] at H
            have c5b0 : (((rd_T63 l0 x8_1).f0) == a1) = true := beq_iff_eq.mpr c5
            clear c5
            obtain rfl := Option.some.inj H
            have p1 : 0 ≤ (x8_1 : Int) := of_decide_eq_true (by first | (with_reducible assumption) | assumption)
            have q1 : x8_1 < (l0.length : Int) := of_decide_eq_true (by first | (with_reducible assumption) | assumption)
            obtain ⟨ad1, A1, c1, e1, hx0, hx1, hx2, hx3, hx4, hx5, hx6, hl1, hi1⟩ := at_T63 (Kd.C_below HR0.out HB.out) x8_1 p1 q1
            cases e1
            clear hl1 hi1
            replace p1 := eq_true p1
            replace q1 := eq_true q1
            go_wp2_with (first | (go_at_call 69; refine (impl_partAt.clo _ _ _ _ _ _ _ _ _ a1 gb _ ((blk_cell BK1.out 0).trans rfl) (blk_lt BK1.out)).mono ?_; rintro e w9 ⟨rfl, hb⟩; have n0_ := Aside0.mk (below_step (by repeat (first | (with_reducible first | exact HB.out | apply below_alloc | apply pw_below_drewN | apply below_drew1) | exact HB.out)) hb); have n1_ := Aside0.mk (blk_below BK1.out hb); clear HB BK1; have HB := n0_; have BK1 := n1_; clear n0_ n1_ hb))
            go_ret
            exact ⟨by first | rfl | (simp; done) | (simp [*]; done), HB.out⟩
          · rw [if_neg c5] at H
            have c5b0 : (((rd_T63 l0 x8_1).f0) == a1) = false := beq_eq_false_iff_ne.mpr c5
            have H' := Aside0.mk H
            clear H
            have p1 : 0 ≤ (x8_1 : Int) := of_decide_eq_true (by first | (with_reducible assumption) | assumption)
            have q1 : x8_1 < (l0.length : Int) := of_decide_eq_true (by first | (with_reducible assumption) | assumption)
            obtain ⟨ad1, A1, c1, e1, hx0, hx1, hx2, hx3, hx4, hx5, hx6, hl1, hi1⟩ := at_T63 (Kd.C_below HR0.out HB.out) x8_1 p1 q1
            cases e1
            clear hl1 hi1
            replace p1 := eq_true p1
            replace q1 := eq_true q1
            go_wp2_with (first | (go_at_call 69; refine (impl_partAt.clo _ _ _ _ _ _ _ _ _ a1 gb _ ((blk_cell BK1.out 0).trans rfl) (blk_lt BK1.out)).mono ?_; rintro e w9 ⟨rfl, hb⟩; have n0_ := Aside0.mk (below_step (by repeat (first | (with_reducible first | exact HB.out | apply below_alloc | apply pw_below_drewN | apply below_drew1) | exact HB.out)) hb); have n1_ := Aside0.mk (blk_below BK1.out hb); clear HB BK1; have HB := n0_; have BK1 := n1_; clear n0_ n1_ hb))
            go_roundg k1
            case measure => have := HK1.out; omega
            case rel => exact ⟨(wrap64 (x8_1 + 1)), (by first | rfl | (simp; done) | (simp [*]; done)), H', ⟨by have := HK1.out; omega⟩, HB, BK1⟩
        · rw [if_neg c4] at H
          exact absurd H (by simp)
      · rw [if_neg c3] at H
        have c3b0 : decide (x8_1 < (l0.length : Int)) = false := decide_eq_false c3
        clear c3
        obtain rfl := Option.some.inj H
        go_wp2
        go_ret
        exact ⟨by first | rfl | (simp; done) | (simp [*]; done), HB.out⟩


-- NOT PRINTED: function 70 (impl_Part_70)

-- NOT PRINTED: function 88 (impl_Part_88)

-- NOT PRINTED: function 84 (impl_Part_84)

-- NOT PRINTED: function 71 (impl_Part_71)

-- NOT PRINTED: function 43 (impl_Part_43)

end Go.Proofs.Ytlpfobakbgipbaa.QFnParts
