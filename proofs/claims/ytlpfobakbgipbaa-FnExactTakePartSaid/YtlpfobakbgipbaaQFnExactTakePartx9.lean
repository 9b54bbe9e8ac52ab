/- The Go functions that the law FnExactTakePart comes to, each as a Lean function, with a proof that the call does what it says; written by a program of this session over the print of the kit. No conditions. -/
import Derived.Test.YtlpfobakbgipbaaQFnExactTakePartx0
import Derived.Test.YtlpfobakbgipbaaQFnExactTakePartx4
import Derived.Test.YtlpfobakbgipbaaQFnExactTakePartx7
import Derived.Test.YtlpfobakbgipbaaQFnExactTakePartx8
namespace Go.Proofs.Ytlpfobakbgipbaa.QFnExactTakePart
open Go.RowKit Go.Proofs.YtlpfobakbgipbaaW.PrintWords Go.Proofs.YtlpfobakbgipbaaW.PrintLast Go.Proofs.YtlpfobakbgipbaaW.PrintMore
attribute [local go_sem] max2_int min2_int max_two min_two max_three min_three max_four min_four   -- for this text's walks alone
set_option linter.unusedVariables false
set_option linter.unusedSimpArgs false

/-! ### spec_IsStore: function 34 -/
def spec_IsStore.l0 : Nat → List (S63) → Int → Option (Bool)
  | 0, _, _ => none
  | k + 1, x0, x3 => if x3 < (x0.length : Int) then (if 0 ≤ x3 then ((spec_IsResource.f k ((rd_T63 x0 x3).f1.f0) ((rd_T63 x0 x3).f1.f1) ((rd_T63 x0 x3).f1.f2.f0) ((rd_T63 x0 x3).f1.f2.f1) ((rd_T63 x0 x3).f1.f2.f2)).bind fun t274 => (if t274 = true then ((spec_DigestOf.f k ((rd_T63 x0 x3).f1.f0) ((rd_T63 x0 x3).f1.f1) ((rd_T63 x0 x3).f1.f2.f0) ((rd_T63 x0 x3).f1.f2.f1) ((rd_T63 x0 x3).f1.f2.f2)).bind fun t277 => (if ((rd_T63 x0 x3).f0) = t277 then ((spec_l1In.f ((rd_T63 x0 x3).f2) 1 1000).bind fun t279 => (if t279 = true then (if x3 > 0 then (if 0 ≤ (wrap64 (x3 - 1)) then (if (wrap64 (x3 - 1)) < (x0.length : Int) then (if ((rd_T63 x0 (wrap64 (x3 - 1))).f0) ≥ ((rd_T63 x0 x3).f0) then (some false) else (spec_IsStore.l0 k x0 (wrap64 (x3 + 1)))) else (none)) else (none)) else (spec_IsStore.l0 k x0 (wrap64 (x3 + 1)))) else (some false))) else (some false))) else (some false))) else (none)) else (some (decide ((x0.length : Int) ≤ 30)))
def spec_IsStore.f (k : Nat) (l0 : List (S63)) : Option (Bool) := spec_IsStore.l0 k l0 0
theorem spec_IsStore.mono_l : ∀ k, (∀ y0 y1, LeO (spec_IsStore.l0 k y0 y1) (spec_IsStore.l0 (k + 1) y0 y1))
  | 0 => fun _ _ r h => by simp [spec_IsStore.l0] at h
  | k + 1 => by
    have ih0 := spec_IsStore.mono_l k
    · intro y0 y1
      unfold spec_IsStore.l0
      repeat' first
      | (with_reducible exact ih0 _ _)
      | (with_reducible exact spec_DigestOf.mono _ _ _ _ _ _)
      | (with_reducible exact spec_IsResource.mono _ _ _ _ _ _)
      | (with_reducible exact LeO.refl _)
      | (with_reducible exact LeO.none _)
      | (with_reducible refine LeO.ite ?_ ?_)
      | (with_reducible refine LeO.bind ?_ (fun _ => ?_))
      | exact ih0 _ _
      | exact spec_DigestOf.mono _ _ _ _ _ _
      | exact spec_IsResource.mono _ _ _ _ _ _
      | exact LeO.none _
      | refine LeO.ite ?_ ?_
      | refine LeO.bind ?_ (fun _ => ?_)
theorem spec_IsStore.mono : ∀ a0 k, LeO (spec_IsStore.f k a0) (spec_IsStore.f (k + 1) a0) := by
  intro a0 k
  have ih0 := spec_IsStore.mono_l k
  unfold spec_IsStore.f
  repeat' first
      | (with_reducible exact ih0 _ _)
      | (with_reducible exact spec_DigestOf.mono _ _ _ _ _ _)
      | (with_reducible exact spec_IsResource.mono _ _ _ _ _ _)
      | (with_reducible exact LeO.refl _)
      | (with_reducible exact LeO.none _)
      | (with_reducible refine LeO.ite ?_ ?_)
      | (with_reducible refine LeO.bind ?_ (fun _ => ?_))
      | exact ih0 _ _
      | exact spec_DigestOf.mono _ _ _ _ _ _
      | exact spec_IsResource.mono _ _ _ _ _ _
      | exact LeO.none _
      | refine LeO.ite ?_ ?_
      | refine LeO.bind ?_ (fun _ => ?_)
def spec_IsStore.T4 : Bool × List (List Nat × List Nat) := (true, [([], []), ([], []), ([0, 1], [0, 1]), ([2], [2]), ([3], [3]), ([4], [4]), ([5], [5]), ([6, 5], [6]), ([7], [7]), ([7], [7]), ([8, 9, 7], [7, 8, 9]), ([10, 7], [7, 10]), ([11, 7], [7, 11]), ([7], [7]), ([7], [7]), ([13, 14, 7], [7, 13, 14]), ([15, 7], [7, 15]), ([16, 7], [7, 16]), ([17, 7, 7], [7, 17]), ([12, 18, 7], [7, 12, 18]), ([7, 19], [7, 19]), ([20, 18], [20]), ([21], [21]), ([21], [21]), ([22, 23, 21], [21, 22, 23]), ([24, 21], [21, 24]), ([25, 21], [21, 25]), ([26, 21, 21], [21, 26]), ([27, 21], [21, 27]), ([21, 28], [21, 28]), ([29, 27], [29]), ([30], [30]), ([31, 30], [30, 31]), ([32, 30, 30], [30, 32]), ([33], [33]), ([33], [33]), ([35, 33], [33, 35]), ([34, 36, 33], [33, 34, 36]), ([37, 33], [33, 37]), ([38, 33], [33, 38]), ([33], [33]), ([33], [33]), ([40, 41, 33], [33, 40, 41]), ([42, 33], [33, 42]), ([43, 33], [33, 43]), ([39, 44, 33], [33, 39, 44]), ([33, 45, 30], [30, 33, 45]), ([30, 46], [30, 46])])
def spec_IsStore.B4 : List Nat := [0, 0, 3, 7, 15, 31, 63, 127, 255, 255, 1023, 2047, 4095, 255, 255, 24831, 57599, 123135, 254207, 524287, 1048575, 2097151, 4194303, 4194303, 16777215, 33554431, 67108863, 134217727, 268435455, 536870911, 1073741823, 2147483647, 4294967295, 8589934591, 17179869183, 17179869183, 51539607551, 137438953471, 274877906943, 549755813887, 17179869183, 17179869183, 3315714752511, 7713761263615, 16509854285823, 35184372088831, 70368744177663, 140737488355327]
theorem spec_IsStore.tab4 : rtab .any (opsOf Try.f34 4) = spec_IsStore.T4 := by kernel_rfl
theorem spec_IsStore.bits4 : waitsOk spec_IsStore.T4.2 spec_IsStore.B4 = true := by kernel_rfl
set_option maxHeartbeats 8000000 in
set_option maxRecDepth 100000 in
theorem spec_IsStore.calls (k : Nat) (A0 : Option Addr) (c0 : Nat) (l0 : List (S63)) (r : Bool) (w : World) (hr0 : Kd.C k63 w A0 l0.length l0) (hc0 : l0.length ≤ c0) (h : spec_IsStore.f k l0 = some r) :
    Calls Try.prog 34 #[.slice A0 l0.length c0] w fun e w' => e = .returned (.bool r) ∧ Below w.heap.size w w' := by
  have hu63 := Try.underlying63
  have hu36 := Try.underlying36
  have HR0 := Aside0.mk hr0
  have HM := Aside0.mk (Kd.C_max hr0)
  clear hr0 hc0
  have HB := Aside0.mk (Below.refl w.heap.size w)
  have H' := Aside0.mk (show spec_IsStore.l0 k l0 0 = some r from h)
  clear h
  go_enter Try.func34, Try.ntmps34
  go_wp2
  go_loopg [3] k (fun kq v3 w' => ∃ (x3_1 : Int), v3 = .int .i64 x3_1 ∧ Aside0 (spec_IsStore.l0 kq l0 x3_1 = some r) ∧ Aside0 (kq ≤ k) ∧ Aside0 (Below w.heap.size w w'))
  case atStart => exact ⟨0, (by first | rfl | (simp; done)), H', ⟨Nat.le_refl _⟩, HB⟩
  case round =>
    clear H' HB
    try clear p2
    obtain ⟨i, rfl, HA, HK1, HB⟩ := hrel
    cases gk with
    | zero => exact absurd HA.out (by simp [spec_IsStore.l0])
    | succ k1 =>
      have H := HA.out
      clear HA
      simp only [spec_IsStore.l0] at H
      by_cases c3 : i < (l0.length : Int)
      · rw [if_pos c3] at H
        by_cases c4 : 0 ≤ i
        · rw [if_pos c4] at H
          have c3b0 : decide (i < (l0.length : Int)) = true := decide_eq_true c3
          obtain ⟨ad, A2, c2, e2, hx0, hx1, hx2, hx3, hx4, hx5, hx6, hl2, hi2⟩ := at_T63 HR0.out i c4 c3
          cases e2
          have HJ : ∃ aj dj, w.cell? aj = some (.int .i64 dj) ∧ (i > 0 → aj = ad.add ((wrap64 (i - 1)).toNat * 7) ∧ dj = (rd_T63 l0 (wrap64 (i - 1))).f0 ∧ 0 ≤ wrap64 (i - 1) ∧ wrap64 (i - 1) < (l0.length : Int)) := by
            by_cases c6 : i > 0
            · have e : wrap64 (i - 1) = i - 1 := by have := HM.out; rw [wrap_id (by omega) (by omega)]
              obtain ⟨ad1, _, _, e2, hy, _, _, _, _, _, _, _, _⟩ := at_T63 HR0.out (wrap64 (i - 1)) (by omega) (by omega)
              obtain rfl : ad = ad1 := by injection e2
              exact ⟨_, _, hy, fun _ => ⟨rfl, rfl, by omega, by omega⟩⟩
            · exact ⟨_, _, hx0, fun h => absurd h c6⟩
          obtain ⟨aj, dj, hy, HJ⟩ := HJ
          replace HJ := Aside0.mk HJ
          obtain ⟨⟨d, ⟨kd, bd, ⟨ho, pa, qu⟩⟩, us⟩, hx⟩ : ∃ x, rd_T63 l0 i = x := ⟨_, rfl⟩
          simp only [hx] at H hx0 hx1 hx2 hx3 hx4 hx5 hx6 hi2 hl2
          have PF := Aside0.mk (fun w' (hb : Below w.heap.size w w') => (show w'.cell? (ad.add (i.toNat * 7)) = some (.int .i64 d) ∧ w'.cell? ⟨(ad.add (i.toNat * 7)).block, (ad.add (i.toNat * 7)).off + 1, none⟩ = some (.int .i64 kd) ∧ w'.cell? ⟨(ad.add (i.toNat * 7)).block, (ad.add (i.toNat * 7)).off + 2, none⟩ = some (.slice A2 bd.length c2) ∧ w'.cell? ⟨(ad.add (i.toNat * 7)).block, (ad.add (i.toNat * 7)).off + 3, none⟩ = some (.int .i64 ho) ∧ w'.cell? ⟨(ad.add (i.toNat * 7)).block, (ad.add (i.toNat * 7)).off + 4, none⟩ = some (.int .i64 pa) ∧ w'.cell? ⟨(ad.add (i.toNat * 7)).block, (ad.add (i.toNat * 7)).off + 5, none⟩ = some (.int .i64 qu) ∧ w'.cell? ⟨(ad.add (i.toNat * 7)).block, (ad.add (i.toNat * 7)).off + 6, none⟩ = some (.int .i64 us) ∧ w'.cell? aj = some (.int .i64 dj) from by obtain ⟨h0, h1, h2, h3, h4, h5, h6⟩ := cells7 hb hx0 hx1 hx2 hx3 hx4 hx5 hx6; exact ⟨h0, h1, h2, h3, h4, h5, h6, cell_on hb hy⟩))
          have HR2 := Aside0.mk hi2
          have HC2 := Aside0.mk hl2
          clear hi2 hl2 hx hx0 hx1 hx2 hx3 hx4 hx5 hx6 hy
          have c4b := eq_true c4
          have c3b := eq_true c3
          have HH := Aside0.mk H
          clear H
          go_wp2
          have H := HH.out
          clear HH
          have n0_ := Aside0.mk (below_drew1 HB.out)
          clear HB
          have HB := n0_
          clear n0_
          refine start_ (n := 48) (S := fun w' => w'.cell? (ad.add (i.toNat * 7)) = some (.int .i64 d) ∧ w'.cell? ⟨(ad.add (i.toNat * 7)).block, (ad.add (i.toNat * 7)).off + 1, none⟩ = some (.int .i64 kd) ∧ w'.cell? ⟨(ad.add (i.toNat * 7)).block, (ad.add (i.toNat * 7)).off + 2, none⟩ = some (.slice A2 bd.length c2) ∧ w'.cell? ⟨(ad.add (i.toNat * 7)).block, (ad.add (i.toNat * 7)).off + 3, none⟩ = some (.int .i64 ho) ∧ w'.cell? ⟨(ad.add (i.toNat * 7)).block, (ad.add (i.toNat * 7)).off + 4, none⟩ = some (.int .i64 pa) ∧ w'.cell? ⟨(ad.add (i.toNat * 7)).block, (ad.add (i.toNat * 7)).off + 5, none⟩ = some (.int .i64 qu) ∧ w'.cell? ⟨(ad.add (i.toNat * 7)).block, (ad.add (i.toNat * 7)).off + 6, none⟩ = some (.int .i64 us) ∧ w'.cell? aj = some (.int .i64 dj)) (ds := []) (mk 48 0) (by kernel_rfl) rfl rfl (PF.out _ HB.out) (fun hHeld => ?_)
          refine with_tabW spec_IsStore.tab4 spec_IsStore.bits4 (fun HT_ HW_ => ?_)
          replace H := Option.bind_eq_some_iff.mp H
          obtain ⟨t1, A15, H⟩ := H
          have A15 := Aside0.mk A15
          refine on_ 0 10 (mk 48 0x1) ?_
          refine on_ 1 11 (mk 48 0x3) ?_
          refine on_ 2 12 (mk 48 0x7) ?_
          refine on_ 3 13 (mk 48 0xF) ?_
          refine rd_ 4 14 (mk 48 0x1F) ?_
          refine cl_ 5 15 (mk 48 0x3F) Try.func66 #[.agg #[.int .i64 kd, .slice A2 bd.length c2, .int .i64 ho, .int .i64 pa, .int .i64 qu]] ?_
          refine (spec_IsResource.calls k1 kd _ _ bd ho pa qu _ _ (Kd.C_below HR2.out HB.out) HC2.out A15.out).mono ?_
          rintro e w25 ⟨rfl, hb⟩
          have n0_ := Aside0.mk (below_step HB.out hb)
          clear HB
          have HB := n0_
          clear n0_
          refine ⟨_, rfl, PF.out _ HB.out, fun hHeld => nm_ ?_⟩
          by_cases c1 : t1 = true
          · rw [if_pos c1] at H
            subst c1
            replace H := Option.bind_eq_some_iff.mp H
            obtain ⟨t2, A17, H⟩ := H
            have A17 := Aside0.mk A17
            refine on_ 6 16 (mk 48 0x7F) ?_
            refine on_ 7 17 (mk 48 0xFF) ?_
            refine on_ 8 18 (mk 48 0x1FF) ?_
            refine on_ 9 19 (mk 48 0x3FF) ?_
            refine on_ 10 20 (mk 48 0x7FF) ?_
            refine on_ 11 21 (mk 48 0xFFF) ?_
            refine on_ 13 23 (mk 48 0x2FFF) ?_
            refine on_ 14 24 (mk 48 0x6FFF) ?_
            refine on_ 15 25 (mk 48 0xEFFF) ?_
            refine on_ 16 26 (mk 48 0x1EFFF) ?_
            refine rd_ 12 22 (mk 48 0x1FFFF) ?_
            refine rd_ 17 27 (mk 48 0x3FFFF) ?_
            refine cl_ 18 28 (mk 48 0x7FFFF) Try.func23 #[.agg #[.int .i64 kd, .slice A2 bd.length c2, .int .i64 ho, .int .i64 pa, .int .i64 qu]] ?_
            refine (spec_DigestOf.calls k1 kd _ _ bd ho pa qu _ _ (Kd.C_below HR2.out HB.out) HC2.out A17.out).mono ?_
            rintro e w26 ⟨rfl, hb⟩
            have n0_ := Aside0.mk (below_step HB.out hb)
            clear HB
            have HB := n0_
            clear n0_
            refine ⟨_, rfl, PF.out _ HB.out, fun hHeld => nm_ ?_⟩
            by_cases c5 : d = t2
            · rw [if_pos c5] at H
              have c2b : (d != t2) = false := bne_eq_false_iff_eq.mpr c5
              replace H := Option.bind_eq_some_iff.mp H
              obtain ⟨t3, A19, H⟩ := H
              have A19 := Aside0.mk A19
              refine on_ 19 29 (mk 48 0xFFFFF) ?_
              refine on_ 20 30 (mk 48 0x1FFFFF) ?_
              refine on_ 21 31 (mk 48 0x3FFFFF) ?_
              refine on_ 22 32 (mk 48 0x7FFFFF) ?_
              refine on_ 23 33 (mk 48 0xFFFFFF) ?_
              refine on_ 24 34 (mk 48 0x1FFFFFF) ?_
              refine on_ 25 35 (mk 48 0x3FFFFFF) ?_
              refine rd_ 26 36 (mk 48 0x7FFFFFF) ?_
              refine cl_ 27 37 (mk 48 0xFFFFFFF) Try.func67 #[.int .i64 us, .int .i64 1, .int .i64 1000] ?_
              refine (spec_l1In.calls us 1 1000 _ _ A19.out).mono ?_
              rintro e w27 ⟨rfl, hdr⟩
              have hb := hdr.below
              have n0_ := Aside0.mk (below_step HB.out hb)
              clear HB
              have HB := n0_
              clear n0_
              refine ⟨_, rfl, PF.out _ HB.out, fun hHeld => nm_ ?_⟩
              by_cases c7 : t3 = true
              · rw [if_pos c7] at H
                subst c7
                by_cases c6 : i > 0
                · rw [if_pos c6] at H
                  have c6b0 : decide (0 < i) = true := decide_eq_true c6
                  obtain ⟨ej, edj, hj0, hj1⟩ := HJ.out c6
                  clear c6
                  subst ej
                  rw [if_pos hj0, if_pos hj1, ← edj] at H
                  have hjw : IntKind.i64.wrap (i - 1) = wrap64 (i - 1) := i64_w _
                  generalize wrap64 (i - 1) = j at *
                  replace hj0 := eq_true hj0
                  replace hj1 := eq_true hj1
                  by_cases c10 : dj ≥ d
                  · rw [if_pos c10] at H
                    have c10b : decide (dj ≥ d) = true := decide_eq_true c10
                    have c10c : decide (d ≤ dj) = true := c10b
                    obtain rfl := Option.some.inj H
                    clear H
                    refine on_ 28 38 (mk 48 0x1FFFFFFF) ?_
                    refine on_ 29 39 (mk 48 0x3FFFFFFF) ?_
                    refine on_ 30 40 (mk 48 0x7FFFFFFF) ?_
                    refine on_ 31 41 (mk 48 0xFFFFFFFF) ?_
                    refine on_ 32 42 (mk 48 0x1FFFFFFFF) ?_
                    refine on_ 33 43 (mk 48 0x3FFFFFFFF) ?_
                    refine on_ 34 44 (mk 48 0x7FFFFFFFF) ?_
                    refine on_ 35 45 (mk 48 0xFFFFFFFFF) ?_
                    refine on_ 36 46 (mk 48 0x1FFFFFFFFF) ?_
                    refine on_ 37 47 (mk 48 0x3FFFFFFFFF) ?_
                    refine on_ 38 48 (mk 48 0x7FFFFFFFFF) ?_
                    refine on_ 40 50 (mk 48 0x17FFFFFFFFF) ?_
                    refine on_ 41 51 (mk 48 0x37FFFFFFFFF) ?_
                    refine on_ 42 52 (mk 48 0x77FFFFFFFFF) ?_
                    refine on_ 43 53 (mk 48 0xF7FFFFFFFFF) ?_
                    refine rd_ 39 49 (mk 48 0xFFFFFFFFFFF) ?_
                    refine rd_ 44 54 (mk 48 0x1FFFFFFFFFFF) ?_
                    refine on_ 45 55 (mk 48 0x3FFFFFFFFFFF) ?_
                    refine on_ 46 56 (mk 48 0x7FFFFFFFFFFF) ?_
                    refine on_ 47 57 (mk 48 0xFFFFFFFFFFFF) ?_
                    refine dn_ ?_
                    go_wp2
                    go_ret
                    exact ⟨(by first | rfl | (simp [errW_none, errW_some] <;> rfl) | (simp [*, errW_none, errW_some] <;> rfl)), (by repeat (first | (with_reducible first | exact HB.out | apply below_alloc | apply pw_below_drewN | apply below_drew1) | exact HB.out))⟩
                  · rw [if_neg c10] at H
                    have c10b : decide (dj ≥ d) = false := decide_eq_false c10
                    have c10c : decide (d ≤ dj) = false := c10b
                    refine on_ 28 38 (mk 48 0x1FFFFFFF) ?_
                    refine on_ 29 39 (mk 48 0x3FFFFFFF) ?_
                    refine on_ 30 40 (mk 48 0x7FFFFFFF) ?_
                    refine on_ 31 41 (mk 48 0xFFFFFFFF) ?_
                    refine on_ 32 42 (mk 48 0x1FFFFFFFF) ?_
                    refine on_ 33 43 (mk 48 0x3FFFFFFFF) ?_
                    refine on_ 34 44 (mk 48 0x7FFFFFFFF) ?_
                    refine on_ 35 45 (mk 48 0xFFFFFFFFF) ?_
                    refine on_ 36 46 (mk 48 0x1FFFFFFFFF) ?_
                    refine on_ 37 47 (mk 48 0x3FFFFFFFFF) ?_
                    refine on_ 38 48 (mk 48 0x7FFFFFFFFF) ?_
                    refine on_ 40 50 (mk 48 0x17FFFFFFFFF) ?_
                    refine on_ 41 51 (mk 48 0x37FFFFFFFFF) ?_
                    refine on_ 42 52 (mk 48 0x77FFFFFFFFF) ?_
                    refine on_ 43 53 (mk 48 0xF7FFFFFFFFF) ?_
                    refine rd_ 39 49 (mk 48 0xFFFFFFFFFFF) ?_
                    refine rd_ 44 54 (mk 48 0x1FFFFFFFFFFF) ?_
                    refine on_ 45 55 (mk 48 0x3FFFFFFFFFFF) ?_
                    refine on_ 46 56 (mk 48 0x7FFFFFFFFFFF) ?_
                    refine on_ 47 57 (mk 48 0xFFFFFFFFFFFF) ?_
                    refine dn_ ?_
                    have H' := Aside0.mk H
                    clear H
                    go_wp2
                    go_roundg k1
                    case measure => have := HK1.out; omega
                    case rel => exact ⟨wrap64 (i + 1), (by first | rfl | (simp; done) | (simp [*]; done)), H', ⟨by have := HK1.out; omega⟩, ⟨(by repeat (first | (with_reducible first | exact HB.out | apply below_alloc | apply pw_below_drewN | apply below_drew1) | exact HB.out))⟩⟩
                · rw [if_neg c6] at H
                  have c6b0 : decide (0 < i) = false := decide_eq_false c6
                  clear c6
                  refine on_ 28 38 (mk 48 0x1FFFFFFF) ?_
                  refine on_ 29 39 (mk 48 0x3FFFFFFF) ?_
                  refine on_ 30 40 (mk 48 0x7FFFFFFF) ?_
                  refine on_ 31 41 (mk 48 0xFFFFFFFF) ?_
                  refine on_ 32 42 (mk 48 0x1FFFFFFFF) ?_
                  refine on_ 33 43 (mk 48 0x3FFFFFFFF) ?_
                  refine of_ 34 44 (mk 48 0x7FFFFFFFF) ?_
                  refine of_ 35 45 (mk 48 0xFFFFFFFFF) ?_
                  refine of_ 36 46 (mk 48 0x1FFFFFFFFF) ?_
                  refine of_ 37 47 (mk 48 0x3FFFFFFFFF) ?_
                  refine of_ 38 48 (mk 48 0x7FFFFFFFFF) ?_
                  refine of_ 39 49 (mk 48 0xFFFFFFFFFF) ?_
                  refine of_ 40 50 (mk 48 0x1FFFFFFFFFF) ?_
                  refine of_ 41 51 (mk 48 0x3FFFFFFFFFF) ?_
                  refine of_ 42 52 (mk 48 0x7FFFFFFFFFF) ?_
                  refine of_ 43 53 (mk 48 0xFFFFFFFFFFF) ?_
                  refine of_ 44 54 (mk 48 0x1FFFFFFFFFFF) ?_
                  refine of_ 45 55 (mk 48 0x3FFFFFFFFFFF) ?_
                  refine on_ 46 56 (mk 48 0x7FFFFFFFFFFF) ?_
                  refine on_ 47 57 (mk 48 0xFFFFFFFFFFFF) ?_
                  refine dn_ ?_
                  have H' := Aside0.mk H
                  clear H
                  go_wp2
                  go_roundg k1
                  case measure => have := HK1.out; omega
                  case rel => exact ⟨wrap64 (i + 1), (by first | rfl | (simp; done) | (simp [*]; done)), H', ⟨by have := HK1.out; omega⟩, ⟨(by repeat (first | (with_reducible first | exact HB.out | apply below_alloc | apply pw_below_drewN | apply below_drew1) | exact HB.out))⟩⟩
              · rw [if_neg c7] at H
                replace c7 := Bool.eq_false_iff.mpr c7
                subst c7
                obtain rfl := Option.some.inj H
                clear H
                refine on_ 28 38 (mk 48 0x1FFFFFFF) ?_
                refine on_ 29 39 (mk 48 0x3FFFFFFF) ?_
                refine on_ 30 40 (mk 48 0x7FFFFFFF) ?_
                refine of_ 31 41 (mk 48 0xFFFFFFFF) ?_
                refine of_ 32 42 (mk 48 0x1FFFFFFFF) ?_
                refine of_ 33 43 (mk 48 0x3FFFFFFFF) ?_
                refine of_ 34 44 (mk 48 0x7FFFFFFFF) ?_
                refine of_ 35 45 (mk 48 0xFFFFFFFFF) ?_
                refine of_ 36 46 (mk 48 0x1FFFFFFFFF) ?_
                refine of_ 37 47 (mk 48 0x3FFFFFFFFF) ?_
                refine of_ 38 48 (mk 48 0x7FFFFFFFFF) ?_
                refine of_ 39 49 (mk 48 0xFFFFFFFFFF) ?_
                refine of_ 40 50 (mk 48 0x1FFFFFFFFFF) ?_
                refine of_ 41 51 (mk 48 0x3FFFFFFFFFF) ?_
                refine of_ 42 52 (mk 48 0x7FFFFFFFFFF) ?_
                refine of_ 43 53 (mk 48 0xFFFFFFFFFFF) ?_
                refine of_ 44 54 (mk 48 0x1FFFFFFFFFFF) ?_
                refine of_ 45 55 (mk 48 0x3FFFFFFFFFFF) ?_
                refine of_ 46 56 (mk 48 0x7FFFFFFFFFFF) ?_
                refine on_ 47 57 (mk 48 0xFFFFFFFFFFFF) ?_
                refine dn_ ?_
                go_wp2
                go_ret
                exact ⟨(by first | rfl | (simp [errW_none, errW_some] <;> rfl) | (simp [*, errW_none, errW_some] <;> rfl)), (by repeat (first | (with_reducible first | exact HB.out | apply below_alloc | apply pw_below_drewN | apply below_drew1) | exact HB.out))⟩
            · rw [if_neg c5] at H
              have c2b : (d != t2) = true := bne_iff_ne.mpr c5
              obtain rfl := Option.some.inj H
              clear H
              refine on_ 19 29 (mk 48 0xFFFFF) ?_
              refine on_ 20 30 (mk 48 0x1FFFFF) ?_
              refine on_ 21 31 (mk 48 0x3FFFFF) ?_
              refine of_ 22 32 (mk 48 0x7FFFFF) ?_
              refine of_ 23 33 (mk 48 0xFFFFFF) ?_
              refine of_ 24 34 (mk 48 0x1FFFFFF) ?_
              refine of_ 25 35 (mk 48 0x3FFFFFF) ?_
              refine of_ 26 36 (mk 48 0x7FFFFFF) ?_
              refine of_ 27 37 (mk 48 0xFFFFFFF) ?_
              refine of_ 28 38 (mk 48 0x1FFFFFFF) ?_
              refine on_ 29 39 (mk 48 0x3FFFFFFF) ?_
              refine on_ 30 40 (mk 48 0x7FFFFFFF) ?_
              refine of_ 31 41 (mk 48 0xFFFFFFFF) ?_
              refine of_ 32 42 (mk 48 0x1FFFFFFFF) ?_
              refine of_ 33 43 (mk 48 0x3FFFFFFFF) ?_
              refine of_ 34 44 (mk 48 0x7FFFFFFFF) ?_
              refine of_ 35 45 (mk 48 0xFFFFFFFFF) ?_
              refine of_ 36 46 (mk 48 0x1FFFFFFFFF) ?_
              refine of_ 37 47 (mk 48 0x3FFFFFFFFF) ?_
              refine of_ 38 48 (mk 48 0x7FFFFFFFFF) ?_
              refine of_ 39 49 (mk 48 0xFFFFFFFFFF) ?_
              refine of_ 40 50 (mk 48 0x1FFFFFFFFFF) ?_
              refine of_ 41 51 (mk 48 0x3FFFFFFFFFF) ?_
              refine of_ 42 52 (mk 48 0x7FFFFFFFFFF) ?_
              refine of_ 43 53 (mk 48 0xFFFFFFFFFFF) ?_
              refine of_ 44 54 (mk 48 0x1FFFFFFFFFFF) ?_
              refine of_ 45 55 (mk 48 0x3FFFFFFFFFFF) ?_
              refine of_ 46 56 (mk 48 0x7FFFFFFFFFFF) ?_
              refine on_ 47 57 (mk 48 0xFFFFFFFFFFFF) ?_
              refine dn_ ?_
              go_wp2
              go_ret
              exact ⟨(by first | rfl | (simp [errW_none, errW_some] <;> rfl) | (simp [*, errW_none, errW_some] <;> rfl)), (by repeat (first | (with_reducible first | exact HB.out | apply below_alloc | apply pw_below_drewN | apply below_drew1) | exact HB.out))⟩
          · rw [if_neg c1] at H
            replace c1 := Bool.eq_false_iff.mpr c1
            subst c1
            obtain rfl := Option.some.inj H
            clear H
            refine on_ 6 16 (mk 48 0x7F) ?_
            refine on_ 7 17 (mk 48 0xFF) ?_
            refine of_ 8 18 (mk 48 0x1FF) ?_
            refine of_ 9 19 (mk 48 0x3FF) ?_
            refine of_ 10 20 (mk 48 0x7FF) ?_
            refine of_ 11 21 (mk 48 0xFFF) ?_
            refine of_ 12 22 (mk 48 0x1FFF) ?_
            refine of_ 13 23 (mk 48 0x3FFF) ?_
            refine of_ 14 24 (mk 48 0x7FFF) ?_
            refine of_ 15 25 (mk 48 0xFFFF) ?_
            refine of_ 16 26 (mk 48 0x1FFFF) ?_
            refine of_ 17 27 (mk 48 0x3FFFF) ?_
            refine of_ 18 28 (mk 48 0x7FFFF) ?_
            refine of_ 19 29 (mk 48 0xFFFFF) ?_
            refine on_ 20 30 (mk 48 0x1FFFFF) ?_
            refine on_ 21 31 (mk 48 0x3FFFFF) ?_
            refine of_ 22 32 (mk 48 0x7FFFFF) ?_
            refine of_ 23 33 (mk 48 0xFFFFFF) ?_
            refine of_ 24 34 (mk 48 0x1FFFFFF) ?_
            refine of_ 25 35 (mk 48 0x3FFFFFF) ?_
            refine of_ 26 36 (mk 48 0x7FFFFFF) ?_
            refine of_ 27 37 (mk 48 0xFFFFFFF) ?_
            refine of_ 28 38 (mk 48 0x1FFFFFFF) ?_
            refine on_ 29 39 (mk 48 0x3FFFFFFF) ?_
            refine on_ 30 40 (mk 48 0x7FFFFFFF) ?_
            refine of_ 31 41 (mk 48 0xFFFFFFFF) ?_
            refine of_ 32 42 (mk 48 0x1FFFFFFFF) ?_
            refine of_ 33 43 (mk 48 0x3FFFFFFFF) ?_
            refine of_ 34 44 (mk 48 0x7FFFFFFFF) ?_
            refine of_ 35 45 (mk 48 0xFFFFFFFFF) ?_
            refine of_ 36 46 (mk 48 0x1FFFFFFFFF) ?_
            refine of_ 37 47 (mk 48 0x3FFFFFFFFF) ?_
            refine of_ 38 48 (mk 48 0x7FFFFFFFFF) ?_
            refine of_ 39 49 (mk 48 0xFFFFFFFFFF) ?_
            refine of_ 40 50 (mk 48 0x1FFFFFFFFFF) ?_
            refine of_ 41 51 (mk 48 0x3FFFFFFFFFF) ?_
            refine of_ 42 52 (mk 48 0x7FFFFFFFFFF) ?_
            refine of_ 43 53 (mk 48 0xFFFFFFFFFFF) ?_
            refine of_ 44 54 (mk 48 0x1FFFFFFFFFFF) ?_
            refine of_ 45 55 (mk 48 0x3FFFFFFFFFFF) ?_
            refine of_ 46 56 (mk 48 0x7FFFFFFFFFFF) ?_
            refine on_ 47 57 (mk 48 0xFFFFFFFFFFFF) ?_
            refine dn_ ?_
            go_wp2
            go_ret
            exact ⟨(by first | rfl | (simp [errW_none, errW_some] <;> rfl) | (simp [*, errW_none, errW_some] <;> rfl)), (by repeat (first | (with_reducible first | exact HB.out | apply below_alloc | apply pw_below_drewN | apply below_drew1) | exact HB.out))⟩
        · rw [if_neg c4] at H
          exact absurd H (by simp)
      · rw [if_neg c3] at H
        have c3b0 : decide (i < (l0.length : Int)) = false := decide_eq_false c3
        obtain rfl := Option.some.inj H
        clear c3 H
        go_wp2
        go_ret
        exact ⟨(by first | rfl | (simp [errW_none, errW_some] <;> rfl) | (simp [*, errW_none, errW_some] <;> rfl)), (by repeat (first | (with_reducible first | exact HB.out | apply below_alloc | apply pw_below_drewN | apply below_drew1) | exact HB.out))⟩

/-! ### spec_l5Copy: function 37 -/
def spec_l5Copy.f (a0_0 : Int) (l0_1 : List Int) (a0_2 : Int) (a0_3 : Int) (a0_4 : Int) : Option (Int × List Int × Int × Int × Int) := (some (([] : List Int) : List Int)).bind fun y284 => (if y284.length + l0_1.length < 17592186044416 then (some (a0_0, (y284 ++ l0_1), a0_2, a0_3, a0_4)) else (none))
def spec_l5Copy.T1 : Bool × List (List Nat × List Nat) := (true, [([], []), ([0], [0]), ([], []), ([], []), ([3], [3]), ([2, 4], [2, 4]), ([], []), ([6], [6]), ([1, 5, 7], [1, 5, 7]), ([8, 5, 0, 1, 2, 3, 4, 5, 6, 7, 8], [8])])
def spec_l5Copy.B1 : List Nat := [0, 1, 0, 0, 8, 28, 0, 64, 255, 511]
theorem spec_l5Copy.tab1 : rtab .any (opsOf Try.f37 1) = spec_l5Copy.T1 := by kernel_rfl
theorem spec_l5Copy.bits1 : waitsOk spec_l5Copy.T1.2 spec_l5Copy.B1 = true := by kernel_rfl
set_option maxHeartbeats 8000000 in
set_option maxRecDepth 100000 in
theorem spec_l5Copy.calls (a0_0 : Int) (A0_1 : Option Addr) (c0_1 : Nat) (l0_1 : List Int) (a0_2 : Int) (a0_3 : Int) (a0_4 : Int) (r1 : Int) (r2 : List Int) (r3 : Int) (r4 : Int) (r5 : Int) (w : World) (hr0_1 : Kd.C (Kd.int .i64) w A0_1 l0_1.length l0_1) (hc0_1 : l0_1.length ≤ c0_1) (h : spec_l5Copy.f a0_0 l0_1 a0_2 a0_3 a0_4 = some (r1, r2, r3, r4, r5)) :
    Calls Try.prog 37 #[.agg #[.int .i64 a0_0, .slice A0_1 l0_1.length c0_1, .int .i64 a0_2, .int .i64 a0_3, .int .i64 a0_4]] w fun e w' => ∃ v1_ : Value, e = .returned (.agg #[.int .i64 r1, v1_, .int .i64 r3, .int .i64 r4, .int .i64 r5]) ∧ Kd.R (Kd.int .i64) 3 w' w.heap.size (fun _ => True) v1_ r2 ∧ Below w.heap.size w w' := by
  have hu36 := Try.underlying36
  have hu34 := Try.underlying34
  have HR0_1 := Aside0.mk hr0_1
  have HC0_1 := Aside0.mk hc0_1
  clear hr0_1 hc0_1
  have HB := Aside0.mk (Below.refl w.heap.size w)
  have H : ((some (([] : List Int) : List Int)).bind fun y284 => (if y284.length + l0_1.length < 17592186044416 then (some (a0_0, (y284 ++ l0_1), a0_2, a0_3, a0_4)) else (none))) = some (r1, r2, r3, r4, r5) := h
  clear h
  obtain ⟨y284, hy284⟩ : ∃ y_ : List Int, y_ = (([] : List Int)) := ⟨_, rfl⟩
  replace H : (if y284.length + l0_1.length < 17592186044416 then (some (a0_0, (y284 ++ l0_1), a0_2, a0_3, a0_4)) else (none)) = some (r1, r2, r3, r4, r5) := by first | (rw [hy284]; with_reducible exact H) | (have H2_ := (Option.bind_some _ _).symm.trans H; rw [hy284]; with_reducible exact H2_) | (have H2_ := (Option.bind_some _ _).symm.trans H; with_reducible exact H2_) | with_reducible exact H | (rw [hy284]; exact H) | exact H
  have Ny284 := Aside0.mk hy284
  clear hy284
  by_cases c2 : y284.length + l0_1.length < 17592186044416
  · rw [if_pos c2] at H
    have LMc2 := Aside0.mk c2
    clear c2
    obtain ⟨y287, hy287⟩ : ∃ y_ : List Int, y_ = (y284 ++ l0_1) := ⟨_, rfl⟩
    replace H : (some (a0_0, y287, a0_2, a0_3, a0_4)) = some (r1, r2, r3, r4, r5) := by first | (rw [hy287]; with_reducible exact H) | (have H2_ := (Option.bind_some _ _).symm.trans H; rw [hy287]; with_reducible exact H2_) | (have H2_ := (Option.bind_some _ _).symm.trans H; with_reducible exact H2_) | with_reducible exact H | (rw [hy287]; exact H) | exact H
    have Ny287 := Aside0.mk hy287
    clear hy287
    simp only [Option.some.injEq, Prod.mk.injEq] at H
    obtain ⟨rfl, rfl, rfl, rfl, rfl⟩ := H
    go_enter Try.func37, Try.ntmps37
    try go_wp2_with (first | ((with_reducible refine gate_dst (N := 1) rfl ?_); refine box_event ?hg (N := 1) ?hd (cs := #[.int .i64 a0_0, .slice A0_1 l0_1.length c0_1, .int .i64 a0_2, .int .i64 a0_3, .int .i64 a0_4]) (t := 36) ?hr ?_; (case hd => rfl); (case hg => rfl); (case hr => first | (go_simp; done) | (go_simp; rfl)); intro gb282 hg w3 hbox hb; have n0_ := Aside0.mk (below_step (by repeat (first | (with_reducible first | exact HB.out | apply below_alloc | apply pw_below_drewN | apply below_drew1) | exact HB.out)) hb); have n1_ := Aside0.mk (hbox); have n2_ := Aside0.mk ((by rw [hg]; exact (below_size (by repeat (first | (with_reducible first | exact HB.out | apply below_alloc | apply pw_below_drewN | apply below_drew1) | exact HB.out))) : w.heap.size ≤ gb282)); have n3_ := Aside0.mk ((by rw [hg]; exact (below_size (by repeat (first | (with_reducible first | exact HB.out | apply below_alloc | apply pw_below_drewN | apply below_drew1) | exact HB.out))) : w.heap.size ≤ gb282)); clear HB; have HB := n0_; have BK282 := n1_; have GW282 := n2_; have GE282 := n3_; clear n0_ n1_ n2_ n3_; clear hb hbox hg) | ((with_reducible refine gate_dst (N := 2) rfl ?_); refine box_event ?hg (N := 2) ?hd (cs := #[.int .i64 0, .slice none 0 0, .int .i64 0, .int .i64 0, .int .i64 0]) (t := 36) ?hr ?_; (case hd => rfl); (case hg => rfl); (case hr => first | (go_simp; done) | (go_simp; rfl)); intro gb283 hg w4 hbox hb; have n0_ := Aside0.mk (blk_below (g := gb282) (o := .cells #[.int .i64 a0_0, .slice A0_1 l0_1.length c0_1, .int .i64 a0_2, .int .i64 a0_3, .int .i64 a0_4] 36 (0, 0)) (by (with_reducible repeat (first | refine blk_drewN ?_ _ | refine blk_drew ?_ | refine blk_alloc ?_ _)); exact BK282.out) hb); have n1_ := Aside0.mk (below_step (by repeat (first | (with_reducible first | exact HB.out | apply below_alloc | apply pw_below_drewN | apply below_drew1 | refine below_set ?_ GE282.out) | exact HB.out)) hb); have n2_ := Aside0.mk (hbox); have n3_ := Aside0.mk ((by rw [hg]; exact (below_size (by repeat (first | (with_reducible first | exact HB.out | apply below_alloc | apply pw_below_drewN | apply below_drew1 | refine below_set ?_ GE282.out) | exact HB.out))) : w.heap.size ≤ gb283)); have n4_ := Aside0.mk ((by rw [hg]; exact (below_size (by repeat (first | (with_reducible first | exact HB.out | apply below_alloc | apply pw_below_drewN | apply below_drew1 | refine below_set ?_ GE282.out) | exact HB.out))) : w.heap.size ≤ gb283)); have n5_ := Aside0.mk ((by rw [hg]; exact Nat.ne_of_lt (blk_lt (g := gb282) (o := .cells #[.int .i64 a0_0, .slice A0_1 l0_1.length c0_1, .int .i64 a0_2, .int .i64 a0_3, .int .i64 a0_4] 36 (0, 0)) (by (with_reducible repeat (first | refine blk_drewN ?_ _ | refine blk_drew ?_ | refine blk_alloc ?_ _)); exact BK282.out)) : gb282 ≠ gb283)); have n6_ := Aside0.mk ((by rw [hg]; exact Nat.ne_of_gt (blk_lt (g := gb282) (o := .cells #[.int .i64 a0_0, .slice A0_1 l0_1.length c0_1, .int .i64 a0_2, .int .i64 a0_3, .int .i64 a0_4] 36 (0, 0)) (by (with_reducible repeat (first | refine blk_drewN ?_ _ | refine blk_drew ?_ | refine blk_alloc ?_ _)); exact BK282.out)) : gb283 ≠ gb282)); clear BK282; clear HB; have BK282 := n0_; have HB := n1_; have BK283 := n2_; have GW283 := n3_; have GE283 := n4_; have NB282_283 := n5_; have NB283_282 := n6_; clear n0_ n1_ n2_ n3_ n4_ n5_ n6_; clear hb hbox hg))
    have n0_ := Aside0.mk (blk_drew BK282.out)
    have n1_ := Aside0.mk (blk_drew BK283.out)
    have n2_ := Aside0.mk (below_drew1 HB.out)
    clear BK282
    clear BK283
    clear HB
    have BK282 := n0_
    have BK283 := n1_
    have HB := n2_
    clear n0_ n1_ n2_
    refine start_ (n := 10) (S := fun w' => w'.cell? ⟨gb282, 0, none⟩ = some (.int .i64 a0_0) ∧ w'.cell? ⟨gb282, 1, none⟩ = some (.slice A0_1 l0_1.length c0_1) ∧ w'.cell? ⟨gb282, 2, none⟩ = some (.int .i64 a0_2) ∧ w'.cell? ⟨gb282, 3, none⟩ = some (.int .i64 a0_3) ∧ w'.cell? ⟨gb282, 4, none⟩ = some (.int .i64 a0_4)) (ds := []) #[false, false, false, false, false, false, false, false, false, false] (by kernel_rfl) rfl rfl ⟨(blk_cell BK282.out 0).trans rfl, (blk_cell BK282.out 1).trans rfl, (blk_cell BK282.out 2).trans rfl, (blk_cell BK282.out 3).trans rfl, (blk_cell BK282.out 4).trans rfl⟩ (fun hHeld => ?_); refine with_tabW spec_l5Copy.tab1 spec_l5Copy.bits1 (fun HT_ HW_ => ?_)
    generalize w4.drew = w5 at BK282 BK283 HB hHeld ⊢
    refine pure_ (i := 0) (N := some 3) (v := ?_) (a' := ?_) #[true, false, false, false, false, false, false, false, false, false] rfl rfl (any_of HT_.out (by kernel_rfl)) (fun _ _ _ h => h) (Or.inl ⟨by rfl, ?_⟩) ?_ ?_
    rotate_left
    · intro w'
      go_simp
      with_reducible rfl
    rotate_left
    · simp only [Act.put, List.setIfInBounds_toArray, List.set_cons_zero, List.set_cons_succ, i64_w, i32_w]
      rfl
    refine pure_ (i := 3) (N := some 6) (v := ?_) (a' := ?_) #[true, false, false, true, false, false, false, false, false, false] rfl rfl (any_of HT_.out (by kernel_rfl)) (fun _ _ _ h => h) (Or.inl ⟨by rfl, ?_⟩) ?_ ?_
    rotate_left
    · intro w'
      go_simp
      with_reducible rfl
    rotate_left
    · simp only [Act.put, List.setIfInBounds_toArray, List.set_cons_zero, List.set_cons_succ, i64_w, i32_w]
      rfl
    refine pure_ (i := 6) (N := some 9) (v := ?_) (a' := ?_) #[true, false, false, true, false, false, true, false, false, false] rfl rfl (any_of HT_.out (by kernel_rfl)) (fun _ _ _ h => h) (Or.inl ⟨by rfl, ?_⟩) ?_ ?_
    rotate_left
    · intro w'
      go_simp
      with_reducible rfl
    rotate_left
    · simp only [Act.put, List.setIfInBounds_toArray, List.set_cons_zero, List.set_cons_succ, i64_w, i32_w]
      rfl
    refine take_ (i := 1) (N := some 4) (v := ?_) (a' := ?_) #[true, true, false, true, false, false, true, false, false, false] rfl rfl (take_ofW HT_.out HW_.out (by kernel_rfl)) (fun _ _ _ h => h) (Or.inl ⟨by rfl, ?_⟩) hHeld ?_ ?_
    rotate_left
    · rintro w' ⟨s0, s1, s2, s3, s4⟩
      go_simp
      with_reducible rfl
    rotate_left
    · simp only [Act.put, List.setIfInBounds_toArray, List.set_cons_zero, List.set_cons_succ, i64_w, i32_w]
      rfl
    refine take_ (i := 4) (N := some 7) (v := ?_) (a' := ?_) #[true, true, false, true, true, false, true, false, false, false] rfl rfl (take_ofW HT_.out HW_.out (by kernel_rfl)) (fun _ _ _ h => h) (Or.inl ⟨by rfl, ?_⟩) hHeld ?_ ?_
    rotate_left
    · rintro w' ⟨s0, s1, s2, s3, s4⟩
      go_simp
      with_reducible rfl
    rotate_left
    · simp only [Act.put, List.setIfInBounds_toArray, List.set_cons_zero, List.set_cons_succ, i64_w, i32_w]
      rfl
    refine take_ (i := 7) (N := some 10) (v := ?_) (a' := ?_) #[true, true, false, true, true, false, true, true, false, false] rfl rfl (take_ofW HT_.out HW_.out (by kernel_rfl)) (fun _ _ _ h => h) (Or.inl ⟨by rfl, ?_⟩) hHeld ?_ ?_
    rotate_left
    · rintro w' ⟨s0, s1, s2, s3, s4⟩
      go_simp
      with_reducible rfl
    rotate_left
    · simp only [Act.put, List.setIfInBounds_toArray, List.set_cons_zero, List.set_cons_succ, i64_w, i32_w]
      rfl
    refine one_ (i := 2) (N := some 5) #[true, true, true, true, true, false, true, true, false, false] rfl rfl (one_of HT_.out (by kernel_rfl)) (by decide) (fun K hK => ?_)
    refine Kd.R_lit_step (Kd.int .i64) _ 3 ?hg (N := 5) ?hd (xs := ([] : List Int)) (inner := []) (ok := fun _ => True) (okp := fun _ => True) ?hr ?hp (fun _ hk => hk) trivial (Below.refl _ _) (Nat.le_refl _) (by simp) ?_; (case hd => rfl); (case hg => rfl); (case hr => first | (go_simp; done) | (go_simp; rfl)); (case hp => exact (Reps.none _ _))
    intro v285 w6 ho7 hb hg_ hnew_
    clear hg_ hnew_
    (first | rw [← Ny284.out] at ho7 | (simp only [Int.reduceToNat] at ho7; rw [← Ny284.out] at ho7))
    have n0_ := Aside0.mk (Kd.R_lower ho7 (below_size (by repeat (first | (with_reducible first | exact HB.out | apply below_alloc | apply pw_below_drewN | apply below_drew1 | refine below_set ?_ GE282.out | refine below_set ?_ GE283.out) | exact HB.out))))
    have n1_ := Aside0.mk (blk_below (g := gb282) (o := .cells #[.int .i64 a0_0, .slice A0_1 l0_1.length c0_1, .int .i64 a0_2, .int .i64 a0_3, .int .i64 a0_4] 36 (0, 0)) (by (with_reducible repeat (first | refine blk_drewN ?_ _ | refine blk_drew ?_ | refine blk_alloc ?_ _)); exact BK282.out) hb)
    have n2_ := Aside0.mk (blk_below (g := gb283) (o := .cells #[.int .i64 0, .slice none 0 0, .int .i64 0, .int .i64 0, .int .i64 0] 36 (0, 0)) (by (with_reducible repeat (first | refine blk_drewN ?_ _ | refine blk_drew ?_ | refine blk_alloc ?_ _)); exact BK283.out) hb)
    have n3_ := Aside0.mk (below_step (by repeat (first | (with_reducible first | exact HB.out | apply below_alloc | apply pw_below_drewN | apply below_drew1 | refine below_set ?_ GE282.out | refine below_set ?_ GE283.out) | exact HB.out)) hb)
    clear BK282
    clear BK283
    clear HB
    have HO286 := n0_
    have BK282 := n1_
    have BK283 := n2_
    have HB := n3_
    clear n0_ n1_ n2_ n3_
    clear hb ho7
    refine hK.out _ _ ⟨(blk_cell BK282.out 0).trans rfl, (blk_cell BK282.out 1).trans rfl, (blk_cell BK282.out 2).trans rfl, (blk_cell BK282.out 3).trans rfl, (blk_cell BK282.out 4).trans rfl⟩ (fun hHeld => ?_)
    clear hK K
    refine norm_ (a' := ?_) ?_ ?_
    rotate_left
    · show Act.put _ (some 5) _ = _
      simp only [Act.put, List.setIfInBounds_toArray, List.set_cons_zero, List.set_cons_succ, i64_w, i32_w]
      rfl
    refine one_ (i := 5) (N := some 8) #[true, true, true, true, true, true, true, true, false, false] rfl rfl (one_of HT_.out (by kernel_rfl)) (by decide) (fun K hK => ?_)
    refine Kd.R_append_rows_step (Kd.int .i64) (w0 := w) w.heap.size (by rfl) (.tmp 5) (.tmp 7) 23 3 (.int .i64 0) 8 rfl Try.underlying23 info3 rfl (by decide) (by omega) v285 y284 l0_1 _ _ _ (fun _ => True) (fun _ => False) rfl rfl ?aO ?aR (fun _ _ h => h) (fun _ h => h.elim) ?aF ?aB ?aS ?aL ?_
    (case aR => repeat (first | exact (Kd.C_below HR0_1.out HB.out) | (with_reducible refine Kd.C_alloc ?_ _) | (with_reducible refine Kd.C_drewN ?_ _) | (with_reducible refine Kd.C_drew ?_)))
    (case aB => exact (by repeat (first | (with_reducible first | exact HB.out | apply below_alloc | apply pw_below_drewN | apply below_drew1 | refine below_set ?_ GE282.out | refine below_set ?_ GE283.out) | exact HB.out)))
    (case aF => exact (fun _ _ => trivial))
    (case aO => exact (by (with_reducible repeat (first | apply Kd.R_alloc | apply Kd.R_drewN | apply Kd.R_drew)); exact HO286.out))
    (case aS => exact (below_size (by repeat (first | (with_reducible first | exact HB.out | apply below_alloc | apply pw_below_drewN | apply below_drew1 | refine below_set ?_ GE282.out | refine below_set ?_ GE283.out) | exact HB.out))))
    (case aL => have := LMc2.out; omega)
    intro v288 w8 ho hb hg hat
    rw [← Ny287.out] at ho
    have n0_ := Aside0.mk (blk_grown (g := gb282) (o := .cells #[.int .i64 a0_0, .slice A0_1 l0_1.length c0_1, .int .i64 a0_2, .int .i64 a0_3, .int .i64 a0_4] 36 (0, 0)) (by (with_reducible repeat (first | refine blk_drewN ?_ _ | refine blk_drew ?_ | refine blk_alloc ?_ _)); exact BK282.out) hg (Kd.R_ne HO286.out BK282.out (by decide)))
    have n1_ := Aside0.mk (blk_grown (g := gb283) (o := .cells #[.int .i64 0, .slice none 0 0, .int .i64 0, .int .i64 0, .int .i64 0] 36 (0, 0)) (by (with_reducible repeat (first | refine blk_drewN ?_ _ | refine blk_drew ?_ | refine blk_alloc ?_ _)); exact BK283.out) hg (Kd.R_ne HO286.out BK283.out (by decide)))
    have n2_ := Aside0.mk (hb)
    have n3_ := Aside0.mk (ho)
    clear BK282
    clear BK283
    clear HB
    clear HO286
    have BK282 := n0_
    have BK283 := n1_
    have HB := n2_
    have HO289 := n3_
    clear n0_ n1_ n2_ n3_
    clear ho hb hg hat
    obtain ⟨Ao9, co9, eo9⟩ := Kd.R_slice HO289.out
    (first | subst eo9 | (injection eo9 with f1_ f2_ f3_; have f4_ := f1_.symm; have f5_ := f3_.symm; clear f1_ f2_ f3_; subst f4_; subst f5_))
    refine hK.out _ _ ⟨(blk_cell BK282.out 0).trans rfl, (blk_cell BK282.out 1).trans rfl, (blk_cell BK282.out 2).trans rfl, (blk_cell BK282.out 3).trans rfl, (blk_cell BK282.out 4).trans rfl⟩ (fun hHeld => ?_)
    clear hK K
    refine norm_ (a' := ?_) ?_ ?_
    rotate_left
    · show Act.put _ (some 8) _ = _
      simp only [Act.put, List.setIfInBounds_toArray, List.set_cons_zero, List.set_cons_succ, i64_w, i32_w]
      rfl
    refine pure_ (i := 8) (N := some 11) (v := ?_) (a' := ?_) #[true, true, true, true, true, true, true, true, true, false] rfl rfl (any_of HT_.out (by kernel_rfl)) (fun _ _ _ h => h) (Or.inl ⟨by rfl, ?_⟩) ?_ ?_
    rotate_left
    · intro w'
      go_simp
      with_reducible rfl
    rotate_left
    · simp only [Act.put, List.setIfInBounds_toArray, List.set_cons_zero, List.set_cons_succ, i64_w, i32_w]
      rfl
    refine one_ (i := 9) (N := none) #[true, true, true, true, true, true, true, true, true, true] rfl rfl (one_of HT_.out (by kernel_rfl)) (by decide) (fun K hK => ?_)
    have hs10 : w8.cell? ⟨gb283, 0, none⟩ = some (.int .i64 0) := (blk_cell BK283.out 0).trans rfl
    have hfs10 := blk_frozen BK283.out 0
    have hns10_0 := NB282_283.out
    have hms10_0 := NB283_282.out
    have hs11 : w8.cell? ⟨gb283, 1, none⟩ = some (.slice none 0 0) := (blk_cell BK283.out 1).trans rfl
    have hfs11 := blk_frozen BK283.out 1
    have hns11_0 := NB282_283.out
    have hms11_0 := NB283_282.out
    have hs12 : w8.cell? ⟨gb283, 2, none⟩ = some (.int .i64 0) := (blk_cell BK283.out 2).trans rfl
    have hfs12 := blk_frozen BK283.out 2
    have hns12_0 := NB282_283.out
    have hms12_0 := NB283_282.out
    have hs13 : w8.cell? ⟨gb283, 3, none⟩ = some (.int .i64 0) := (blk_cell BK283.out 3).trans rfl
    have hfs13 := blk_frozen BK283.out 3
    have hns13_0 := NB282_283.out
    have hms13_0 := NB283_282.out
    have hs14 : w8.cell? ⟨gb283, 4, none⟩ = some (.int .i64 0) := (blk_cell BK283.out 4).trans rfl
    have hfs14 := blk_frozen BK283.out 4
    have hns14_0 := NB282_283.out
    have hms14_0 := NB283_282.out
    refine skip_ (w1 := ?_) (by rfl) rfl ?_ ?_
    rotate_left
    · go_simp
      rfl
    refine hK.out _ _ ⟨((cell_far (p := ⟨gb283, _, none⟩) NB282_283.out _).trans (((cell_far (p := ⟨gb283, _, none⟩) NB282_283.out _).trans (((cell_far (p := ⟨gb283, _, none⟩) NB282_283.out _).trans (((cell_far (p := ⟨gb283, _, none⟩) NB282_283.out _).trans (((cell_far (p := ⟨gb283, _, none⟩) NB282_283.out _).trans (hHeld.1)))))))))), ((cell_far (p := ⟨gb283, _, none⟩) NB282_283.out _).trans (((cell_far (p := ⟨gb283, _, none⟩) NB282_283.out _).trans (((cell_far (p := ⟨gb283, _, none⟩) NB282_283.out _).trans (((cell_far (p := ⟨gb283, _, none⟩) NB282_283.out _).trans (((cell_far (p := ⟨gb283, _, none⟩) NB282_283.out _).trans (hHeld.2.1)))))))))), ((cell_far (p := ⟨gb283, _, none⟩) NB282_283.out _).trans (((cell_far (p := ⟨gb283, _, none⟩) NB282_283.out _).trans (((cell_far (p := ⟨gb283, _, none⟩) NB282_283.out _).trans (((cell_far (p := ⟨gb283, _, none⟩) NB282_283.out _).trans (((cell_far (p := ⟨gb283, _, none⟩) NB282_283.out _).trans (hHeld.2.2.1)))))))))), ((cell_far (p := ⟨gb283, _, none⟩) NB282_283.out _).trans (((cell_far (p := ⟨gb283, _, none⟩) NB282_283.out _).trans (((cell_far (p := ⟨gb283, _, none⟩) NB282_283.out _).trans (((cell_far (p := ⟨gb283, _, none⟩) NB282_283.out _).trans (((cell_far (p := ⟨gb283, _, none⟩) NB282_283.out _).trans (hHeld.2.2.2.1)))))))))), ((cell_far (p := ⟨gb283, _, none⟩) NB282_283.out _).trans (((cell_far (p := ⟨gb283, _, none⟩) NB282_283.out _).trans (((cell_far (p := ⟨gb283, _, none⟩) NB282_283.out _).trans (((cell_far (p := ⟨gb283, _, none⟩) NB282_283.out _).trans (((cell_far (p := ⟨gb283, _, none⟩) NB282_283.out _).trans (hHeld.2.2.2.2))))))))))⟩ (fun hHeld => ?_)
    clear hK K
    refine done_ (done_of HT_.out (by kernel_rfl)) ?_
    try go_wp2
    refine bodyPost_ret (results_cell_row rfl _ _ gb283 36 #[.int .i64 a0_0, .slice Ao9 y287.length co9, .int .i64 a0_2, .int .i64 a0_3, .int .i64 a0_4] (0, 0) _ rfl (by (with_reducible repeat (first | refine blk_drewN ?_ _ | refine blk_drew ?_ | refine blk_alloc ?_ _)); refine blk_put (cs := #[.int .i64 a0_0, .slice Ao9 y287.length co9, .int .i64 a0_2, .int .i64 a0_3, .int .i64 0]) ?_ 4 _ rfl; (with_reducible repeat (first | refine blk_drewN ?_ _ | refine blk_drew ?_ | refine blk_alloc ?_ _)); refine blk_put (cs := #[.int .i64 a0_0, .slice Ao9 y287.length co9, .int .i64 a0_2, .int .i64 0, .int .i64 0]) ?_ 3 _ rfl; (with_reducible repeat (first | refine blk_drewN ?_ _ | refine blk_drew ?_ | refine blk_alloc ?_ _)); refine blk_put (cs := #[.int .i64 a0_0, .slice Ao9 y287.length co9, .int .i64 0, .int .i64 0, .int .i64 0]) ?_ 2 _ rfl; (with_reducible repeat (first | refine blk_drewN ?_ _ | refine blk_drew ?_ | refine blk_alloc ?_ _)); refine blk_put (cs := #[.int .i64 a0_0, .slice none 0 0, .int .i64 0, .int .i64 0, .int .i64 0]) ?_ 1 _ rfl; (with_reducible repeat (first | refine blk_drewN ?_ _ | refine blk_drew ?_ | refine blk_alloc ?_ _)); refine blk_put (cs := #[.int .i64 0, .slice none 0 0, .int .i64 0, .int .i64 0, .int .i64 0]) ?_ 0 _ rfl; (with_reducible repeat (first | refine blk_drewN ?_ _ | refine blk_drew ?_ | refine blk_alloc ?_ _)); exact BK283.out) Try.underlying36 rfl (by kernel_rfl)) rfl ?_
    exact ⟨_, by first | rfl | (simp [errW_none, errW_some] <;> rfl) | (simp [*, errW_none, errW_some] <;> rfl), by (with_reducible repeat (first | apply Kd.R_alloc | apply Kd.R_drewN | apply Kd.R_drew)); exact Kd.R_mono (Kd.R_far (p := ⟨gb283, 4, none⟩) (Kd.R_far (p := ⟨gb283, 3, none⟩) (Kd.R_far (p := ⟨gb283, 2, none⟩) (Kd.R_far (p := ⟨gb283, 1, none⟩) (Kd.R_far (p := ⟨gb283, 0, none⟩) (Kd.R_types HO289.out BK283.out (by decide)) (fun _ hk => hk.2) (.int .i64 a0_0)) (fun _ hk => hk.2) (.slice Ao9 y287.length co9)) (fun _ hk => hk.2) (.int .i64 a0_2)) (fun _ hk => hk.2) (.int .i64 a0_3)) (fun _ hk => hk.2) (.int .i64 a0_4)) (fun _ hk => trivial), by repeat (first | (with_reducible first | exact HB.out | apply below_alloc | apply pw_below_drewN | apply below_drew1 | refine below_set ?_ GE282.out | refine below_set ?_ GE283.out) | exact HB.out)⟩
  · rw [if_neg c2] at H
    exact absurd H (by simp)

end Go.Proofs.Ytlpfobakbgipbaa.QFnExactTakePart
