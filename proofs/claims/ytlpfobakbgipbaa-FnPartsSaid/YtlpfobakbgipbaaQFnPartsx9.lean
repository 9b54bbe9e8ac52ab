/- The Go functions that the law FnParts comes to, each as a Lean function, with a proof that the call does what it says; written by a program of this session over the print of the kit. No conditions. -/
import Derived.Test.YtlpfobakbgipbaaQFnPartsx0
import Derived.Test.YtlpfobakbgipbaaQFnPartsx1
import Derived.Test.YtlpfobakbgipbaaQFnPartsx3
import Derived.Test.YtlpfobakbgipbaaQFnPartsx4
import Derived.Test.YtlpfobakbgipbaaQFnPartsx5
import Derived.Test.YtlpfobakbgipbaaQFnPartsx7
import Derived.Test.YtlpfobakbgipbaaQFnPartsx8
namespace Go.Proofs.Ytlpfobakbgipbaa.QFnParts
open Go.RowKit Go.Proofs.YtlpfobakbgipbaaW.PrintWords Go.Proofs.YtlpfobakbgipbaaW.PrintLast Go.Proofs.YtlpfobakbgipbaaW.PrintMore
attribute [local go_sem] max2_int min2_int max_two min_two max_three min_three max_four min_four   -- for this text's walks alone
set_option linter.unusedVariables false
set_option linter.unusedSimpArgs false

attribute [local go_sem high] eqA34
/-! ### spec_DrawPutPart: function 18 -/
def spec_DrawPutPart.f (k : Nat) (l0 : List Int) : Option ((List (S63)) × Int × List Int × Int × Int × Int) := (spec_l1New.f k l0).bind fun bt482 => ((spec_l7Any.f k bt482.1 bt482.2.1 bt482.2.2).bind fun bt486 => ((spec_l5Any.f k bt482.1 bt486.2.1 bt486.2.2).bind fun bt491 => (if (bt486.1.length : Int) > 0 then ((spec_l1Once.f bt482.1 bt491.2.2.2.2.2.1 bt491.2.2.2.2.2.2 3).bind fun bt501 => (if bt501.1 = true then ((spec_l1Below.f bt482.1 bt501.2.1 bt501.2.2 (bt486.1.length : Int)).bind fun bt504 => (if 0 ≤ bt504.1 then (if bt504.1 < (bt486.1.length : Int) then (some (bt486.1, (rd_T63 bt486.1 bt504.1).f1.f0, (rd_T63 bt486.1 bt504.1).f1.f1, (rd_T63 bt486.1 bt504.1).f1.f2.f0, (rd_T63 bt486.1 bt504.1).f1.f2.f1, (rd_T63 bt486.1 bt504.1).f1.f2.f2)) else (none)) else (none))) else (some (bt486.1, bt491.1, bt491.2.1, bt491.2.2.1, bt491.2.2.2.1, bt491.2.2.2.2.1)))) else (some (bt486.1, bt491.1, bt491.2.1, bt491.2.2.1, bt491.2.2.2.1, bt491.2.2.2.2.1)))))
def spec_DrawPutPart.T6 : Bool × List (List Nat × List Nat) := (true, [([], []), ([], []), ([0, 0], [0]), ([1, 2, 0, 1, 2], [1])])
def spec_DrawPutPart.B6 : List Nat := [0, 0, 1, 7]
theorem spec_DrawPutPart.tab6 : rtab .any (opsOf Try.f18 6) = spec_DrawPutPart.T6 := by kernel_rfl
theorem spec_DrawPutPart.bits6 : waitsOk spec_DrawPutPart.T6.2 spec_DrawPutPart.B6 = true := by kernel_rfl
theorem put5_ {W : World} {q t : Nat} {z0 z1 z2 z3 z4 : Value} (hk : W.heap[q]? = some (.cells #[z0, z1, z2, z3, z4] t (0, 0))) (u0 u1 u2 u3 u4 : Value) :
    ∃ W' : World, W' = ((((W.setCell ⟨q, 0, none⟩ u0).setCell ⟨q, 1, none⟩ u1).setCell ⟨q, 2, none⟩ u2).setCell ⟨q, 3, none⟩ u3).setCell ⟨q, 4, none⟩ u4 ∧ W'.heap[q]? = some (.cells #[u0, u1, u2, u3, u4] t (0, 0)) ∧ ∀ i, i ≠ q → W'.heap[i]? = W.heap[i]? :=
  have h0 := blk_put (cs' := #[u0, z1, z2, z3, z4]) hk 0 u0 rfl
  have h1 := blk_put (cs' := #[u0, u1, z2, z3, z4]) h0 1 u1 rfl
  have h2 := blk_put (cs' := #[u0, u1, u2, z3, z4]) h1 2 u2 rfl
  have h3 := blk_put (cs' := #[u0, u1, u2, u3, z4]) h2 3 u3 rfl
  have h4 := blk_put (cs' := #[u0, u1, u2, u3, u4]) h3 4 u4 rfl
  ⟨_, rfl, h4, fun k hk => ((((Below.heap_setCell _ _ _ k hk).trans (Below.heap_setCell _ _ _ k hk)).trans (Below.heap_setCell _ _ _ k hk)).trans (Below.heap_setCell _ _ _ k hk)).trans (Below.heap_setCell _ _ _ k hk)⟩
set_option maxHeartbeats 8000000 in
set_option maxRecDepth 100000 in
theorem spec_DrawPutPart.calls (k : Nat) (A0 : Option Addr) (c0 : Nat) (l0 : List Int) (r1 : List (S63)) (r2 : Int) (r3 : List Int) (r4 : Int) (r5 : Int) (r6 : Int) (w : World) (hr0 : Kd.C (Kd.int .u8) w A0 l0.length l0) (hc0 : l0.length ≤ c0) (h : spec_DrawPutPart.f k l0 = some (r1, r2, r3, r4, r5, r6)) :
    Calls Try.prog 18 #[.slice A0 l0.length c0] w fun e w' => ∃ (A : Option Addr) (c : Nat) (B : Option Addr) (b : Nat), e = .returned (.tuple #[.slice A r1.length c, .agg #[.int .i64 r2, .slice B r3.length b, .int .i64 r4, .int .i64 r5, .int .i64 r6]]) ∧ r1.length ≤ c ∧ Kd.C k63 w' A r1.length r1 ∧ r3.length ≤ b ∧ Kd.C (Kd.int .i64) w' B r3.length r3 ∧ Below w.heap.size w w' := by
  have hu36 := Try.underlying36
  have hu63 := Try.underlying63
  have HR0 := Aside0.mk hr0
  have HC0 := Aside0.mk hc0
  clear hr0 hc0
  obtain ⟨⟨s, a0, b0⟩, A1, H1⟩ := Option.bind_eq_some_iff.mp h
  clear h
  obtain ⟨⟨xs, a1, b1⟩, A2, H2⟩ := Option.bind_eq_some_iff.mp H1
  clear H1
  obtain ⟨⟨y0, yl, y2, y3, y4, a2, b2⟩, A3, H⟩ := Option.bind_eq_some_iff.mp H2
  clear H2
  replace A1 := Aside0.mk A1
  replace A2 := Aside0.mk A2
  replace A3 := Aside0.mk A3
  dsimp only at H
  have HH := Aside0.mk H
  clear H
  go_enter Try.func18, Try.ntmps18
  go_upto_region 1 with fail
  obtain ⟨w1, hw_⟩ : ∃ x_, x_ = w.alloc (.cells #[.int .i64 0, .slice none 0 0, .int .i64 0, .int .i64 0, .int .i64 0] 36) := ⟨_, rfl⟩
  have HB1 := Aside0.mk (show Below w.heap.size w w1 from hw_ ▸ below_alloc (Below.refl _ _) _)
  have hx_ : w1.heap[w.heap.size]? = some (.cells #[.int .i64 0, .slice none 0 0, .int .i64 0, .int .i64 0, .int .i64 0] 36 (0, 0)) := hw_ ▸ heap_alloc_new w _
  rw [← hw_]
  clear hw_
  obtain ⟨g3, hg_⟩ : ∃ x_, x_ = w.heap.size := ⟨_, rfl⟩
  rw [← hg_] at hx_ ⊢
  have Ng3 := Aside0.mk (show w.heap.size ≤ g3 from Nat.le_of_eq hg_.symm)
  have Kg3 := Aside0.mk hx_
  clear hx_ hg_
  go_upto_region 4 with (first | ((with_reducible refine gate_callee (f := 50) rfl ?_); refine goesL_ (some 8) rfl rfl Try.func50 (by kernel_rfl) rfl #[.slice A0 l0.length c0] rfl (by (try simp only [List.map_toArray, List.map_cons, List.map_nil]); first | done | rfl) ?_; refine (spec_l1New.calls k _ _ l0 s a0 b0 w _ HB1.out HR0.out HC0.out A1.out).mono ?_; rintro e w2 ⟨g, rfl, hi, hb, hb2⟩; refine ⟨_, rfl, ?_⟩; have CU := Aside0.mk (Cur.start hi hb); have n_ := Aside0.mk (blk_below Kg3.out hb2); clear Kg3; have Kg3 := n_; have HG2 := Aside0.mk hi.lt; have HG3 := Aside0.mk (blk_lt n_.out); clear n_ hi hb hb2) | ((with_reducible refine gate_callee (f := 51) rfl ?_); refine goesL_ (some 10) rfl rfl Try.func51 (by kernel_rfl) rfl #[.pointer (some ⟨g, 0, none⟩)] rfl (by (try simp only [List.map_toArray, List.map_cons, List.map_nil]); first | done | rfl) ?_; refine (spec_l7Any.calls k g s _ _ xs a1 b1 w _ CU.out.1 CU.out.2.1 A2.out).mono ?_; rintro e w3 ⟨v1, rfl, hn, hi, hb, hk⟩; refine ⟨_, rfl, ?_⟩; obtain ⟨Al, cl, el⟩ := Kd.N_slice hn; subst el; have HN := Aside0.mk (Kd.N_mono (ok' := fun k_ => w2.heap.size ≤ k_ ∧ True) (Kd.N_lower hn (Nat.le_refl _)) (fun _ h_ => ⟨h_, trivial⟩)); clear hn; have n0_ := Aside0.mk (CU.out.call hi hb hk); have nKg3_ := Aside0.mk (blk_keep Kg3.out hk (CU.out.1.ne_blk Kg3.out (by decide))); clear CU hi hb hk Kg3; have CU := n0_; have Kg3 := nKg3_; clear n0_ nKg3_) | ((with_reducible refine gate_callee (f := 52) rfl ?_); refine goesL_ (some 12) rfl rfl Try.func52 (by kernel_rfl) rfl #[.pointer (some ⟨g, 0, none⟩)] rfl (by (try simp only [List.map_toArray, List.map_cons, List.map_nil]); first | done | rfl) ?_; refine (spec_l5Any.calls k g s _ _ y0 yl y2 y3 y4 a2 b2 w _ CU.out.1 CU.out.2.1 A3.out).mono ?_; rintro e w4 ⟨v5, rfl, ho, hi, hb, hk⟩; refine ⟨_, rfl, ?_⟩; obtain ⟨A5, c5, e5⟩ := Kd.R_slice ho; subst e5; have HS3 := CU.out.2.2.1; have HR := Aside0.mk (Kd.V_F (Kd.V_mono (ok' := fun k_ => w2.heap.size ≤ k_ ∧ True) (Kd.R_V (base' := 0) (Kd.R_bound ho)) (fun k_ h_ => ⟨Nat.le_trans HS3 h_.2.1, trivial⟩))); have HRl := Aside0.mk (Kd.R_reads' ho).2.1; clear ho HS3; have nN_ := Aside0.mk (Kd.N_keep HN.out hk (fun k_ h_ => by have := h_.1; have := HG2.out; omega)); clear HN; have n0_ := Aside0.mk (CU.out.call hi hb hk); have nKg3_ := Aside0.mk (blk_keep Kg3.out hk (CU.out.1.ne_blk Kg3.out (by decide))); clear CU hi hb hk Kg3; have CU := n0_; have Kg3 := nKg3_; clear n0_ nKg3_; have HN := nN_; clear nN_))
  obtain ⟨w5, hw_⟩ : ∃ x_, x_ = w4.alloc (.cells #[.int .i64 y0, .slice A5 yl.length c5, .int .i64 y2, .int .i64 y3, .int .i64 y4] 36) := ⟨_, rfl⟩
  have hb : Below w4.heap.size w4 w5 := hw_ ▸ below_alloc (Below.refl _ _) _
  have hx_ : w5.heap[w4.heap.size]? = some (.cells #[.int .i64 y0, .slice A5 yl.length c5, .int .i64 y2, .int .i64 y3, .int .i64 y4] 36 (0, 0)) := hw_ ▸ heap_alloc_new w4 _
  rw [← hw_]
  clear hw_
  obtain ⟨g6, hg_⟩ : ∃ x_, x_ = w4.heap.size := ⟨_, rfl⟩
  rw [← hg_] at hx_ ⊢
  have HG6 := Aside0.mk (show w2.heap.size ≤ g6 by rw [hg_]; exact CU.out.2.2.1)
  have n0_ := Aside0.mk (Kd.N_mono (ok' := fun k_ => w2.heap.size ≤ k_ ∧ k_ ≠ g6) (Kd.N_below (Kd.N_bound HN.out) hb) (fun k_ h_ => ⟨h_.1.1, by have := h_.2; omega⟩))
  have n1_ := Aside0.mk (Kd.F_mono (ok' := fun k_ => w2.heap.size ≤ k_ ∧ k_ ≠ g6) (Kd.F_below (Kd.F_bound HR.out) hb) (fun k_ h_ => ⟨h_.1.1, by have := h_.2; omega⟩))
  have n2_ := Aside0.mk (CU.out.below hb)
  have n3_ := Aside0.mk (blk_below Kg3.out hb)
  clear HN HR CU Kg3 hg_ hb
  have HN := n0_
  have HR := n1_
  have CU := n2_
  have Kg3 := n3_
  have Kg6 := Aside0.mk hx_
  clear hx_ n0_ n1_ n2_ n3_
  have CU0 := Aside0.mk (show w.heap.size ≤ w2.heap.size from Nat.le_of_lt (Nat.lt_of_le_of_lt Ng3.out HG3.out))
  have H := HH.out
  clear HH
  by_cases c0 : (xs.length : Int) > 0
  · rw [if_pos c0] at H
    have c0b : decide (0 < (xs.length : Int)) = true := decide_eq_true c0
    have c0n : decide (0 < xs.length) = true := decide_eq_true (by omega)
    obtain ⟨⟨ob, a3, b3⟩, A4, HX⟩ := Option.bind_eq_some_iff.mp H
    clear H
    have H := HX
    clear HX
    replace A4 := Aside0.mk A4
    dsimp only at H
    by_cases c1 : ob = true
    · subst c1
      rw [if_pos rfl] at H
      go_upto_region 5 with (first | (go_at_call 53; refine (spec_l1Once.calls g s _ _ 3 _ a3 b3 w _ CU.out.1 CU.out.2.1 A4.out).mono ?_; rintro e w6 ⟨rfl, hi, hb, hk⟩; have nN_ := Aside0.mk (Kd.N_keep HN.out hk (fun k_ h_ => by have := h_.1; have := HG2.out; omega)); clear HN; have nF_ := Aside0.mk (Kd.F_step HR.out (fun k_ ho hlt => hk.2 k_ hlt (by have := ho.1; have := HG2.out; omega) (by simp))); clear HR; have n0_ := Aside0.mk (CU.out.call hi hb hk); have nKg3_ := Aside0.mk (blk_keep Kg3.out hk (CU.out.1.ne_blk Kg3.out (by decide))); have nKg6_ := Aside0.mk (blk_keep Kg6.out hk (CU.out.1.ne_blk Kg6.out (by decide))); clear CU hi hb hk Kg3 Kg6; have CU := n0_; have Kg3 := nKg3_; have Kg6 := nKg6_; clear n0_ nKg3_ nKg6_; have HN := nN_; have HR := nF_; clear nN_ nF_))
      obtain ⟨⟨ti, a4, b4⟩, A5_, HX⟩ := Option.bind_eq_some_iff.mp H
      clear H
      have H := HX
      clear HX
      replace A5_ := Aside0.mk A5_
      dsimp only at H
      by_cases h0 : 0 ≤ ti
      rotate_left
      · rw [if_neg h0] at H
        exact absurd H (by simp)
      rw [if_pos h0] at H
      by_cases h1 : ti < (xs.length : Int)
      rotate_left
      · rw [if_neg h1] at H
        exact absurd H (by simp)
      rw [if_pos h1] at H
      obtain ⟨i, rfl⟩ := Int.eq_ofNat_of_zero_le h0
      obtain ⟨⟨d, ⟨kd, bd, ⟨ho, pa, qu⟩⟩, us⟩, hx⟩ : ∃ x, rd_T63 xs (i : Int) = x := ⟨_, rfl⟩
      rw [hx] at H
      simp only [Option.some.injEq, Prod.mk.injEq] at H
      obtain ⟨rfl, rfl, rfl, rfl, rfl, rfl⟩ := H
      have hlen := (Kd.N_reads' HN.out).2.1
      have hmax := (Kd.N_reads' HN.out).2.2.2.1
      have p14 := eq_true h0
      have p15 := eq_true h1
      obtain ⟨gl, cl', el, _, _, _⟩ := Kd.N_form HN.out (by omega)
      injection el with ea _ ec
      subst ea
      subst ec
      go_upto_region 6 with (first | ((with_reducible refine gate_callee (f := 54) rfl ?_); refine goesL_ (some 24) rfl rfl Try.func54 (by kernel_rfl) rfl #[.pointer (some ⟨g, 0, none⟩), .int .i64 xs.length] rfl (by (try simp only [List.map_toArray, List.map_cons, List.map_nil]); first | done | rfl) ?_; refine (spec_l1Below.calls g s _ _ xs.length _ a4 b4 w _ CU.out.1 CU.out.2.1 A5_.out).mono ?_; rintro e w7 ⟨rfl, hi, hb, hk⟩; refine ⟨_, rfl, ?_⟩; have nN_ := Aside0.mk (Kd.N_keep HN.out hk (fun k_ h_ => by have := h_.1; have := HG2.out; omega)); clear HN; have n0_ := Aside0.mk (CU.out.call hi hb hk); have nKg3_ := Aside0.mk (blk_keep Kg3.out hk (CU.out.1.ne_blk Kg3.out (by decide))); have nKg6_ := Aside0.mk (blk_keep Kg6.out hk (CU.out.1.ne_blk Kg6.out (by decide))); clear CU hi hb hk Kg3 Kg6; have CU := n0_; have Kg3 := nKg3_; have Kg6 := nKg6_; clear n0_ nKg3_ nKg6_; have HN := nN_; clear nN_; obtain ⟨c, hcl, hF, hcc, hfr⟩ := Kd.N_elem HN.out z63 (i : Int) h0 h1; obtain ⟨A2, c2, ec, hl2, hF2⟩ := k63_openF hF; rw [show xs.getD ((i : Nat) : Int).toNat z63 = _ from hx] at ec hl2 hF2; subst ec; have hz1 : w7.cell? ⟨gl, i * 7 + 1, none⟩ = _ := hcc 1 _ rfl; have hz2 : w7.cell? ⟨gl, i * 7 + 2, none⟩ = _ := hcc 2 _ rfl; have hz3 : w7.cell? ⟨gl, i * 7 + 3, none⟩ = _ := hcc 3 _ rfl; have hz4 : w7.cell? ⟨gl, i * 7 + 4, none⟩ = _ := hcc 4 _ rfl; have hz5 : w7.cell? ⟨gl, i * 7 + 5, none⟩ = _ := hcc 5 _ rfl; have hy6 := box5z Kg6.out))
      dsimp only at hl2 hF2
      obtain ⟨w8, e8, K8, hf8⟩ := put5_ Kg6.out (.int .i64 kd) (.slice A2 bd.length c2) (.int .i64 ho) (.int .i64 pa) (.int .i64 qu)
      rw [← e8]
      have n0_ := CU.out.put5 CU0.out Kg6.out HG6.out (CU.out.1.ne_blk Kg6.out (by decide)) (.int .i64 kd) (.slice A2 bd.length c2) (.int .i64 ho) (.int .i64 pa) (.int .i64 qu)
      obtain ⟨w8', e8', C8, _, _⟩ := n0_
      obtain rfl : w8 = w8' := e8.trans e8'.symm
      have n1_ := Aside0.mk (Kd.N_step HN.out (fun k_ ho _ => hf8 k_ ho.2))
      have n2_ := Aside0.mk (Kd.F_mono (Kd.F_step hF2 (fun k_ ho _ => hf8 k_ ho.1.2)) (fun k_ h_ => h_.1))
      have n3_ := Aside0.mk ((hf8 g3 (by have := HG3.out; have := HG6.out; omega)).trans Kg3.out)
      clear HN CU Kg3 Kg6 e8 e8' hF2 hcc hfr hy6 hf8
      have HN := n1_
      have CU := Aside0.mk C8
      have Kg3 := n3_
      have Kg6 := Aside0.mk K8
      have FB := n2_
      clear n1_ n2_ n3_ C8 K8
      have hbd := below_drew1 (Below.refl w8.heap.size w8)
      have n0_ := Aside0.mk (CU.out.below hbd)
      have n1_ := Aside0.mk (Kd.N_below HN.out hbd)
      have n2_ := Aside0.mk (Kd.F_below FB.out hbd)
      have n3_ := Aside0.mk (blk_below Kg3.out hbd)
      have n6_ := Aside0.mk (blk_below Kg6.out hbd)
      refine start_ (n := 4) (S := fun w' => w'.heap[g6]? = some (.cells #[.int .i64 kd, .slice A2 bd.length c2, .int .i64 ho, .int .i64 pa, .int .i64 qu] 36 (0, 0))) (ds := [3]) (mk 4 0) (by kernel_rfl) rfl rfl n6_.out (fun hHeld => ?_)
      refine with_tabW spec_DrawPutPart.tab6 spec_DrawPutPart.bits6 (fun HT_ HW_ => ?_)
      generalize w8.drew = wd at n0_ n1_ n2_ n3_ n6_ hHeld ⊢
      refine on_ 0 28 (mk 4 0x1) ?_
      refine on_ 2 2 (mk 4 0x5) ?_
      refine rd_ 1 29 (mk 4 0x7) (hy := by (intro w' hS_; have hz_ := box5z hS_; go_simp; with_reducible rfl)) ?_
      have hy3 := box5z n3_.out
      obtain ⟨wf, ef, KF, hf⟩ := put5_ n3_.out (.int .i64 kd) (.slice A2 bd.length c2) (.int .i64 ho) (.int .i64 pa) (.int .i64 qu)
      refine last_ (i := 3) (N := none) (mk 4 0xF) rfl rfl (one_of HT_.out (by kernel_rfl)) (by decide) (fun K hK => ?_)
      refine skip_ (w1 := wf) (by rfl) rfl (by rw [ef]; first | (go_simp; done) | (go_simp; rfl)) ?_
      refine hK.out _ _ ?_
      clear hK K
      have HBF : Below w.heap.size w wf := ef ▸ (below_set (below_set (below_set (below_set (below_set n0_.out.2.1 Ng3.out) Ng3.out) Ng3.out) Ng3.out) Ng3.out)
      clear ef
      refine dn_ ?_
      go_wp2
      refine bodyPost_ret (results_tc rfl _ _ g3 36 #[.int .i64 kd, .slice A2 bd.length c2, .int .i64 ho, .int .i64 pa, .int .i64 qu] (0, 0) _ rfl KF Try.underlying36 rfl (by kernel_rfl)) rfl ?_
      refine ⟨(some ⟨gl, 0, none⟩), cl, A2, c2, rfl, (Kd.N_reads' HN.out).2.1, (Kd.N_reads' (Kd.N_step n1_.out (fun k_ ho _ => hf k_ (by have := ho.1; have := HG3.out; omega)))).2.2, hl2, Kd.F_now (Kd.F_step n2_.out (fun k_ ho _ => hf k_ (by have := ho.1; have := HG3.out; omega))), HBF⟩
    · replace c1 := Bool.eq_false_iff.mpr c1
      subst c1
      rw [if_neg (show ¬ (false = true) by decide)] at H
      simp only [Option.some.injEq, Prod.mk.injEq] at H
      obtain ⟨rfl, rfl, rfl, rfl, rfl, rfl⟩ := H
      go_upto_region 6 with (first | (go_at_call 53; refine (spec_l1Once.calls g s _ _ 3 _ a3 b3 w _ CU.out.1 CU.out.2.1 A4.out).mono ?_; rintro e w6 ⟨rfl, hi, hb, hk⟩; have nN_ := Aside0.mk (Kd.N_keep HN.out hk (fun k_ h_ => by have := h_.1; have := HG2.out; omega)); clear HN; have nF_ := Aside0.mk (Kd.F_step HR.out (fun k_ ho hlt => hk.2 k_ hlt (by have := ho.1; have := HG2.out; omega) (by simp))); clear HR; have n0_ := Aside0.mk (CU.out.call hi hb hk); have nKg3_ := Aside0.mk (blk_keep Kg3.out hk (CU.out.1.ne_blk Kg3.out (by decide))); have nKg6_ := Aside0.mk (blk_keep Kg6.out hk (CU.out.1.ne_blk Kg6.out (by decide))); clear CU hi hb hk Kg3 Kg6; have CU := n0_; have Kg3 := nKg3_; have Kg6 := nKg6_; clear n0_ nKg3_ nKg6_; have HN := nN_; have HR := nF_; clear nN_ nF_))
      have hbd := below_drew1 (Below.refl w6.heap.size w6)
      have n0_ := Aside0.mk (CU.out.below hbd)
      have n1_ := Aside0.mk (Kd.N_below HN.out hbd)
      have n2_ := Aside0.mk (Kd.F_below HR.out hbd)
      have n3_ := Aside0.mk (blk_below Kg3.out hbd)
      have n6_ := Aside0.mk (blk_below Kg6.out hbd)
      refine start_ (n := 4) (S := fun w' => w'.heap[g6]? = some (.cells #[.int .i64 y0, .slice A5 yl.length c5, .int .i64 y2, .int .i64 y3, .int .i64 y4] 36 (0, 0))) (ds := [3]) (mk 4 0) (by kernel_rfl) rfl rfl n6_.out (fun hHeld => ?_)
      refine with_tabW spec_DrawPutPart.tab6 spec_DrawPutPart.bits6 (fun HT_ HW_ => ?_)
      generalize w6.drew = wd at n0_ n1_ n2_ n3_ n6_ hHeld ⊢
      refine on_ 0 28 (mk 4 0x1) ?_
      refine on_ 2 2 (mk 4 0x5) ?_
      refine rd_ 1 29 (mk 4 0x7) (hy := by (intro w' hS_; have hz_ := box5z hS_; go_simp; with_reducible rfl)) ?_
      have hy3 := box5z n3_.out
      obtain ⟨wf, ef, KF, hf⟩ := put5_ n3_.out (.int .i64 y0) (.slice A5 yl.length c5) (.int .i64 y2) (.int .i64 y3) (.int .i64 y4)
      refine last_ (i := 3) (N := none) (mk 4 0xF) rfl rfl (one_of HT_.out (by kernel_rfl)) (by decide) (fun K hK => ?_)
      refine skip_ (w1 := wf) (by rfl) rfl (by rw [ef]; first | (go_simp; done) | (go_simp; rfl)) ?_
      refine hK.out _ _ ?_
      clear hK K
      have HBF : Below w.heap.size w wf := ef ▸ (below_set (below_set (below_set (below_set (below_set n0_.out.2.1 Ng3.out) Ng3.out) Ng3.out) Ng3.out) Ng3.out)
      clear ef
      refine dn_ ?_
      go_wp2
      refine bodyPost_ret (results_tc rfl _ _ g3 36 #[.int .i64 y0, .slice A5 yl.length c5, .int .i64 y2, .int .i64 y3, .int .i64 y4] (0, 0) _ rfl KF Try.underlying36 rfl (by kernel_rfl)) rfl ?_
      refine ⟨Al, cl, A5, c5, rfl, (Kd.N_reads' HN.out).2.1, (Kd.N_reads' (Kd.N_step n1_.out (fun k_ ho _ => hf k_ (by have := ho.1; have := HG3.out; omega)))).2.2, HRl.out, Kd.F_now (Kd.F_step n2_.out (fun k_ ho _ => hf k_ (by have := ho.1; have := HG3.out; omega))), HBF⟩
  · rw [if_neg c0] at H
    have c0b : decide (0 < (xs.length : Int)) = false := decide_eq_false c0
    have c0n : decide (0 < xs.length) = false := decide_eq_false (by omega)
    simp only [Option.some.injEq, Prod.mk.injEq] at H
    obtain ⟨rfl, rfl, rfl, rfl, rfl, rfl⟩ := H
    go_upto_region 6 with fail
    clear c0 c0b c0n
    have hbd := below_drew1 (Below.refl w5.heap.size w5)
    have n0_ := Aside0.mk (CU.out.below hbd)
    have n1_ := Aside0.mk (Kd.N_below HN.out hbd)
    have n2_ := Aside0.mk (Kd.F_below HR.out hbd)
    have n3_ := Aside0.mk (blk_below Kg3.out hbd)
    have n6_ := Aside0.mk (blk_below Kg6.out hbd)
    refine start_ (n := 4) (S := fun w' => w'.heap[g6]? = some (.cells #[.int .i64 y0, .slice A5 yl.length c5, .int .i64 y2, .int .i64 y3, .int .i64 y4] 36 (0, 0))) (ds := [3]) (mk 4 0) (by kernel_rfl) rfl rfl n6_.out (fun hHeld => ?_)
    refine with_tabW spec_DrawPutPart.tab6 spec_DrawPutPart.bits6 (fun HT_ HW_ => ?_)
    generalize w5.drew = wd at n0_ n1_ n2_ n3_ n6_ hHeld ⊢
    refine on_ 0 28 (mk 4 0x1) ?_
    refine on_ 2 2 (mk 4 0x5) ?_
    refine rd_ 1 29 (mk 4 0x7) (hy := by (intro w' hS_; have hz_ := box5z hS_; go_simp; with_reducible rfl)) ?_
    have hy3 := box5z n3_.out
    obtain ⟨wf, ef, KF, hf⟩ := put5_ n3_.out (.int .i64 y0) (.slice A5 yl.length c5) (.int .i64 y2) (.int .i64 y3) (.int .i64 y4)
    refine last_ (i := 3) (N := none) (mk 4 0xF) rfl rfl (one_of HT_.out (by kernel_rfl)) (by decide) (fun K hK => ?_)
    refine skip_ (w1 := wf) (by rfl) rfl (by rw [ef]; first | (go_simp; done) | (go_simp; rfl)) ?_
    refine hK.out _ _ ?_
    clear hK K
    have HBF : Below w.heap.size w wf := ef ▸ (below_set (below_set (below_set (below_set (below_set n0_.out.2.1 Ng3.out) Ng3.out) Ng3.out) Ng3.out) Ng3.out)
    clear ef
    refine dn_ ?_
    go_wp2
    refine bodyPost_ret (results_tc rfl _ _ g3 36 #[.int .i64 y0, .slice A5 yl.length c5, .int .i64 y2, .int .i64 y3, .int .i64 y4] (0, 0) _ rfl KF Try.underlying36 rfl (by kernel_rfl)) rfl ?_
    refine ⟨Al, cl, A5, c5, rfl, (Kd.N_reads' HN.out).2.1, (Kd.N_reads' (Kd.N_step n1_.out (fun k_ ho _ => hf k_ (by have := ho.1; have := HG3.out; omega)))).2.2, HRl.out, Kd.F_now (Kd.F_step n2_.out (fun k_ ho _ => hf k_ (by have := ho.1; have := HG3.out; omega))), HBF⟩

-- NOT PRINTED: function 55 (impl_Part_55)

/-! ### slices_Equal_int_int: function 64 -/
def slices_Equal_int_int.l0 : Nat → List Int → List Int → Int → Int → Option (Bool)
  | 0, _, _, _, _ => none
  | k + 1, x0, x1, x12, x13 => if x13 < x12 then (if 0 ≤ x13 then (if x13 < (x0.length : Int) then (if x13 < (x1.length : Int) then (if (rd x0 x13) = (rd x1 x13) then (slices_Equal_int_int.l0 k x0 x1 x12 (wrap64 (x13 + 1))) else (some false)) else (none)) else (none)) else (none)) else (some true)
def slices_Equal_int_int.f (k : Nat) (l0 : List Int) (l1 : List Int) : Option (Bool) := if (l0.length : Int) = (l1.length : Int) then (slices_Equal_int_int.l0 k l0 l1 (l0.length : Int) 0) else (some false)
set_option maxHeartbeats 8000000 in
set_option maxRecDepth 100000 in
theorem slices_Equal_int_int.calls (k : Nat) (A0 : Option Addr) (c0 : Nat) (l0 : List Int) (A1 : Option Addr) (c1 : Nat) (l1 : List Int) (r : Bool) (w : World) (hr0 : Kd.C (Kd.int .i64) w A0 l0.length l0) (hc0 : l0.length ≤ c0) (hr1 : Kd.C (Kd.int .i64) w A1 l1.length l1) (hc1 : l1.length ≤ c1) (h : slices_Equal_int_int.f k l0 l1 = some r) :
    Calls Try.prog 64 #[.slice A0 l0.length c0, .slice A1 l1.length c1] w fun e w' => e = .returned (.bool r) ∧ Drawn0 w w' := by
  have HR0 := Aside0.mk hr0
  have HC0 := Aside0.mk hc0
  clear hr0 hc0
  have HR1 := Aside0.mk hr1
  have HC1 := Aside0.mk hc1
  clear hr1 hc1
  have H : (if (l0.length : Int) = (l1.length : Int) then (slices_Equal_int_int.l0 k l0 l1 (l0.length : Int) 0) else (some false)) = some r := h
  clear h
  by_cases c3 : (l0.length : Int) = (l1.length : Int)
  · rw [if_pos c3] at H
    have c3b0 : ((l0.length : Int) == (l1.length : Int)) = true := beq_iff_eq.mpr c3
    have c3b1 : ((l0.length : Int) != (l1.length : Int)) = false := bne_eq_false_iff_eq.mpr c3
    have c3b2 : (l0.length == l1.length) = true := by first | simpa using c3 | (simp at c3 ⊢; omega)
    clear c3
    have H' := Aside0.mk H
    clear H
    go_enter Try.func64, Try.ntmps64
    go_wp2
    repeat (go_quiet (fail); try go_wp2)
    go_loopg [13] k (fun kq v13 w' => ∃ (x13_1 : Int), v13 = .int .i64 x13_1 ∧ Aside0 (slices_Equal_int_int.l0 kq l0 l1 (l0.length : Int) x13_1 = some r) ∧ Aside0 (kq ≤ k) ∧ Drawn0 w w')
    case atStart => exact ⟨(0), (by first | rfl | (simp; done) | (simp [*]; done)), H', ⟨Nat.le_refl _⟩, by repeat (first | exact Drawn0.refl _ | apply Drawn0.step)⟩
    case round =>
      clear H'
      try clear c1
      try clear p2
      try clear c3
      try clear c3b0
      try clear c3b1
      try clear c3b2
      obtain ⟨x13_1, rfl, HA, HK1, ⟨m1, rfl⟩⟩ := hrel
      cases gk with
      | zero => exact absurd HA.out (by simp [slices_Equal_int_int.l0])
      | succ k1 =>
        have H := HA.out
        clear HA
        simp only [slices_Equal_int_int.l0] at H
        by_cases c4 : x13_1 < (l0.length : Int)
        · rw [if_pos c4] at H
          have c4b0 : decide (x13_1 < (l0.length : Int)) = true := decide_eq_true c4
          clear c4
          by_cases c5 : 0 ≤ x13_1
          · rw [if_pos c5] at H
            have c5b0 : decide (0 ≤ x13_1) = true := decide_eq_true c5
            clear c5
            by_cases c6 : x13_1 < (l0.length : Int)
            · rw [if_pos c6] at H
              have c6b0 : decide (x13_1 < (l0.length : Int)) = true := decide_eq_true c6
              clear c6
              by_cases c7 : x13_1 < (l1.length : Int)
              · rw [if_pos c7] at H
                have c7b0 : decide (x13_1 < (l1.length : Int)) = true := decide_eq_true c7
                clear c7
                by_cases c8 : (rd l0 x13_1) = (rd l1 x13_1)
                · rw [if_pos c8] at H
                  have c8b0 : ((rd l0 x13_1) == (rd l1 x13_1)) = true := beq_iff_eq.mpr c8
                  have c8b1 : ((rd l0 x13_1) != (rd l1 x13_1)) = false := bne_eq_false_iff_eq.mpr c8
                  clear c8
                  have H' := Aside0.mk H
                  clear H
                  have p508 : 0 ≤ (x13_1 : Int) := of_decide_eq_true (by first | (with_reducible assumption) | assumption)
                  have q508 : x13_1 < (l0.length : Int) := of_decide_eq_true (by first | (with_reducible assumption) | assumption)
                  obtain ⟨ad508, e508, hx508_0⟩ := Kd.at_int HR0.out x13_1 p508 q508
                  cases e508
                  replace p508 := eq_true p508
                  replace q508 := eq_true q508
                  have p509 : 0 ≤ (x13_1 : Int) := of_decide_eq_true (by first | (with_reducible assumption) | assumption)
                  have q509 : x13_1 < (l1.length : Int) := of_decide_eq_true (by first | (with_reducible assumption) | assumption)
                  obtain ⟨ad509, e509, hx509_0⟩ := Kd.at_int HR1.out x13_1 p509 q509
                  cases e509
                  replace p509 := eq_true p509
                  replace q509 := eq_true q509
                  go_wp2
                  repeat (go_quiet (fail); try go_wp2)
                  go_roundg k1
                  case measure => have := HK1.out; omega
                  case rel => exact ⟨(wrap64 (x13_1 + 1)), (by first | rfl | (simp; done) | (simp [*]; done)), H', ⟨by have := HK1.out; omega⟩, by repeat (first | exact Drawn0.refl _ | apply Drawn0.step)⟩
                · rw [if_neg c8] at H
                  have c8b0 : ((rd l0 x13_1) == (rd l1 x13_1)) = false := beq_eq_false_iff_ne.mpr c8
                  have c8b1 : ((rd l0 x13_1) != (rd l1 x13_1)) = true := bne_iff_ne.mpr c8
                  obtain rfl := Option.some.inj H
                  have p508 : 0 ≤ (x13_1 : Int) := of_decide_eq_true (by first | (with_reducible assumption) | assumption)
                  have q508 : x13_1 < (l0.length : Int) := of_decide_eq_true (by first | (with_reducible assumption) | assumption)
                  obtain ⟨ad508, e508, hx508_0⟩ := Kd.at_int HR0.out x13_1 p508 q508
                  cases e508
                  replace p508 := eq_true p508
                  replace q508 := eq_true q508
                  have p509 : 0 ≤ (x13_1 : Int) := of_decide_eq_true (by first | (with_reducible assumption) | assumption)
                  have q509 : x13_1 < (l1.length : Int) := of_decide_eq_true (by first | (with_reducible assumption) | assumption)
                  obtain ⟨ad509, e509, hx509_0⟩ := Kd.at_int HR1.out x13_1 p509 q509
                  cases e509
                  replace p509 := eq_true p509
                  replace q509 := eq_true q509
                  go_wp2
                  repeat (go_quiet (fail); try go_wp2)
                  go_ret
                  exact ⟨by first | rfl | (simp; done) | (simp [*]; done), by repeat (first | exact Drawn0.refl _ | apply Drawn0.step)⟩
              · rw [if_neg c7] at H
                exact absurd H (by simp)
            · rw [if_neg c6] at H
              exact absurd H (by simp)
          · rw [if_neg c5] at H
            exact absurd H (by simp)
        · rw [if_neg c4] at H
          have c4b0 : decide (x13_1 < (l0.length : Int)) = false := decide_eq_false c4
          clear c4
          obtain rfl := Option.some.inj H
          go_wp2
          repeat (go_quiet (fail); try go_wp2)
          go_ret
          exact ⟨by first | rfl | (simp; done) | (simp [*]; done), by repeat (first | exact Drawn0.refl _ | apply Drawn0.step)⟩
  · rw [if_neg c3] at H
    have c3b0 : ((l0.length : Int) == (l1.length : Int)) = false := beq_eq_false_iff_ne.mpr c3
    have c3b1 : ((l0.length : Int) != (l1.length : Int)) = true := bne_iff_ne.mpr c3
    have c3b2 : (l0.length == l1.length) = false := by first | simpa using c3 | (simp at c3 ⊢; omega)
    obtain rfl := Option.some.inj H
    go_enter Try.func64, Try.ntmps64
    go_wp2
    repeat (go_quiet (fail); try go_wp2)
    go_ret
    exact ⟨by first | rfl | (simp; done) | (simp [*]; done), by repeat (first | exact Drawn0.refl _ | apply Drawn0.step)⟩

/-! ### impl_EqualResources: function 26 -/
def impl_EqualResources.f (k : Nat) (a0_0 : Int) (l0_1 : List Int) (a0_2 : Int) (a0_3 : Int) (a0_4 : Int) (a1_0 : Int) (l1_1 : List Int) (a1_2 : Int) (a1_3 : Int) (a1_4 : Int) : Option (Bool) := if a0_0 = a1_0 then (if (a0_2 == a1_2 && (a0_3 == a1_3 && (a0_4 == a1_4))) = true then ((slices_Equal_int_int.f k l0_1 l1_1).bind fun t512 => (some t512)) else (some false)) else (some false)
set_option maxHeartbeats 8000000 in
set_option maxRecDepth 100000 in
theorem impl_EqualResources.calls (k : Nat) (a0_0 : Int) (A0_1 : Option Addr) (c0_1 : Nat) (l0_1 : List Int) (a0_2 : Int) (a0_3 : Int) (a0_4 : Int) (a1_0 : Int) (A1_1 : Option Addr) (c1_1 : Nat) (l1_1 : List Int) (a1_2 : Int) (a1_3 : Int) (a1_4 : Int) (r : Bool) (w : World) (hr0_1 : Kd.C (Kd.int .i64) w A0_1 l0_1.length l0_1) (hc0_1 : l0_1.length ≤ c0_1) (hr1_1 : Kd.C (Kd.int .i64) w A1_1 l1_1.length l1_1) (hc1_1 : l1_1.length ≤ c1_1) (h : impl_EqualResources.f k a0_0 l0_1 a0_2 a0_3 a0_4 a1_0 l1_1 a1_2 a1_3 a1_4 = some r) :
    Calls Try.prog 26 #[.agg #[.int .i64 a0_0, .slice A0_1 l0_1.length c0_1, .int .i64 a0_2, .int .i64 a0_3, .int .i64 a0_4], .agg #[.int .i64 a1_0, .slice A1_1 l1_1.length c1_1, .int .i64 a1_2, .int .i64 a1_3, .int .i64 a1_4]] w fun e w' => e = .returned (.bool r) ∧ Below w.heap.size w w' := by
  have hu36 := Try.underlying36
  have hu34 := Try.underlying34
  have HR0_1 := Aside0.mk hr0_1
  have HC0_1 := Aside0.mk hc0_1
  clear hr0_1 hc0_1
  have HR1_1 := Aside0.mk hr1_1
  have HC1_1 := Aside0.mk hc1_1
  clear hr1_1 hc1_1
  have HB := Aside0.mk (Below.refl w.heap.size w)
  have H : (if a0_0 = a1_0 then (if (a0_2 == a1_2 && (a0_3 == a1_3 && (a0_4 == a1_4))) = true then ((slices_Equal_int_int.f k l0_1 l1_1).bind fun t512 => (some t512)) else (some false)) else (some false)) = some r := h
  clear h
  by_cases c3 : a0_0 = a1_0
  · rw [if_pos c3] at H
    have c3b0 : (a0_0 == a1_0) = true := beq_iff_eq.mpr c3
    have c3b1 : (a0_0 != a1_0) = false := bne_eq_false_iff_eq.mpr c3
    clear c3
    by_cases c4 : (a0_2 == a1_2 && (a0_3 == a1_3 && (a0_4 == a1_4))) = true
    · rw [if_pos c4] at H
      have c4b0 : (a0_2 == a1_2 && (a0_3 == a1_3 && (a0_4 == a1_4))) = true := c4
      (try (have c4b1 : decide (a0_2 = a1_2 && (a0_3 == a1_3 && (a0_4 == a1_4))) = true := by simpa using c4))
      (try (have c4b2 : (a0_2 == a1_2 && (a0_3 == a1_3 && (a0_4 == a1_4))) = true := by simpa using c4))
      clear c4
      replace H := Option.bind_eq_some_iff.mp H
      obtain ⟨t512, A50, H⟩ := H
      replace H : (some t512) = some r := H
      have A5 := Aside0.mk A50
      clear A50
      obtain rfl := Option.some.inj H
      go_enter Try.func26, Try.ntmps26
      go_wp2_with (first | ((with_reducible refine gate_dst (N := 2) rfl ?_); refine box_event ?hg (N := 2) ?hd (cs := #[.int .i64 a0_0, .slice A0_1 l0_1.length c0_1, .int .i64 a0_2, .int .i64 a0_3, .int .i64 a0_4]) (t := 36) ?hr ?_; (case hd => rfl); (case hg => rfl); (case hr => first | (go_simp; done) | (go_simp; rfl)); intro gb510 hg w6 hbox hb; have n0_ := Aside0.mk (below_step (by repeat (first | (with_reducible first | exact HB.out | apply below_alloc | apply pw_below_drewN | apply below_drew1) | exact HB.out)) hb); have n1_ := Aside0.mk (hbox); have n2_ := Aside0.mk ((by rw [hg]; exact (below_size (by repeat (first | (with_reducible first | exact HB.out | apply below_alloc | apply pw_below_drewN | apply below_drew1) | exact HB.out))) : w.heap.size ≤ gb510)); have n3_ := Aside0.mk ((by rw [hg]; exact (below_size (by repeat (first | (with_reducible first | exact HB.out | apply below_alloc | apply pw_below_drewN | apply below_drew1) | exact HB.out))) : w.heap.size ≤ gb510)); clear HB; have HB := n0_; have BK510 := n1_; have GW510 := n2_; have GE510 := n3_; clear n0_ n1_ n2_ n3_; clear hb hbox hg) | ((with_reducible refine gate_dst (N := 3) rfl ?_); refine box_event ?hg (N := 3) ?hd (cs := #[.int .i64 a1_0, .slice A1_1 l1_1.length c1_1, .int .i64 a1_2, .int .i64 a1_3, .int .i64 a1_4]) (t := 36) ?hr ?_; (case hd => rfl); (case hg => rfl); (case hr => first | (go_simp; done) | (go_simp; rfl)); intro gb511 hg w7 hbox hb; have n0_ := Aside0.mk (blk_below (g := gb510) (o := .cells #[.int .i64 a0_0, .slice A0_1 l0_1.length c0_1, .int .i64 a0_2, .int .i64 a0_3, .int .i64 a0_4] 36 (0, 0)) (by (with_reducible repeat (first | refine blk_drewN ?_ _ | refine blk_drew ?_ | refine blk_alloc ?_ _)); exact BK510.out) hb); have n1_ := Aside0.mk (below_step (by repeat (first | (with_reducible first | exact HB.out | apply below_alloc | apply pw_below_drewN | apply below_drew1 | refine below_set ?_ GE510.out) | exact HB.out)) hb); have n2_ := Aside0.mk (hbox); have n3_ := Aside0.mk ((by rw [hg]; exact (below_size (by repeat (first | (with_reducible first | exact HB.out | apply below_alloc | apply pw_below_drewN | apply below_drew1 | refine below_set ?_ GE510.out) | exact HB.out))) : w.heap.size ≤ gb511)); have n4_ := Aside0.mk ((by rw [hg]; exact (below_size (by repeat (first | (with_reducible first | exact HB.out | apply below_alloc | apply pw_below_drewN | apply below_drew1 | refine below_set ?_ GE510.out) | exact HB.out))) : w.heap.size ≤ gb511)); have n5_ := Aside0.mk ((by rw [hg]; exact Nat.ne_of_lt (blk_lt (g := gb510) (o := .cells #[.int .i64 a0_0, .slice A0_1 l0_1.length c0_1, .int .i64 a0_2, .int .i64 a0_3, .int .i64 a0_4] 36 (0, 0)) (by (with_reducible repeat (first | refine blk_drewN ?_ _ | refine blk_drew ?_ | refine blk_alloc ?_ _)); exact BK510.out)) : gb510 ≠ gb511)); have n6_ := Aside0.mk ((by rw [hg]; exact Nat.ne_of_gt (blk_lt (g := gb510) (o := .cells #[.int .i64 a0_0, .slice A0_1 l0_1.length c0_1, .int .i64 a0_2, .int .i64 a0_3, .int .i64 a0_4] 36 (0, 0)) (by (with_reducible repeat (first | refine blk_drewN ?_ _ | refine blk_drew ?_ | refine blk_alloc ?_ _)); exact BK510.out)) : gb511 ≠ gb510)); clear BK510; clear HB; have BK510 := n0_; have HB := n1_; have BK511 := n2_; have GW511 := n3_; have GE511 := n4_; have NB510_511 := n5_; have NB511_510 := n6_; clear n0_ n1_ n2_ n3_ n4_ n5_ n6_; clear hb hbox hg; have hnb8 := NB510_511.out; have hnc8 := NB511_510.out; have hcz9_0 : w7.cell? ⟨gb510, 0, none⟩ = some (.int .i64 a0_0) := (blk_cell BK510.out 0).trans rfl; have hcz9_1 : w7.cell? ⟨gb510, 1, none⟩ = some (.slice A0_1 l0_1.length c0_1) := (blk_cell BK510.out 1).trans rfl; have hcz9_2 : w7.cell? ⟨gb510, 2, none⟩ = some (.int .i64 a0_2) := (blk_cell BK510.out 2).trans rfl; have hcz9_3 : w7.cell? ⟨gb510, 3, none⟩ = some (.int .i64 a0_3) := (blk_cell BK510.out 3).trans rfl; have hcz9_4 : w7.cell? ⟨gb510, 4, none⟩ = some (.int .i64 a0_4) := (blk_cell BK510.out 4).trans rfl; have hfz9_0 := blk_frozen BK510.out 0; have hfz9_1 := blk_frozen BK510.out 1; have hfz9_2 := blk_frozen BK510.out 2; have hfz9_3 := blk_frozen BK510.out 3; have hfz9_4 := blk_frozen BK510.out 4; have hcz10_0 : w7.cell? ⟨gb511, 0, none⟩ = some (.int .i64 a1_0) := (blk_cell BK511.out 0).trans rfl; have hcz10_1 : w7.cell? ⟨gb511, 1, none⟩ = some (.slice A1_1 l1_1.length c1_1) := (blk_cell BK511.out 1).trans rfl; have hcz10_2 : w7.cell? ⟨gb511, 2, none⟩ = some (.int .i64 a1_2) := (blk_cell BK511.out 2).trans rfl; have hcz10_3 : w7.cell? ⟨gb511, 3, none⟩ = some (.int .i64 a1_3) := (blk_cell BK511.out 3).trans rfl; have hcz10_4 : w7.cell? ⟨gb511, 4, none⟩ = some (.int .i64 a1_4) := (blk_cell BK511.out 4).trans rfl; have hfz10_0 := blk_frozen BK511.out 0; have hfz10_1 := blk_frozen BK511.out 1; have hfz10_2 := blk_frozen BK511.out 2; have hfz10_3 := blk_frozen BK511.out 3; have hfz10_4 := blk_frozen BK511.out 4) | (go_at_call 64; (with_reducible refine (slices_Equal_int_int.calls k _ _ l0_1 _ _ l1_1 t512 _ ?side1 ?side2 ?side3 ?side4 A5.out).mono ?_); (case side1 => repeat (first | exact (Kd.C_below HR0_1.out HB.out) | (with_reducible refine Kd.C_alloc ?_ _) | (with_reducible refine Kd.C_drewN ?_ _) | (with_reducible refine Kd.C_drew ?_))); (case side2 => exact HC0_1.out); (case side3 => repeat (first | exact (Kd.C_below HR1_1.out HB.out) | (with_reducible refine Kd.C_alloc ?_ _) | (with_reducible refine Kd.C_drewN ?_ _) | (with_reducible refine Kd.C_drew ?_))); (case side4 => exact HC1_1.out); rintro e w' ⟨rfl, ⟨nd, rfl⟩⟩))
      go_ret
      exact ⟨by first | rfl | (simp [errW_none, errW_some] <;> rfl) | (simp [*, errW_none, errW_some] <;> rfl), by repeat (first | (with_reducible first | exact HB.out | apply below_alloc | apply pw_below_drewN | apply below_drew1 | refine below_set ?_ GE510.out | refine below_set ?_ GE511.out) | exact HB.out)⟩
    · rw [if_neg c4] at H
      have c4b0 : (a0_2 == a1_2 && (a0_3 == a1_3 && (a0_4 == a1_4))) = false := by simpa using c4
      (try (have c4b1 : decide (a0_2 = a1_2 && (a0_3 == a1_3 && (a0_4 == a1_4))) = false := by simpa using c4))
      (try (have c4b2 : (a0_2 == a1_2 && (a0_3 == a1_3 && (a0_4 == a1_4))) = false := by simpa using c4))
      (try (have c4b3 : ¬ (a0_2 = a1_2 && (a0_3 == a1_3 && (a0_4 == a1_4))) := by simpa using c4))
      clear c4
      obtain rfl := Option.some.inj H
      go_enter Try.func26, Try.ntmps26
      go_wp2_with (first | ((with_reducible refine gate_dst (N := 2) rfl ?_); refine box_event ?hg (N := 2) ?hd (cs := #[.int .i64 a0_0, .slice A0_1 l0_1.length c0_1, .int .i64 a0_2, .int .i64 a0_3, .int .i64 a0_4]) (t := 36) ?hr ?_; (case hd => rfl); (case hg => rfl); (case hr => first | (go_simp; done) | (go_simp; rfl)); intro gb510 hg w11 hbox hb; have n0_ := Aside0.mk (below_step (by repeat (first | (with_reducible first | exact HB.out | apply below_alloc | apply pw_below_drewN | apply below_drew1) | exact HB.out)) hb); have n1_ := Aside0.mk (hbox); have n2_ := Aside0.mk ((by rw [hg]; exact (below_size (by repeat (first | (with_reducible first | exact HB.out | apply below_alloc | apply pw_below_drewN | apply below_drew1) | exact HB.out))) : w.heap.size ≤ gb510)); have n3_ := Aside0.mk ((by rw [hg]; exact (below_size (by repeat (first | (with_reducible first | exact HB.out | apply below_alloc | apply pw_below_drewN | apply below_drew1) | exact HB.out))) : w.heap.size ≤ gb510)); clear HB; have HB := n0_; have BK510 := n1_; have GW510 := n2_; have GE510 := n3_; clear n0_ n1_ n2_ n3_; clear hb hbox hg) | ((with_reducible refine gate_dst (N := 3) rfl ?_); refine box_event ?hg (N := 3) ?hd (cs := #[.int .i64 a1_0, .slice A1_1 l1_1.length c1_1, .int .i64 a1_2, .int .i64 a1_3, .int .i64 a1_4]) (t := 36) ?hr ?_; (case hd => rfl); (case hg => rfl); (case hr => first | (go_simp; done) | (go_simp; rfl)); intro gb511 hg w12 hbox hb; have n0_ := Aside0.mk (blk_below (g := gb510) (o := .cells #[.int .i64 a0_0, .slice A0_1 l0_1.length c0_1, .int .i64 a0_2, .int .i64 a0_3, .int .i64 a0_4] 36 (0, 0)) (by (with_reducible repeat (first | refine blk_drewN ?_ _ | refine blk_drew ?_ | refine blk_alloc ?_ _)); exact BK510.out) hb); have n1_ := Aside0.mk (below_step (by repeat (first | (with_reducible first | exact HB.out | apply below_alloc | apply pw_below_drewN | apply below_drew1 | refine below_set ?_ GE510.out) | exact HB.out)) hb); have n2_ := Aside0.mk (hbox); have n3_ := Aside0.mk ((by rw [hg]; exact (below_size (by repeat (first | (with_reducible first | exact HB.out | apply below_alloc | apply pw_below_drewN | apply below_drew1 | refine below_set ?_ GE510.out) | exact HB.out))) : w.heap.size ≤ gb511)); have n4_ := Aside0.mk ((by rw [hg]; exact (below_size (by repeat (first | (with_reducible first | exact HB.out | apply below_alloc | apply pw_below_drewN | apply below_drew1 | refine below_set ?_ GE510.out) | exact HB.out))) : w.heap.size ≤ gb511)); have n5_ := Aside0.mk ((by rw [hg]; exact Nat.ne_of_lt (blk_lt (g := gb510) (o := .cells #[.int .i64 a0_0, .slice A0_1 l0_1.length c0_1, .int .i64 a0_2, .int .i64 a0_3, .int .i64 a0_4] 36 (0, 0)) (by (with_reducible repeat (first | refine blk_drewN ?_ _ | refine blk_drew ?_ | refine blk_alloc ?_ _)); exact BK510.out)) : gb510 ≠ gb511)); have n6_ := Aside0.mk ((by rw [hg]; exact Nat.ne_of_gt (blk_lt (g := gb510) (o := .cells #[.int .i64 a0_0, .slice A0_1 l0_1.length c0_1, .int .i64 a0_2, .int .i64 a0_3, .int .i64 a0_4] 36 (0, 0)) (by (with_reducible repeat (first | refine blk_drewN ?_ _ | refine blk_drew ?_ | refine blk_alloc ?_ _)); exact BK510.out)) : gb511 ≠ gb510)); clear BK510; clear HB; have BK510 := n0_; have HB := n1_; have BK511 := n2_; have GW511 := n3_; have GE511 := n4_; have NB510_511 := n5_; have NB511_510 := n6_; clear n0_ n1_ n2_ n3_ n4_ n5_ n6_; clear hb hbox hg; have hnb13 := NB510_511.out; have hnc13 := NB511_510.out; have hcz14_0 : w12.cell? ⟨gb510, 0, none⟩ = some (.int .i64 a0_0) := (blk_cell BK510.out 0).trans rfl; have hcz14_1 : w12.cell? ⟨gb510, 1, none⟩ = some (.slice A0_1 l0_1.length c0_1) := (blk_cell BK510.out 1).trans rfl; have hcz14_2 : w12.cell? ⟨gb510, 2, none⟩ = some (.int .i64 a0_2) := (blk_cell BK510.out 2).trans rfl; have hcz14_3 : w12.cell? ⟨gb510, 3, none⟩ = some (.int .i64 a0_3) := (blk_cell BK510.out 3).trans rfl; have hcz14_4 : w12.cell? ⟨gb510, 4, none⟩ = some (.int .i64 a0_4) := (blk_cell BK510.out 4).trans rfl; have hfz14_0 := blk_frozen BK510.out 0; have hfz14_1 := blk_frozen BK510.out 1; have hfz14_2 := blk_frozen BK510.out 2; have hfz14_3 := blk_frozen BK510.out 3; have hfz14_4 := blk_frozen BK510.out 4; have hcz15_0 : w12.cell? ⟨gb511, 0, none⟩ = some (.int .i64 a1_0) := (blk_cell BK511.out 0).trans rfl; have hcz15_1 : w12.cell? ⟨gb511, 1, none⟩ = some (.slice A1_1 l1_1.length c1_1) := (blk_cell BK511.out 1).trans rfl; have hcz15_2 : w12.cell? ⟨gb511, 2, none⟩ = some (.int .i64 a1_2) := (blk_cell BK511.out 2).trans rfl; have hcz15_3 : w12.cell? ⟨gb511, 3, none⟩ = some (.int .i64 a1_3) := (blk_cell BK511.out 3).trans rfl; have hcz15_4 : w12.cell? ⟨gb511, 4, none⟩ = some (.int .i64 a1_4) := (blk_cell BK511.out 4).trans rfl; have hfz15_0 := blk_frozen BK511.out 0; have hfz15_1 := blk_frozen BK511.out 1; have hfz15_2 := blk_frozen BK511.out 2; have hfz15_3 := blk_frozen BK511.out 3; have hfz15_4 := blk_frozen BK511.out 4))
      go_ret
      exact ⟨by first | rfl | (simp [errW_none, errW_some] <;> rfl) | (simp [*, errW_none, errW_some] <;> rfl), by repeat (first | (with_reducible first | exact HB.out | apply below_alloc | apply pw_below_drewN | apply below_drew1 | refine below_set ?_ GE510.out | refine below_set ?_ GE511.out) | exact HB.out)⟩
  · rw [if_neg c3] at H
    have c3b0 : (a0_0 == a1_0) = false := beq_eq_false_iff_ne.mpr c3
    have c3b1 : (a0_0 != a1_0) = true := bne_iff_ne.mpr c3
    obtain rfl := Option.some.inj H
    go_enter Try.func26, Try.ntmps26
    go_wp2_with (first | ((with_reducible refine gate_dst (N := 2) rfl ?_); refine box_event ?hg (N := 2) ?hd (cs := #[.int .i64 a0_0, .slice A0_1 l0_1.length c0_1, .int .i64 a0_2, .int .i64 a0_3, .int .i64 a0_4]) (t := 36) ?hr ?_; (case hd => rfl); (case hg => rfl); (case hr => first | (go_simp; done) | (go_simp; rfl)); intro gb510 hg w16 hbox hb; have n0_ := Aside0.mk (below_step (by repeat (first | (with_reducible first | exact HB.out | apply below_alloc | apply pw_below_drewN | apply below_drew1) | exact HB.out)) hb); have n1_ := Aside0.mk (hbox); have n2_ := Aside0.mk ((by rw [hg]; exact (below_size (by repeat (first | (with_reducible first | exact HB.out | apply below_alloc | apply pw_below_drewN | apply below_drew1) | exact HB.out))) : w.heap.size ≤ gb510)); have n3_ := Aside0.mk ((by rw [hg]; exact (below_size (by repeat (first | (with_reducible first | exact HB.out | apply below_alloc | apply pw_below_drewN | apply below_drew1) | exact HB.out))) : w.heap.size ≤ gb510)); clear HB; have HB := n0_; have BK510 := n1_; have GW510 := n2_; have GE510 := n3_; clear n0_ n1_ n2_ n3_; clear hb hbox hg) | ((with_reducible refine gate_dst (N := 3) rfl ?_); refine box_event ?hg (N := 3) ?hd (cs := #[.int .i64 a1_0, .slice A1_1 l1_1.length c1_1, .int .i64 a1_2, .int .i64 a1_3, .int .i64 a1_4]) (t := 36) ?hr ?_; (case hd => rfl); (case hg => rfl); (case hr => first | (go_simp; done) | (go_simp; rfl)); intro gb511 hg w17 hbox hb; have n0_ := Aside0.mk (blk_below (g := gb510) (o := .cells #[.int .i64 a0_0, .slice A0_1 l0_1.length c0_1, .int .i64 a0_2, .int .i64 a0_3, .int .i64 a0_4] 36 (0, 0)) (by (with_reducible repeat (first | refine blk_drewN ?_ _ | refine blk_drew ?_ | refine blk_alloc ?_ _)); exact BK510.out) hb); have n1_ := Aside0.mk (below_step (by repeat (first | (with_reducible first | exact HB.out | apply below_alloc | apply pw_below_drewN | apply below_drew1 | refine below_set ?_ GE510.out) | exact HB.out)) hb); have n2_ := Aside0.mk (hbox); have n3_ := Aside0.mk ((by rw [hg]; exact (below_size (by repeat (first | (with_reducible first | exact HB.out | apply below_alloc | apply pw_below_drewN | apply below_drew1 | refine below_set ?_ GE510.out) | exact HB.out))) : w.heap.size ≤ gb511)); have n4_ := Aside0.mk ((by rw [hg]; exact (below_size (by repeat (first | (with_reducible first | exact HB.out | apply below_alloc | apply pw_below_drewN | apply below_drew1 | refine below_set ?_ GE510.out) | exact HB.out))) : w.heap.size ≤ gb511)); have n5_ := Aside0.mk ((by rw [hg]; exact Nat.ne_of_lt (blk_lt (g := gb510) (o := .cells #[.int .i64 a0_0, .slice A0_1 l0_1.length c0_1, .int .i64 a0_2, .int .i64 a0_3, .int .i64 a0_4] 36 (0, 0)) (by (with_reducible repeat (first | refine blk_drewN ?_ _ | refine blk_drew ?_ | refine blk_alloc ?_ _)); exact BK510.out)) : gb510 ≠ gb511)); have n6_ := Aside0.mk ((by rw [hg]; exact Nat.ne_of_gt (blk_lt (g := gb510) (o := .cells #[.int .i64 a0_0, .slice A0_1 l0_1.length c0_1, .int .i64 a0_2, .int .i64 a0_3, .int .i64 a0_4] 36 (0, 0)) (by (with_reducible repeat (first | refine blk_drewN ?_ _ | refine blk_drew ?_ | refine blk_alloc ?_ _)); exact BK510.out)) : gb511 ≠ gb510)); clear BK510; clear HB; have BK510 := n0_; have HB := n1_; have BK511 := n2_; have GW511 := n3_; have GE511 := n4_; have NB510_511 := n5_; have NB511_510 := n6_; clear n0_ n1_ n2_ n3_ n4_ n5_ n6_; clear hb hbox hg; have hnb18 := NB510_511.out; have hnc18 := NB511_510.out; have hcz19_0 : w17.cell? ⟨gb510, 0, none⟩ = some (.int .i64 a0_0) := (blk_cell BK510.out 0).trans rfl; have hcz19_1 : w17.cell? ⟨gb510, 1, none⟩ = some (.slice A0_1 l0_1.length c0_1) := (blk_cell BK510.out 1).trans rfl; have hcz19_2 : w17.cell? ⟨gb510, 2, none⟩ = some (.int .i64 a0_2) := (blk_cell BK510.out 2).trans rfl; have hcz19_3 : w17.cell? ⟨gb510, 3, none⟩ = some (.int .i64 a0_3) := (blk_cell BK510.out 3).trans rfl; have hcz19_4 : w17.cell? ⟨gb510, 4, none⟩ = some (.int .i64 a0_4) := (blk_cell BK510.out 4).trans rfl; have hfz19_0 := blk_frozen BK510.out 0; have hfz19_1 := blk_frozen BK510.out 1; have hfz19_2 := blk_frozen BK510.out 2; have hfz19_3 := blk_frozen BK510.out 3; have hfz19_4 := blk_frozen BK510.out 4; have hcz20_0 : w17.cell? ⟨gb511, 0, none⟩ = some (.int .i64 a1_0) := (blk_cell BK511.out 0).trans rfl; have hcz20_1 : w17.cell? ⟨gb511, 1, none⟩ = some (.slice A1_1 l1_1.length c1_1) := (blk_cell BK511.out 1).trans rfl; have hcz20_2 : w17.cell? ⟨gb511, 2, none⟩ = some (.int .i64 a1_2) := (blk_cell BK511.out 2).trans rfl; have hcz20_3 : w17.cell? ⟨gb511, 3, none⟩ = some (.int .i64 a1_3) := (blk_cell BK511.out 3).trans rfl; have hcz20_4 : w17.cell? ⟨gb511, 4, none⟩ = some (.int .i64 a1_4) := (blk_cell BK511.out 4).trans rfl; have hfz20_0 := blk_frozen BK511.out 0; have hfz20_1 := blk_frozen BK511.out 1; have hfz20_2 := blk_frozen BK511.out 2; have hfz20_3 := blk_frozen BK511.out 3; have hfz20_4 := blk_frozen BK511.out 4))
    go_ret
    exact ⟨by first | rfl | (simp [errW_none, errW_some] <;> rfl) | (simp [*, errW_none, errW_some] <;> rfl), by repeat (first | (with_reducible first | exact HB.out | apply below_alloc | apply pw_below_drewN | apply below_drew1 | refine below_set ?_ GE510.out | refine below_set ?_ GE511.out) | exact HB.out)⟩

/-! ### impl_EqualStores_c1: function 56 -/
def impl_EqualStores_c1.f (k : Nat) (a0_0 : Int) (a0_1 : Int) (l0_2 : List Int) (a0_3 : Int) (a0_4 : Int) (a0_5 : Int) (a0_6 : Int) (a1_0 : Int) (a1_1 : Int) (l1_2 : List Int) (a1_3 : Int) (a1_4 : Int) (a1_5 : Int) (a1_6 : Int) : Option (Bool) := if a0_0 = a1_0 then (if a0_6 = a1_6 then ((impl_EqualResources.f k a0_1 l0_2 a0_3 a0_4 a0_5 a1_1 l1_2 a1_3 a1_4 a1_5).bind fun t515 => (some t515)) else (some false)) else (some false)
set_option maxHeartbeats 8000000 in
set_option maxRecDepth 100000 in
theorem impl_EqualStores_c1.calls (k : Nat) (a0_0 : Int) (a0_1 : Int) (A0_2 : Option Addr) (c0_2 : Nat) (l0_2 : List Int) (a0_3 : Int) (a0_4 : Int) (a0_5 : Int) (a0_6 : Int) (a1_0 : Int) (a1_1 : Int) (A1_2 : Option Addr) (c1_2 : Nat) (l1_2 : List Int) (a1_3 : Int) (a1_4 : Int) (a1_5 : Int) (a1_6 : Int) (r : Bool) (w : World) (hr0_2 : Kd.C (Kd.int .i64) w A0_2 l0_2.length l0_2) (hc0_2 : l0_2.length ≤ c0_2) (hr1_2 : Kd.C (Kd.int .i64) w A1_2 l1_2.length l1_2) (hc1_2 : l1_2.length ≤ c1_2) (h : impl_EqualStores_c1.f k a0_0 a0_1 l0_2 a0_3 a0_4 a0_5 a0_6 a1_0 a1_1 l1_2 a1_3 a1_4 a1_5 a1_6 = some r) :
    Calls Try.prog 56 #[.agg #[.int .i64 a0_0, .int .i64 a0_1, .slice A0_2 l0_2.length c0_2, .int .i64 a0_3, .int .i64 a0_4, .int .i64 a0_5, .int .i64 a0_6], .agg #[.int .i64 a1_0, .int .i64 a1_1, .slice A1_2 l1_2.length c1_2, .int .i64 a1_3, .int .i64 a1_4, .int .i64 a1_5, .int .i64 a1_6]] w fun e w' => e = .returned (.bool r) ∧ Below w.heap.size w w' := by
  have hu63 := Try.underlying63
  have hu36 := Try.underlying36
  have HR0_2 := Aside0.mk hr0_2
  have HC0_2 := Aside0.mk hc0_2
  clear hr0_2 hc0_2
  have HR1_2 := Aside0.mk hr1_2
  have HC1_2 := Aside0.mk hc1_2
  clear hr1_2 hc1_2
  have HB := Aside0.mk (Below.refl w.heap.size w)
  have H : (if a0_0 = a1_0 then (if a0_6 = a1_6 then ((impl_EqualResources.f k a0_1 l0_2 a0_3 a0_4 a0_5 a1_1 l1_2 a1_3 a1_4 a1_5).bind fun t515 => (some t515)) else (some false)) else (some false)) = some r := h
  clear h
  by_cases c3 : a0_0 = a1_0
  · rw [if_pos c3] at H
    have c3b0 : (a0_0 == a1_0) = true := beq_iff_eq.mpr c3
    have c3b1 : (a0_0 != a1_0) = false := bne_eq_false_iff_eq.mpr c3
    clear c3
    by_cases c4 : a0_6 = a1_6
    · rw [if_pos c4] at H
      have c4b0 : (a0_6 == a1_6) = true := beq_iff_eq.mpr c4
      have c4b1 : (a0_6 != a1_6) = false := bne_eq_false_iff_eq.mpr c4
      clear c4
      replace H := Option.bind_eq_some_iff.mp H
      obtain ⟨t515, A50, H⟩ := H
      replace H : (some t515) = some r := H
      have A5 := Aside0.mk A50
      clear A50
      obtain rfl := Option.some.inj H
      go_enter Try.func56, Try.ntmps56
      go_wp2_with (first | ((with_reducible refine gate_dst (N := 2) rfl ?_); refine box_event ?hg (N := 2) ?hd (cs := #[.int .i64 a0_0, .int .i64 a0_1, .slice A0_2 l0_2.length c0_2, .int .i64 a0_3, .int .i64 a0_4, .int .i64 a0_5, .int .i64 a0_6]) (t := 63) ?hr ?_; (case hd => rfl); (case hg => rfl); (case hr => first | (go_simp; done) | (go_simp; rfl)); intro gb513 hg w6 hbox hb; have n0_ := Aside0.mk (below_step (by repeat (first | (with_reducible first | exact HB.out | apply below_alloc | apply pw_below_drewN | apply below_drew1) | exact HB.out)) hb); have n1_ := Aside0.mk (hbox); have n2_ := Aside0.mk ((by rw [hg]; exact (below_size (by repeat (first | (with_reducible first | exact HB.out | apply below_alloc | apply pw_below_drewN | apply below_drew1) | exact HB.out))) : w.heap.size ≤ gb513)); have n3_ := Aside0.mk ((by rw [hg]; exact (below_size (by repeat (first | (with_reducible first | exact HB.out | apply below_alloc | apply pw_below_drewN | apply below_drew1) | exact HB.out))) : w.heap.size ≤ gb513)); clear HB; have HB := n0_; have BK513 := n1_; have GW513 := n2_; have GE513 := n3_; clear n0_ n1_ n2_ n3_; clear hb hbox hg) | ((with_reducible refine gate_dst (N := 3) rfl ?_); refine box_event ?hg (N := 3) ?hd (cs := #[.int .i64 a1_0, .int .i64 a1_1, .slice A1_2 l1_2.length c1_2, .int .i64 a1_3, .int .i64 a1_4, .int .i64 a1_5, .int .i64 a1_6]) (t := 63) ?hr ?_; (case hd => rfl); (case hg => rfl); (case hr => first | (go_simp; done) | (go_simp; rfl)); intro gb514 hg w7 hbox hb; have n0_ := Aside0.mk (blk_below (g := gb513) (o := .cells #[.int .i64 a0_0, .int .i64 a0_1, .slice A0_2 l0_2.length c0_2, .int .i64 a0_3, .int .i64 a0_4, .int .i64 a0_5, .int .i64 a0_6] 63 (0, 0)) (by (with_reducible repeat (first | refine blk_drewN ?_ _ | refine blk_drew ?_ | refine blk_alloc ?_ _)); exact BK513.out) hb); have n1_ := Aside0.mk (below_step (by repeat (first | (with_reducible first | exact HB.out | apply below_alloc | apply pw_below_drewN | apply below_drew1 | refine below_set ?_ GE513.out) | exact HB.out)) hb); have n2_ := Aside0.mk (hbox); have n3_ := Aside0.mk ((by rw [hg]; exact (below_size (by repeat (first | (with_reducible first | exact HB.out | apply below_alloc | apply pw_below_drewN | apply below_drew1 | refine below_set ?_ GE513.out) | exact HB.out))) : w.heap.size ≤ gb514)); have n4_ := Aside0.mk ((by rw [hg]; exact (below_size (by repeat (first | (with_reducible first | exact HB.out | apply below_alloc | apply pw_below_drewN | apply below_drew1 | refine below_set ?_ GE513.out) | exact HB.out))) : w.heap.size ≤ gb514)); have n5_ := Aside0.mk ((by rw [hg]; exact Nat.ne_of_lt (blk_lt (g := gb513) (o := .cells #[.int .i64 a0_0, .int .i64 a0_1, .slice A0_2 l0_2.length c0_2, .int .i64 a0_3, .int .i64 a0_4, .int .i64 a0_5, .int .i64 a0_6] 63 (0, 0)) (by (with_reducible repeat (first | refine blk_drewN ?_ _ | refine blk_drew ?_ | refine blk_alloc ?_ _)); exact BK513.out)) : gb513 ≠ gb514)); have n6_ := Aside0.mk ((by rw [hg]; exact Nat.ne_of_gt (blk_lt (g := gb513) (o := .cells #[.int .i64 a0_0, .int .i64 a0_1, .slice A0_2 l0_2.length c0_2, .int .i64 a0_3, .int .i64 a0_4, .int .i64 a0_5, .int .i64 a0_6] 63 (0, 0)) (by (with_reducible repeat (first | refine blk_drewN ?_ _ | refine blk_drew ?_ | refine blk_alloc ?_ _)); exact BK513.out)) : gb514 ≠ gb513)); clear BK513; clear HB; have BK513 := n0_; have HB := n1_; have BK514 := n2_; have GW514 := n3_; have GE514 := n4_; have NB513_514 := n5_; have NB514_513 := n6_; clear n0_ n1_ n2_ n3_ n4_ n5_ n6_; clear hb hbox hg; have hnb8 := NB513_514.out; have hnc8 := NB514_513.out; have hcz9_0 : w7.cell? ⟨gb513, 0, none⟩ = some (.int .i64 a0_0) := (blk_cell BK513.out 0).trans rfl; have hcz9_1 : w7.cell? ⟨gb513, 1, none⟩ = some (.int .i64 a0_1) := (blk_cell BK513.out 1).trans rfl; have hcz9_2 : w7.cell? ⟨gb513, 2, none⟩ = some (.slice A0_2 l0_2.length c0_2) := (blk_cell BK513.out 2).trans rfl; have hcz9_3 : w7.cell? ⟨gb513, 3, none⟩ = some (.int .i64 a0_3) := (blk_cell BK513.out 3).trans rfl; have hcz9_4 : w7.cell? ⟨gb513, 4, none⟩ = some (.int .i64 a0_4) := (blk_cell BK513.out 4).trans rfl; have hcz9_5 : w7.cell? ⟨gb513, 5, none⟩ = some (.int .i64 a0_5) := (blk_cell BK513.out 5).trans rfl; have hcz9_6 : w7.cell? ⟨gb513, 6, none⟩ = some (.int .i64 a0_6) := (blk_cell BK513.out 6).trans rfl; have hfz9_0 := blk_frozen BK513.out 0; have hfz9_1 := blk_frozen BK513.out 1; have hfz9_2 := blk_frozen BK513.out 2; have hfz9_3 := blk_frozen BK513.out 3; have hfz9_4 := blk_frozen BK513.out 4; have hfz9_5 := blk_frozen BK513.out 5; have hfz9_6 := blk_frozen BK513.out 6; have hcz10_0 : w7.cell? ⟨gb514, 0, none⟩ = some (.int .i64 a1_0) := (blk_cell BK514.out 0).trans rfl; have hcz10_1 : w7.cell? ⟨gb514, 1, none⟩ = some (.int .i64 a1_1) := (blk_cell BK514.out 1).trans rfl; have hcz10_2 : w7.cell? ⟨gb514, 2, none⟩ = some (.slice A1_2 l1_2.length c1_2) := (blk_cell BK514.out 2).trans rfl; have hcz10_3 : w7.cell? ⟨gb514, 3, none⟩ = some (.int .i64 a1_3) := (blk_cell BK514.out 3).trans rfl; have hcz10_4 : w7.cell? ⟨gb514, 4, none⟩ = some (.int .i64 a1_4) := (blk_cell BK514.out 4).trans rfl; have hcz10_5 : w7.cell? ⟨gb514, 5, none⟩ = some (.int .i64 a1_5) := (blk_cell BK514.out 5).trans rfl; have hcz10_6 : w7.cell? ⟨gb514, 6, none⟩ = some (.int .i64 a1_6) := (blk_cell BK514.out 6).trans rfl; have hfz10_0 := blk_frozen BK514.out 0; have hfz10_1 := blk_frozen BK514.out 1; have hfz10_2 := blk_frozen BK514.out 2; have hfz10_3 := blk_frozen BK514.out 3; have hfz10_4 := blk_frozen BK514.out 4; have hfz10_5 := blk_frozen BK514.out 5; have hfz10_6 := blk_frozen BK514.out 6) | (go_at_call 26; (with_reducible refine (impl_EqualResources.calls k a0_1 _ _ l0_2 a0_3 a0_4 a0_5 a1_1 _ _ l1_2 a1_3 a1_4 a1_5 t515 _ ?side1 ?side2 ?side3 ?side4 A5.out).mono ?_); (case side1 => repeat (first | exact (Kd.C_below HR0_2.out HB.out) | (with_reducible refine Kd.C_alloc ?_ _) | (with_reducible refine Kd.C_drewN ?_ _) | (with_reducible refine Kd.C_drew ?_))); (case side2 => exact HC0_2.out); (case side3 => repeat (first | exact (Kd.C_below HR1_2.out HB.out) | (with_reducible refine Kd.C_alloc ?_ _) | (with_reducible refine Kd.C_drewN ?_ _) | (with_reducible refine Kd.C_drew ?_))); (case side4 => exact HC1_2.out); rintro e w11 ⟨rfl, hb⟩; have n0_ := Aside0.mk (blk_below (g := gb513) (o := .cells #[.int .i64 a0_0, .int .i64 a0_1, .slice A0_2 l0_2.length c0_2, .int .i64 a0_3, .int .i64 a0_4, .int .i64 a0_5, .int .i64 a0_6] 63 (0, 0)) (by (with_reducible repeat (first | refine blk_drewN ?_ _ | refine blk_drew ?_ | refine blk_alloc ?_ _)); exact BK513.out) hb); have n1_ := Aside0.mk (blk_below (g := gb514) (o := .cells #[.int .i64 a1_0, .int .i64 a1_1, .slice A1_2 l1_2.length c1_2, .int .i64 a1_3, .int .i64 a1_4, .int .i64 a1_5, .int .i64 a1_6] 63 (0, 0)) (by (with_reducible repeat (first | refine blk_drewN ?_ _ | refine blk_drew ?_ | refine blk_alloc ?_ _)); exact BK514.out) hb); have n2_ := Aside0.mk (below_step (by repeat (first | (with_reducible first | exact HB.out | apply below_alloc | apply pw_below_drewN | apply below_drew1 | refine below_set ?_ GE513.out | refine below_set ?_ GE514.out) | exact HB.out)) hb); clear BK513; clear BK514; clear HB; have BK513 := n0_; have BK514 := n1_; have HB := n2_; clear n0_ n1_ n2_; (try clear hb); (try clear hb2); (try clear hk); (try clear hi)))
      go_ret
      exact ⟨by first | rfl | (simp [errW_none, errW_some] <;> rfl) | (simp [*, errW_none, errW_some] <;> rfl), by repeat (first | (with_reducible first | exact HB.out | apply below_alloc | apply pw_below_drewN | apply below_drew1 | refine below_set ?_ GE513.out | refine below_set ?_ GE514.out) | exact HB.out)⟩
    · rw [if_neg c4] at H
      have c4b0 : (a0_6 == a1_6) = false := beq_eq_false_iff_ne.mpr c4
      have c4b1 : (a0_6 != a1_6) = true := bne_iff_ne.mpr c4
      obtain rfl := Option.some.inj H
      go_enter Try.func56, Try.ntmps56
      go_wp2_with (first | ((with_reducible refine gate_dst (N := 2) rfl ?_); refine box_event ?hg (N := 2) ?hd (cs := #[.int .i64 a0_0, .int .i64 a0_1, .slice A0_2 l0_2.length c0_2, .int .i64 a0_3, .int .i64 a0_4, .int .i64 a0_5, .int .i64 a0_6]) (t := 63) ?hr ?_; (case hd => rfl); (case hg => rfl); (case hr => first | (go_simp; done) | (go_simp; rfl)); intro gb513 hg w12 hbox hb; have n0_ := Aside0.mk (below_step (by repeat (first | (with_reducible first | exact HB.out | apply below_alloc | apply pw_below_drewN | apply below_drew1) | exact HB.out)) hb); have n1_ := Aside0.mk (hbox); have n2_ := Aside0.mk ((by rw [hg]; exact (below_size (by repeat (first | (with_reducible first | exact HB.out | apply below_alloc | apply pw_below_drewN | apply below_drew1) | exact HB.out))) : w.heap.size ≤ gb513)); have n3_ := Aside0.mk ((by rw [hg]; exact (below_size (by repeat (first | (with_reducible first | exact HB.out | apply below_alloc | apply pw_below_drewN | apply below_drew1) | exact HB.out))) : w.heap.size ≤ gb513)); clear HB; have HB := n0_; have BK513 := n1_; have GW513 := n2_; have GE513 := n3_; clear n0_ n1_ n2_ n3_; clear hb hbox hg) | ((with_reducible refine gate_dst (N := 3) rfl ?_); refine box_event ?hg (N := 3) ?hd (cs := #[.int .i64 a1_0, .int .i64 a1_1, .slice A1_2 l1_2.length c1_2, .int .i64 a1_3, .int .i64 a1_4, .int .i64 a1_5, .int .i64 a1_6]) (t := 63) ?hr ?_; (case hd => rfl); (case hg => rfl); (case hr => first | (go_simp; done) | (go_simp; rfl)); intro gb514 hg w13 hbox hb; have n0_ := Aside0.mk (blk_below (g := gb513) (o := .cells #[.int .i64 a0_0, .int .i64 a0_1, .slice A0_2 l0_2.length c0_2, .int .i64 a0_3, .int .i64 a0_4, .int .i64 a0_5, .int .i64 a0_6] 63 (0, 0)) (by (with_reducible repeat (first | refine blk_drewN ?_ _ | refine blk_drew ?_ | refine blk_alloc ?_ _)); exact BK513.out) hb); have n1_ := Aside0.mk (below_step (by repeat (first | (with_reducible first | exact HB.out | apply below_alloc | apply pw_below_drewN | apply below_drew1 | refine below_set ?_ GE513.out) | exact HB.out)) hb); have n2_ := Aside0.mk (hbox); have n3_ := Aside0.mk ((by rw [hg]; exact (below_size (by repeat (first | (with_reducible first | exact HB.out | apply below_alloc | apply pw_below_drewN | apply below_drew1 | refine below_set ?_ GE513.out) | exact HB.out))) : w.heap.size ≤ gb514)); have n4_ := Aside0.mk ((by rw [hg]; exact (below_size (by repeat (first | (with_reducible first | exact HB.out | apply below_alloc | apply pw_below_drewN | apply below_drew1 | refine below_set ?_ GE513.out) | exact HB.out))) : w.heap.size ≤ gb514)); have n5_ := Aside0.mk ((by rw [hg]; exact Nat.ne_of_lt (blk_lt (g := gb513) (o := .cells #[.int .i64 a0_0, .int .i64 a0_1, .slice A0_2 l0_2.length c0_2, .int .i64 a0_3, .int .i64 a0_4, .int .i64 a0_5, .int .i64 a0_6] 63 (0, 0)) (by (with_reducible repeat (first | refine blk_drewN ?_ _ | refine blk_drew ?_ | refine blk_alloc ?_ _)); exact BK513.out)) : gb513 ≠ gb514)); have n6_ := Aside0.mk ((by rw [hg]; exact Nat.ne_of_gt (blk_lt (g := gb513) (o := .cells #[.int .i64 a0_0, .int .i64 a0_1, .slice A0_2 l0_2.length c0_2, .int .i64 a0_3, .int .i64 a0_4, .int .i64 a0_5, .int .i64 a0_6] 63 (0, 0)) (by (with_reducible repeat (first | refine blk_drewN ?_ _ | refine blk_drew ?_ | refine blk_alloc ?_ _)); exact BK513.out)) : gb514 ≠ gb513)); clear BK513; clear HB; have BK513 := n0_; have HB := n1_; have BK514 := n2_; have GW514 := n3_; have GE514 := n4_; have NB513_514 := n5_; have NB514_513 := n6_; clear n0_ n1_ n2_ n3_ n4_ n5_ n6_; clear hb hbox hg; have hnb14 := NB513_514.out; have hnc14 := NB514_513.out; have hcz15_0 : w13.cell? ⟨gb513, 0, none⟩ = some (.int .i64 a0_0) := (blk_cell BK513.out 0).trans rfl; have hcz15_1 : w13.cell? ⟨gb513, 1, none⟩ = some (.int .i64 a0_1) := (blk_cell BK513.out 1).trans rfl; have hcz15_2 : w13.cell? ⟨gb513, 2, none⟩ = some (.slice A0_2 l0_2.length c0_2) := (blk_cell BK513.out 2).trans rfl; have hcz15_3 : w13.cell? ⟨gb513, 3, none⟩ = some (.int .i64 a0_3) := (blk_cell BK513.out 3).trans rfl; have hcz15_4 : w13.cell? ⟨gb513, 4, none⟩ = some (.int .i64 a0_4) := (blk_cell BK513.out 4).trans rfl; have hcz15_5 : w13.cell? ⟨gb513, 5, none⟩ = some (.int .i64 a0_5) := (blk_cell BK513.out 5).trans rfl; have hcz15_6 : w13.cell? ⟨gb513, 6, none⟩ = some (.int .i64 a0_6) := (blk_cell BK513.out 6).trans rfl; have hfz15_0 := blk_frozen BK513.out 0; have hfz15_1 := blk_frozen BK513.out 1; have hfz15_2 := blk_frozen BK513.out 2; have hfz15_3 := blk_frozen BK513.out 3; have hfz15_4 := blk_frozen BK513.out 4; have hfz15_5 := blk_frozen BK513.out 5; have hfz15_6 := blk_frozen BK513.out 6; have hcz16_0 : w13.cell? ⟨gb514, 0, none⟩ = some (.int .i64 a1_0) := (blk_cell BK514.out 0).trans rfl; have hcz16_1 : w13.cell? ⟨gb514, 1, none⟩ = some (.int .i64 a1_1) := (blk_cell BK514.out 1).trans rfl; have hcz16_2 : w13.cell? ⟨gb514, 2, none⟩ = some (.slice A1_2 l1_2.length c1_2) := (blk_cell BK514.out 2).trans rfl; have hcz16_3 : w13.cell? ⟨gb514, 3, none⟩ = some (.int .i64 a1_3) := (blk_cell BK514.out 3).trans rfl; have hcz16_4 : w13.cell? ⟨gb514, 4, none⟩ = some (.int .i64 a1_4) := (blk_cell BK514.out 4).trans rfl; have hcz16_5 : w13.cell? ⟨gb514, 5, none⟩ = some (.int .i64 a1_5) := (blk_cell BK514.out 5).trans rfl; have hcz16_6 : w13.cell? ⟨gb514, 6, none⟩ = some (.int .i64 a1_6) := (blk_cell BK514.out 6).trans rfl; have hfz16_0 := blk_frozen BK514.out 0; have hfz16_1 := blk_frozen BK514.out 1; have hfz16_2 := blk_frozen BK514.out 2; have hfz16_3 := blk_frozen BK514.out 3; have hfz16_4 := blk_frozen BK514.out 4; have hfz16_5 := blk_frozen BK514.out 5; have hfz16_6 := blk_frozen BK514.out 6))
      go_ret
      exact ⟨by first | rfl | (simp [errW_none, errW_some] <;> rfl) | (simp [*, errW_none, errW_some] <;> rfl), by repeat (first | (with_reducible first | exact HB.out | apply below_alloc | apply pw_below_drewN | apply below_drew1 | refine below_set ?_ GE513.out | refine below_set ?_ GE514.out) | exact HB.out)⟩
  · rw [if_neg c3] at H
    have c3b0 : (a0_0 == a1_0) = false := beq_eq_false_iff_ne.mpr c3
    have c3b1 : (a0_0 != a1_0) = true := bne_iff_ne.mpr c3
    obtain rfl := Option.some.inj H
    go_enter Try.func56, Try.ntmps56
    go_wp2_with (first | ((with_reducible refine gate_dst (N := 2) rfl ?_); refine box_event ?hg (N := 2) ?hd (cs := #[.int .i64 a0_0, .int .i64 a0_1, .slice A0_2 l0_2.length c0_2, .int .i64 a0_3, .int .i64 a0_4, .int .i64 a0_5, .int .i64 a0_6]) (t := 63) ?hr ?_; (case hd => rfl); (case hg => rfl); (case hr => first | (go_simp; done) | (go_simp; rfl)); intro gb513 hg w17 hbox hb; have n0_ := Aside0.mk (below_step (by repeat (first | (with_reducible first | exact HB.out | apply below_alloc | apply pw_below_drewN | apply below_drew1) | exact HB.out)) hb); have n1_ := Aside0.mk (hbox); have n2_ := Aside0.mk ((by rw [hg]; exact (below_size (by repeat (first | (with_reducible first | exact HB.out | apply below_alloc | apply pw_below_drewN | apply below_drew1) | exact HB.out))) : w.heap.size ≤ gb513)); have n3_ := Aside0.mk ((by rw [hg]; exact (below_size (by repeat (first | (with_reducible first | exact HB.out | apply below_alloc | apply pw_below_drewN | apply below_drew1) | exact HB.out))) : w.heap.size ≤ gb513)); clear HB; have HB := n0_; have BK513 := n1_; have GW513 := n2_; have GE513 := n3_; clear n0_ n1_ n2_ n3_; clear hb hbox hg) | ((with_reducible refine gate_dst (N := 3) rfl ?_); refine box_event ?hg (N := 3) ?hd (cs := #[.int .i64 a1_0, .int .i64 a1_1, .slice A1_2 l1_2.length c1_2, .int .i64 a1_3, .int .i64 a1_4, .int .i64 a1_5, .int .i64 a1_6]) (t := 63) ?hr ?_; (case hd => rfl); (case hg => rfl); (case hr => first | (go_simp; done) | (go_simp; rfl)); intro gb514 hg w18 hbox hb; have n0_ := Aside0.mk (blk_below (g := gb513) (o := .cells #[.int .i64 a0_0, .int .i64 a0_1, .slice A0_2 l0_2.length c0_2, .int .i64 a0_3, .int .i64 a0_4, .int .i64 a0_5, .int .i64 a0_6] 63 (0, 0)) (by (with_reducible repeat (first | refine blk_drewN ?_ _ | refine blk_drew ?_ | refine blk_alloc ?_ _)); exact BK513.out) hb); have n1_ := Aside0.mk (below_step (by repeat (first | (with_reducible first | exact HB.out | apply below_alloc | apply pw_below_drewN | apply below_drew1 | refine below_set ?_ GE513.out) | exact HB.out)) hb); have n2_ := Aside0.mk (hbox); have n3_ := Aside0.mk ((by rw [hg]; exact (below_size (by repeat (first | (with_reducible first | exact HB.out | apply below_alloc | apply pw_below_drewN | apply below_drew1 | refine below_set ?_ GE513.out) | exact HB.out))) : w.heap.size ≤ gb514)); have n4_ := Aside0.mk ((by rw [hg]; exact (below_size (by repeat (first | (with_reducible first | exact HB.out | apply below_alloc | apply pw_below_drewN | apply below_drew1 | refine below_set ?_ GE513.out) | exact HB.out))) : w.heap.size ≤ gb514)); have n5_ := Aside0.mk ((by rw [hg]; exact Nat.ne_of_lt (blk_lt (g := gb513) (o := .cells #[.int .i64 a0_0, .int .i64 a0_1, .slice A0_2 l0_2.length c0_2, .int .i64 a0_3, .int .i64 a0_4, .int .i64 a0_5, .int .i64 a0_6] 63 (0, 0)) (by (with_reducible repeat (first | refine blk_drewN ?_ _ | refine blk_drew ?_ | refine blk_alloc ?_ _)); exact BK513.out)) : gb513 ≠ gb514)); have n6_ := Aside0.mk ((by rw [hg]; exact Nat.ne_of_gt (blk_lt (g := gb513) (o := .cells #[.int .i64 a0_0, .int .i64 a0_1, .slice A0_2 l0_2.length c0_2, .int .i64 a0_3, .int .i64 a0_4, .int .i64 a0_5, .int .i64 a0_6] 63 (0, 0)) (by (with_reducible repeat (first | refine blk_drewN ?_ _ | refine blk_drew ?_ | refine blk_alloc ?_ _)); exact BK513.out)) : gb514 ≠ gb513)); clear BK513; clear HB; have BK513 := n0_; have HB := n1_; have BK514 := n2_; have GW514 := n3_; have GE514 := n4_; have NB513_514 := n5_; have NB514_513 := n6_; clear n0_ n1_ n2_ n3_ n4_ n5_ n6_; clear hb hbox hg; have hnb19 := NB513_514.out; have hnc19 := NB514_513.out; have hcz20_0 : w18.cell? ⟨gb513, 0, none⟩ = some (.int .i64 a0_0) := (blk_cell BK513.out 0).trans rfl; have hcz20_1 : w18.cell? ⟨gb513, 1, none⟩ = some (.int .i64 a0_1) := (blk_cell BK513.out 1).trans rfl; have hcz20_2 : w18.cell? ⟨gb513, 2, none⟩ = some (.slice A0_2 l0_2.length c0_2) := (blk_cell BK513.out 2).trans rfl; have hcz20_3 : w18.cell? ⟨gb513, 3, none⟩ = some (.int .i64 a0_3) := (blk_cell BK513.out 3).trans rfl; have hcz20_4 : w18.cell? ⟨gb513, 4, none⟩ = some (.int .i64 a0_4) := (blk_cell BK513.out 4).trans rfl; have hcz20_5 : w18.cell? ⟨gb513, 5, none⟩ = some (.int .i64 a0_5) := (blk_cell BK513.out 5).trans rfl; have hcz20_6 : w18.cell? ⟨gb513, 6, none⟩ = some (.int .i64 a0_6) := (blk_cell BK513.out 6).trans rfl; have hfz20_0 := blk_frozen BK513.out 0; have hfz20_1 := blk_frozen BK513.out 1; have hfz20_2 := blk_frozen BK513.out 2; have hfz20_3 := blk_frozen BK513.out 3; have hfz20_4 := blk_frozen BK513.out 4; have hfz20_5 := blk_frozen BK513.out 5; have hfz20_6 := blk_frozen BK513.out 6; have hcz21_0 : w18.cell? ⟨gb514, 0, none⟩ = some (.int .i64 a1_0) := (blk_cell BK514.out 0).trans rfl; have hcz21_1 : w18.cell? ⟨gb514, 1, none⟩ = some (.int .i64 a1_1) := (blk_cell BK514.out 1).trans rfl; have hcz21_2 : w18.cell? ⟨gb514, 2, none⟩ = some (.slice A1_2 l1_2.length c1_2) := (blk_cell BK514.out 2).trans rfl; have hcz21_3 : w18.cell? ⟨gb514, 3, none⟩ = some (.int .i64 a1_3) := (blk_cell BK514.out 3).trans rfl; have hcz21_4 : w18.cell? ⟨gb514, 4, none⟩ = some (.int .i64 a1_4) := (blk_cell BK514.out 4).trans rfl; have hcz21_5 : w18.cell? ⟨gb514, 5, none⟩ = some (.int .i64 a1_5) := (blk_cell BK514.out 5).trans rfl; have hcz21_6 : w18.cell? ⟨gb514, 6, none⟩ = some (.int .i64 a1_6) := (blk_cell BK514.out 6).trans rfl; have hfz21_0 := blk_frozen BK514.out 0; have hfz21_1 := blk_frozen BK514.out 1; have hfz21_2 := blk_frozen BK514.out 2; have hfz21_3 := blk_frozen BK514.out 3; have hfz21_4 := blk_frozen BK514.out 4; have hfz21_5 := blk_frozen BK514.out 5; have hfz21_6 := blk_frozen BK514.out 6))
    go_ret
    exact ⟨by first | rfl | (simp [errW_none, errW_some] <;> rfl) | (simp [*, errW_none, errW_some] <;> rfl), by repeat (first | (with_reducible first | exact HB.out | apply below_alloc | apply pw_below_drewN | apply below_drew1 | refine below_set ?_ GE513.out | refine below_set ?_ GE514.out) | exact HB.out)⟩

/-! ### impl_EqualStores: function 19 -/
def impl_EqualStores.l0 : Nat → List (S63) → List (S63) → Int → Int → Option (Bool)
  | 0, _, _, _, _ => none
  | k + 1, x1, x15, x16, x17 => if x17 < x16 then (if 0 ≤ x17 then (if x17 < (x15.length : Int) then (if x17 < (x1.length : Int) then ((impl_EqualStores_c1.f k ((rd_T63 x15 x17).f0) ((rd_T63 x15 x17).f1.f0) ((rd_T63 x15 x17).f1.f1) ((rd_T63 x15 x17).f1.f2.f0) ((rd_T63 x15 x17).f1.f2.f1) ((rd_T63 x15 x17).f1.f2.f2) ((rd_T63 x15 x17).f2) ((rd_T63 x1 x17).f0) ((rd_T63 x1 x17).f1.f0) ((rd_T63 x1 x17).f1.f1) ((rd_T63 x1 x17).f1.f2.f0) ((rd_T63 x1 x17).f1.f2.f1) ((rd_T63 x1 x17).f1.f2.f2) ((rd_T63 x1 x17).f2)).bind fun t520 => (if t520 = true then (impl_EqualStores.l0 k x1 x15 x16 (wrap64 (x17 + 1))) else (some false))) else (none)) else (none)) else (none)) else (some true)
def impl_EqualStores.f (k : Nat) (l0 : List (S63)) (l1 : List (S63)) : Option (Bool) := if (l0.length : Int) = (l1.length : Int) then (impl_EqualStores.l0 k l1 l0 (l0.length : Int) 0) else (some false)
set_option maxHeartbeats 8000000 in
set_option maxRecDepth 100000 in
theorem impl_EqualStores.calls (k : Nat) (A0 : Option Addr) (c0 : Nat) (l0 : List (S63)) (A1 : Option Addr) (c1 : Nat) (l1 : List (S63)) (r : Bool) (w : World) (hr0 : Kd.C k63 w A0 l0.length l0) (hc0 : l0.length ≤ c0) (hr1 : Kd.C k63 w A1 l1.length l1) (hc1 : l1.length ≤ c1) (h : impl_EqualStores.f k l0 l1 = some r) :
    Calls Try.prog 19 #[.slice A0 l0.length c0, .slice A1 l1.length c1] w fun e w' => e = .returned (.bool r) ∧ Below w.heap.size w w' := by
  have hu63 := Try.underlying63
  have HR0 := Aside0.mk hr0
  have HC0 := Aside0.mk hc0
  clear hr0 hc0
  have HR1 := Aside0.mk hr1
  have HC1 := Aside0.mk hc1
  clear hr1 hc1
  have HB := Aside0.mk (Below.refl w.heap.size w)
  unfold impl_EqualStores.f at h
  by_cases c3 : (l0.length : Int) = (l1.length : Int)
  · rw [if_pos c3] at h
    have c3b0 : ((l0.length : Int) == (l1.length : Int)) = true := beq_iff_eq.mpr c3
    have c3b1 : ((l0.length : Int) != (l1.length : Int)) = false := bne_eq_false_iff_eq.mpr c3
    have c3b2 : (l0.length == l1.length) = true := by first | simpa using c3 | (simp at c3 ⊢; omega)
    clear c3
    have H' := Aside0.mk h
    clear h
    go_enter Try.func19, Try.ntmps19
    go_wp2
    go_loopg [17] k (fun kq v17 w' => ∃ (i : Int), v17 = .int .i64 i ∧ Aside0 (impl_EqualStores.l0 kq l1 l0 (l0.length : Int) i = some r) ∧ Aside0 (kq ≤ k) ∧ Aside0 (Below w.heap.size w w'))
    case atStart => exact ⟨0, (by first | rfl | (simp; done) | (simp [*]; done)), H', ⟨Nat.le_refl _⟩, HB⟩
    case round =>
      clear H' c3b0 c3b1 c3b2
      try clear p2
      obtain ⟨i, rfl, HA, HK1, HB⟩ := hrel
      cases gk with
      | zero => exact absurd HA.out (by simp [impl_EqualStores.l0])
      | succ k1 =>
        have H := HA.out
        clear HA
        simp only [impl_EqualStores.l0] at H
        by_cases h1 : i < (l0.length : Int)
        · rw [if_pos h1] at H
          by_cases h0 : 0 ≤ i
          · rw [if_pos h0, if_pos h1] at H
            by_cases h' : i < (l1.length : Int)
            · rw [if_pos h'] at H
              have p0 := eq_true h0
              have p1 := eq_true h1
              have p2_ := eq_true h'
              have c4b : decide (i < (l0.length : Int)) = true := decide_eq_true h1
              obtain ⟨ad, A2, c2, e2_, hx0, hx1, hx2, hx3, hx4, hx5, hx6, hl2, hi2⟩ := at_T63 (Kd.C_below HR0.out HB.out) i h0 h1
              cases e2_
              obtain ⟨⟨d, ⟨kd, bd, ⟨ho, pa, qu⟩⟩, us⟩, hx⟩ : ∃ x, rd_T63 l0 i = x := ⟨_, rfl⟩
              simp only [hx] at H hx0 hx1 hx2 hx3 hx4 hx5 hx6 hl2 hi2
              have HI := Aside0.mk hi2
              have HE := Aside0.mk hl2
              clear hx hl2 hi2
              go_upto_region 6 with fail
              clear hx0 hx1 hx2 hx3 hx4 hx5 hx6
              obtain ⟨w1, hw_⟩ : ∃ x_, x_ = wr.alloc (.cells #[.int .i64 d, .int .i64 kd, .slice A2 bd.length c2, .int .i64 ho, .int .i64 pa, .int .i64 qu, .int .i64 us] 63) := ⟨_, rfl⟩
              have hb : Below wr.heap.size wr w1 := hw_ ▸ below_alloc (Below.refl _ _) _
              have hx_ : w1.heap[wr.heap.size]? = some (.cells #[.int .i64 d, .int .i64 kd, .slice A2 bd.length c2, .int .i64 ho, .int .i64 pa, .int .i64 qu, .int .i64 us] 63 (0, 0)) := hw_ ▸ heap_alloc_new wr _
              rw [← hw_]
              clear hw_
              obtain ⟨g8, hg_⟩ : ∃ x_, x_ = wr.heap.size := ⟨_, rfl⟩
              rw [← hg_] at hx_ ⊢
              clear hg_
              have n0_ := Aside0.mk (below_step HB.out hb)
              have HI_ := Aside0.mk (Kd.C_below HI.out hb)
              clear HB hb
              have HB := n0_
              clear n0_
              have K8 := Aside0.mk hx_
              clear hx_ HI
              obtain ⟨ad', A2', c2', e2_, hx0, hx1, hx2, hx3, hx4, hx5, hx6, hl2', hi2'⟩ := at_T63 (Kd.C_below HR1.out HB.out) i h0 h'
              cases e2_
              obtain ⟨⟨d', ⟨kd', bd', ⟨ho', pa', qu'⟩⟩, us'⟩, hx⟩ : ∃ x, rd_T63 l1 i = x := ⟨_, rfl⟩
              simp only [hx] at H hx0 hx1 hx2 hx3 hx4 hx5 hx6 hl2' hi2'
              have HI' := Aside0.mk hi2'
              have HE' := Aside0.mk hl2'
              clear hx hl2' hi2'
              go_upto_region 7 with fail
              clear hx0 hx1 hx2 hx3 hx4 hx5 hx6
              obtain ⟨w2, hw_⟩ : ∃ x_, x_ = w1.alloc (.cells #[.int .i64 d', .int .i64 kd', .slice A2' bd'.length c2', .int .i64 ho', .int .i64 pa', .int .i64 qu', .int .i64 us'] 63) := ⟨_, rfl⟩
              have hb : Below w1.heap.size w1 w2 := hw_ ▸ below_alloc (Below.refl _ _) _
              have hx_ : w2.heap[w1.heap.size]? = some (.cells #[.int .i64 d', .int .i64 kd', .slice A2' bd'.length c2', .int .i64 ho', .int .i64 pa', .int .i64 qu', .int .i64 us'] 63 (0, 0)) := hw_ ▸ heap_alloc_new w1 _
              rw [← hw_]
              clear hw_
              obtain ⟨g9, hg_⟩ : ∃ x_, x_ = w1.heap.size := ⟨_, rfl⟩
              rw [← hg_] at hx_ ⊢
              clear hg_
              have n0_ := Aside0.mk (below_step HB.out hb)
              have HI2_ := Aside0.mk (Kd.C_below HI_.out hb)
              have HI3_ := Aside0.mk (Kd.C_below HI'.out hb)
              have K8_ := Aside0.mk (blk_below K8.out hb)
              clear HB hb
              have HB := n0_
              clear n0_
              have hz8 := (box7z K8_.out).1
              have hz9 := (box7z hx_).1
              clear hx_ K8 HI_ HI'
              obtain ⟨t, AC, H⟩ := Option.bind_eq_some_iff.mp H
              replace AC := Aside0.mk AC
              by_cases ct : t = true
              · subst ct
                rw [if_pos rfl] at H
                have HH := Aside0.mk H
                clear H
                go_wp2_with (first | (go_at_call 56; refine (impl_EqualStores_c1.calls k1 d kd _ _ bd ho pa qu us d' kd' _ _ bd' ho' pa' qu' us' _ _ HI2_.out HE.out HI3_.out HE'.out AC.out).mono ?_; rintro e w3 ⟨rfl, hb⟩; have n0_ := Aside0.mk (below_step HB.out hb); clear HB hb; have HB := n0_; clear n0_))
                go_roundg k1
                case measure => have := HK1.out; omega
                case rel => exact ⟨wrap64 (i + 1), (by first | rfl | (simp; done) | (simp [*]; done)), HH, ⟨by have := HK1.out; omega⟩, HB⟩
              · replace ct := Bool.eq_false_iff.mpr ct
                subst ct
                rw [if_neg (show ¬ (false = true) by decide)] at H
                obtain rfl := Option.some.inj H
                go_wp2_with (first | (go_at_call 56; refine (impl_EqualStores_c1.calls k1 d kd _ _ bd ho pa qu us d' kd' _ _ bd' ho' pa' qu' us' _ _ HI2_.out HE.out HI3_.out HE'.out AC.out).mono ?_; rintro e w3 ⟨rfl, hb⟩; have n0_ := Aside0.mk (below_step HB.out hb); clear HB hb; have HB := n0_; clear n0_))
                go_ret
                exact ⟨(by first | rfl | (simp [errW_none, errW_some] <;> rfl) | (simp [*, errW_none, errW_some] <;> rfl)), (by repeat (first | (with_reducible first | exact HB.out | apply below_alloc | apply pw_below_drewN | apply below_drew1) | exact HB.out))⟩
            · rw [if_neg h'] at H
              exact absurd H (by simp)
          · rw [if_neg h0] at H
            exact absurd H (by simp)
        · rw [if_neg h1] at H
          have c4b : decide (i < (l0.length : Int)) = false := decide_eq_false h1
          obtain rfl := Option.some.inj H
          clear h1
          go_wp2
          go_ret
          exact ⟨(by first | rfl | (simp [errW_none, errW_some] <;> rfl) | (simp [*, errW_none, errW_some] <;> rfl)), (by repeat (first | (with_reducible first | exact HB.out | apply below_alloc | apply pw_below_drewN | apply below_drew1) | exact HB.out))⟩
  · rw [if_neg c3] at h
    have c3b0 : ((l0.length : Int) == (l1.length : Int)) = false := beq_eq_false_iff_ne.mpr c3
    have c3b1 : ((l0.length : Int) != (l1.length : Int)) = true := bne_iff_ne.mpr c3
    have c3b2 : (l0.length == l1.length) = false := beq_eq_false_iff_ne.mpr (fun e => c3 (by rw [e]))
    obtain rfl := Option.some.inj h
    go_enter Try.func19, Try.ntmps19
    go_wp2
    go_ret
    exact ⟨(by first | rfl | (simp [errW_none, errW_some] <;> rfl) | (simp [*, errW_none, errW_some] <;> rfl)), (by repeat (first | (with_reducible first | exact HB.out | apply below_alloc | apply pw_below_drewN | apply below_drew1) | exact HB.out))⟩

/-! ### impl_GetPart: function 21 -/
def impl_GetPart.f (k : Nat) (l0 : List (S63)) (a1 : Int) : Option (Int × List Int × Int × Int × Int × Bool) := (impl_partAt.f k l0 a1).bind fun t522 => (if t522 < 0 then (some (0, ([] : List Int), 0, 0, 0, false)) else (if 0 ≤ t522 then (if t522 < (l0.length : Int) then ((impl_copyResource.f ((rd_T63 l0 t522).f1.f0) ((rd_T63 l0 t522).f1.f1) ((rd_T63 l0 t522).f1.f2.f0) ((rd_T63 l0 t522).f1.f2.f1) ((rd_T63 l0 t522).f1.f2.f2)).bind fun bt524 => (some (bt524.1, bt524.2.1, bt524.2.2.1, bt524.2.2.2.1, bt524.2.2.2.2, true))) else (none)) else (none)))
set_option maxHeartbeats 8000000 in
set_option maxRecDepth 100000 in
theorem impl_GetPart.calls (k : Nat) (A0 : Option Addr) (c0 : Nat) (l0 : List (S63)) (a1 : Int) (r1 : Int) (r2 : List Int) (r3 : Int) (r4 : Int) (r5 : Int) (r6 : Bool) (w : World) (hr0 : Kd.C k63 w A0 l0.length l0) (hc0 : l0.length ≤ c0) (h : impl_GetPart.f k l0 a1 = some (r1, r2, r3, r4, r5, r6)) :
    Calls Try.prog 21 #[.slice A0 l0.length c0, .int .i64 a1] w fun e w' => ∃ v1_ : Value, e = .returned (.tuple #[.agg #[.int .i64 r1, v1_, .int .i64 r3, .int .i64 r4, .int .i64 r5], .bool r6]) ∧ Kd.R (Kd.int .i64) 3 w' w.heap.size (fun _ => True) v1_ r2 ∧ Below w.heap.size w w' := by
  have hu36 := Try.underlying36
  have HR0 := Aside0.mk hr0
  have HC0 := Aside0.mk hc0
  clear hr0 hc0
  have HB := Aside0.mk (Below.refl w.heap.size w)
  have H : ((impl_partAt.f k l0 a1).bind fun t522 => (if t522 < 0 then (some (0, ([] : List Int), 0, 0, 0, false)) else (if 0 ≤ t522 then (if t522 < (l0.length : Int) then ((impl_copyResource.f ((rd_T63 l0 t522).f1.f0) ((rd_T63 l0 t522).f1.f1) ((rd_T63 l0 t522).f1.f2.f0) ((rd_T63 l0 t522).f1.f2.f1) ((rd_T63 l0 t522).f1.f2.f2)).bind fun bt524 => (some (bt524.1, bt524.2.1, bt524.2.2.1, bt524.2.2.2.1, bt524.2.2.2.2, true))) else (none)) else (none)))) = some (r1, r2, r3, r4, r5, r6) := h
  clear h
  replace H := Option.bind_eq_some_iff.mp H
  obtain ⟨t522, A30, H⟩ := H
  replace H : (if t522 < 0 then (some (0, ([] : List Int), 0, 0, 0, false)) else (if 0 ≤ t522 then (if t522 < (l0.length : Int) then ((impl_copyResource.f ((rd_T63 l0 t522).f1.f0) ((rd_T63 l0 t522).f1.f1) ((rd_T63 l0 t522).f1.f2.f0) ((rd_T63 l0 t522).f1.f2.f1) ((rd_T63 l0 t522).f1.f2.f2)).bind fun bt524 => (some (bt524.1, bt524.2.1, bt524.2.2.1, bt524.2.2.2.1, bt524.2.2.2.2, true))) else (none)) else (none))) = some (r1, r2, r3, r4, r5, r6) := H
  have A3 := Aside0.mk A30
  clear A30
  by_cases c4 : t522 < 0
  · rw [if_pos c4] at H
    have c4b0 : decide (t522 < 0) = true := decide_eq_true c4
    clear c4
    simp only [Option.some.injEq, Prod.mk.injEq] at H
    obtain ⟨rfl, rfl, rfl, rfl, rfl, rfl⟩ := H
    go_enter Try.func21, Try.ntmps21
    go_wp2_with (first | ((with_reducible refine gate_dst (N := 4) rfl ?_); refine box_event ?hg (N := 4) ?hd (cs := #[.int .i64 0, .slice none 0 0, .int .i64 0, .int .i64 0, .int .i64 0]) (t := 36) ?hr ?_; (case hd => rfl); (case hg => rfl); (case hr => first | (go_simp; done) | (go_simp; rfl)); intro gb521 hg w5 hbox hb; have n0_ := Aside0.mk (below_step (by repeat (first | (with_reducible first | exact HB.out | apply below_alloc | apply pw_below_drewN | apply below_drew1) | exact HB.out)) hb); have n1_ := Aside0.mk (hbox); have n2_ := Aside0.mk ((by rw [hg]; exact (below_size (by repeat (first | (with_reducible first | exact HB.out | apply below_alloc | apply pw_below_drewN | apply below_drew1) | exact HB.out))) : w.heap.size ≤ gb521)); have n3_ := Aside0.mk ((by rw [hg]; exact (below_size (by repeat (first | (with_reducible first | exact HB.out | apply below_alloc | apply pw_below_drewN | apply below_drew1) | exact HB.out))) : w.heap.size ≤ gb521)); clear HB; have HB := n0_; have BK521 := n1_; have GW521 := n2_; have GE521 := n3_; clear n0_ n1_ n2_ n3_; clear hb hbox hg) | ((with_reducible refine gate_callee (f := 42) rfl ?_); refine goesL_ (some 9) rfl rfl Try.func42 (by kernel_rfl) rfl #[.slice A0 l0.length c0, .int .i64 a1] rfl (by (try simp only [List.map_toArray, List.map_cons, List.map_nil]); first | done | rfl | (simp only [List.length_drop, List.length_take]; rfl)) ?_; (with_reducible refine (impl_partAt.calls k _ _ l0 a1 t522 _ ?side1 ?side2 A3.out).mono ?_); (case side1 => repeat (first | exact (Kd.C_below HR0.out HB.out) | (with_reducible refine Kd.C_alloc ?_ _) | (with_reducible refine Kd.C_drewN ?_ _) | (with_reducible refine Kd.C_drew ?_))); (case side2 => exact HC0.out); rintro e w6 ⟨rfl, hb⟩; refine ⟨_, rfl, ?_⟩; have n0_ := Aside0.mk (blk_below (g := gb521) (o := .cells #[.int .i64 0, .slice none 0 0, .int .i64 0, .int .i64 0, .int .i64 0] 36 (0, 0)) (by (with_reducible repeat (first | refine blk_drewN ?_ _ | refine blk_drew ?_ | refine blk_alloc ?_ _)); exact BK521.out) hb); have n1_ := Aside0.mk (below_step (by repeat (first | (with_reducible first | exact HB.out | apply below_alloc | apply pw_below_drewN | apply below_drew1 | refine below_set ?_ GE521.out) | exact HB.out)) hb); clear BK521; clear HB; have BK521 := n0_; have HB := n1_; clear n0_ n1_; (try clear hb); (try clear hb2); (try clear hk); (try clear hi); have hcz7_0 : w6.cell? ⟨gb521, 0, none⟩ = some (.int .i64 0) := (blk_cell BK521.out 0).trans rfl; have hcz7_1 : w6.cell? ⟨gb521, 1, none⟩ = some (.slice none 0 0) := (blk_cell BK521.out 1).trans rfl; have hcz7_2 : w6.cell? ⟨gb521, 2, none⟩ = some (.int .i64 0) := (blk_cell BK521.out 2).trans rfl; have hcz7_3 : w6.cell? ⟨gb521, 3, none⟩ = some (.int .i64 0) := (blk_cell BK521.out 3).trans rfl; have hcz7_4 : w6.cell? ⟨gb521, 4, none⟩ = some (.int .i64 0) := (blk_cell BK521.out 4).trans rfl; have hfz7_0 := blk_frozen BK521.out 0; have hfz7_1 := blk_frozen BK521.out 1; have hfz7_2 := blk_frozen BK521.out 2; have hfz7_3 := blk_frozen BK521.out 3; have hfz7_4 := blk_frozen BK521.out 4))
    refine bodyPost_ret (results_ct rfl _ _ gb521 36 #[.int .i64 0, .slice none 0 0, .int .i64 0, .int .i64 0, .int .i64 0] (0, 0) _ rfl (by (with_reducible repeat (first | refine blk_drewN ?_ _ | refine blk_drew ?_ | refine blk_alloc ?_ _)); refine blk_put (cs := #[.int .i64 0, .slice none 0 0, .int .i64 0, .int .i64 0, .int .i64 0]) ?_ 4 _ rfl; (with_reducible repeat (first | refine blk_drewN ?_ _ | refine blk_drew ?_ | refine blk_alloc ?_ _)); refine blk_put (cs := #[.int .i64 0, .slice none 0 0, .int .i64 0, .int .i64 0, .int .i64 0]) ?_ 3 _ rfl; (with_reducible repeat (first | refine blk_drewN ?_ _ | refine blk_drew ?_ | refine blk_alloc ?_ _)); refine blk_put (cs := #[.int .i64 0, .slice none 0 0, .int .i64 0, .int .i64 0, .int .i64 0]) ?_ 2 _ rfl; (with_reducible repeat (first | refine blk_drewN ?_ _ | refine blk_drew ?_ | refine blk_alloc ?_ _)); refine blk_put (cs := #[.int .i64 0, .slice none 0 0, .int .i64 0, .int .i64 0, .int .i64 0]) ?_ 1 _ rfl; (with_reducible repeat (first | refine blk_drewN ?_ _ | refine blk_drew ?_ | refine blk_alloc ?_ _)); refine blk_put (cs := #[.int .i64 0, .slice none 0 0, .int .i64 0, .int .i64 0, .int .i64 0]) ?_ 0 _ rfl; (with_reducible repeat (first | refine blk_drewN ?_ _ | refine blk_drew ?_ | refine blk_alloc ?_ _)); exact BK521.out) Try.underlying36 rfl (by kernel_rfl)) rfl ?_
    exact ⟨_, by first | rfl | (simp [errW_none, errW_some] <;> rfl) | (simp [*, errW_none, errW_some] <;> rfl), by first | exact Kd.R_nil _ _ _ _ _ | exact Kd.N_nil _ _ _ _ _ | exact Kd.V_nil _ _ _ _ _ | exact Kd.Q_nil _ _ _ _ _ | exact Kd.S_nil _ _ _ _ _, by repeat (first | (with_reducible first | exact HB.out | apply below_alloc | apply pw_below_drewN | apply below_drew1 | refine below_set ?_ GE521.out) | exact HB.out)⟩
  · rw [if_neg c4] at H
    have c4b0 : decide (t522 < 0) = false := decide_eq_false c4
    clear c4
    by_cases c8 : 0 ≤ t522
    · rw [if_pos c8] at H
      have c8b0 : decide (0 ≤ t522) = true := decide_eq_true c8
      clear c8
      by_cases c9 : t522 < (l0.length : Int)
      · rw [if_pos c9] at H
        have c9b0 : decide (t522 < (l0.length : Int)) = true := decide_eq_true c9
        clear c9
        replace H := Option.bind_eq_some_iff.mp H
        obtain ⟨⟨t524, t525, t528, t529, t530⟩, A100, H⟩ := H
        replace H : (some (t524, t525, t528, t529, t530, true)) = some (r1, r2, r3, r4, r5, r6) := H
        have A10 := Aside0.mk A100
        clear A100
        simp only [Option.some.injEq, Prod.mk.injEq] at H
        obtain ⟨rfl, rfl, rfl, rfl, rfl, rfl⟩ := H
        go_enter Try.func21, Try.ntmps21
        go_wp2_with (first | ((with_reducible refine gate_dst (N := 4) rfl ?_); refine box_event ?hg (N := 4) ?hd (cs := #[.int .i64 0, .slice none 0 0, .int .i64 0, .int .i64 0, .int .i64 0]) (t := 36) ?hr ?_; (case hd => rfl); (case hg => rfl); (case hr => first | (go_simp; done) | (go_simp; rfl)); intro gb521 hg w11 hbox hb; have n0_ := Aside0.mk (below_step (by repeat (first | (with_reducible first | exact HB.out | apply below_alloc | apply pw_below_drewN | apply below_drew1) | exact HB.out)) hb); have n1_ := Aside0.mk (hbox); have n2_ := Aside0.mk ((by rw [hg]; exact (below_size (by repeat (first | (with_reducible first | exact HB.out | apply below_alloc | apply pw_below_drewN | apply below_drew1) | exact HB.out))) : w.heap.size ≤ gb521)); have n3_ := Aside0.mk ((by rw [hg]; exact (below_size (by repeat (first | (with_reducible first | exact HB.out | apply below_alloc | apply pw_below_drewN | apply below_drew1) | exact HB.out))) : w.heap.size ≤ gb521)); clear HB; have HB := n0_; have BK521 := n1_; have GW521 := n2_; have GE521 := n3_; clear n0_ n1_ n2_ n3_; clear hb hbox hg) | ((with_reducible refine gate_callee (f := 42) rfl ?_); refine goesL_ (some 9) rfl rfl Try.func42 (by kernel_rfl) rfl #[.slice A0 l0.length c0, .int .i64 a1] rfl (by (try simp only [List.map_toArray, List.map_cons, List.map_nil]); first | done | rfl | (simp only [List.length_drop, List.length_take]; rfl)) ?_; (with_reducible refine (impl_partAt.calls k _ _ l0 a1 t522 _ ?side1 ?side2 A3.out).mono ?_); (case side1 => repeat (first | exact (Kd.C_below HR0.out HB.out) | (with_reducible refine Kd.C_alloc ?_ _) | (with_reducible refine Kd.C_drewN ?_ _) | (with_reducible refine Kd.C_drew ?_))); (case side2 => exact HC0.out); rintro e w12 ⟨rfl, hb⟩; refine ⟨_, rfl, ?_⟩; have n0_ := Aside0.mk (blk_below (g := gb521) (o := .cells #[.int .i64 0, .slice none 0 0, .int .i64 0, .int .i64 0, .int .i64 0] 36 (0, 0)) (by (with_reducible repeat (first | refine blk_drewN ?_ _ | refine blk_drew ?_ | refine blk_alloc ?_ _)); exact BK521.out) hb); have n1_ := Aside0.mk (below_step (by repeat (first | (with_reducible first | exact HB.out | apply below_alloc | apply pw_below_drewN | apply below_drew1 | refine below_set ?_ GE521.out) | exact HB.out)) hb); clear BK521; clear HB; have BK521 := n0_; have HB := n1_; clear n0_ n1_; (try clear hb); (try clear hb2); (try clear hk); (try clear hi); have p523 : 0 ≤ (t522 : Int) := of_decide_eq_true (by first | (with_reducible assumption) | assumption); have q523 : t522 < (l0.length : Int) := of_decide_eq_true (by first | (with_reducible assumption) | assumption); obtain ⟨ad523, A523_2, c523_2, e523, hx523_0, hx523_1, hx523_2, hx523_3, hx523_4, hx523_5, hx523_6, hl523_2, hi523_2⟩ := at_T63 HR0.out t522 p523 q523; cases e523; replace hx523_0 := (HB.out.cell (World.block_lt_of_cell? w _ hx523_0)).trans hx523_0; replace hx523_1 := (HB.out.cell (World.block_lt_of_cell? w _ hx523_1)).trans hx523_1; replace hx523_2 := (HB.out.cell (World.block_lt_of_cell? w _ hx523_2)).trans hx523_2; replace hx523_3 := (HB.out.cell (World.block_lt_of_cell? w _ hx523_3)).trans hx523_3; replace hx523_4 := (HB.out.cell (World.block_lt_of_cell? w _ hx523_4)).trans hx523_4; replace hx523_5 := (HB.out.cell (World.block_lt_of_cell? w _ hx523_5)).trans hx523_5; replace hx523_6 := (HB.out.cell (World.block_lt_of_cell? w _ hx523_6)).trans hx523_6; have HR523_2 := Aside0.mk hi523_2; have HC523_2 := Aside0.mk hl523_2; clear hi523_2 hl523_2; replace p523 := eq_true p523; replace q523 := eq_true q523) | ((with_reducible refine gate_callee (f := 44) rfl ?_); refine goesL_ (some 18) rfl rfl Try.func44 (by kernel_rfl) rfl #[.agg #[.int .i64 ((rd_T63 l0 t522).f1.f0), .slice A523_2 ((rd_T63 l0 t522).f1.f1).length c523_2, .int .i64 ((rd_T63 l0 t522).f1.f2.f0), .int .i64 ((rd_T63 l0 t522).f1.f2.f1), .int .i64 ((rd_T63 l0 t522).f1.f2.f2)]] rfl (by (try simp only [List.map_toArray, List.map_cons, List.map_nil]); first | done | rfl | (simp only [List.length_drop, List.length_take]; rfl)) ?_; (with_reducible refine (impl_copyResource.calls ((rd_T63 l0 t522).f1.f0) _ _ ((rd_T63 l0 t522).f1.f1) ((rd_T63 l0 t522).f1.f2.f0) ((rd_T63 l0 t522).f1.f2.f1) ((rd_T63 l0 t522).f1.f2.f2) t524 t525 t528 t529 t530 _ ?side1 ?side2 A10.out).mono ?_); (case side1 => repeat (first | exact (Kd.C_below HR523_2.out HB.out) | (with_reducible refine Kd.C_alloc ?_ _) | (with_reducible refine Kd.C_drewN ?_ _) | (with_reducible refine Kd.C_drew ?_))); (case side2 => exact HC523_2.out); rintro e w13 ⟨v526, rfl, ho0, hb⟩; refine ⟨_, rfl, ?_⟩; have n0_ := Aside0.mk (Kd.R_lower ho0 (below_size (by repeat (first | (with_reducible first | exact HB.out | apply below_alloc | apply pw_below_drewN | apply below_drew1 | refine below_set ?_ GE521.out) | exact HB.out)))); have n1_ := Aside0.mk (blk_below (g := gb521) (o := .cells #[.int .i64 0, .slice none 0 0, .int .i64 0, .int .i64 0, .int .i64 0] 36 (0, 0)) (by (with_reducible repeat (first | refine blk_drewN ?_ _ | refine blk_drew ?_ | refine blk_alloc ?_ _)); exact BK521.out) hb); have n2_ := Aside0.mk (below_step (by repeat (first | (with_reducible first | exact HB.out | apply below_alloc | apply pw_below_drewN | apply below_drew1 | refine below_set ?_ GE521.out) | exact HB.out)) hb); clear BK521; clear HB; have HO527 := n0_; have BK521 := n1_; have HB := n2_; clear n0_ n1_ n2_; (try clear hb); (try clear hb2); (try clear hk); (try clear hi); (try clear ho0); have hcz14_0 : w13.cell? ⟨gb521, 0, none⟩ = some (.int .i64 0) := (blk_cell BK521.out 0).trans rfl; have hcz14_1 : w13.cell? ⟨gb521, 1, none⟩ = some (.slice none 0 0) := (blk_cell BK521.out 1).trans rfl; have hcz14_2 : w13.cell? ⟨gb521, 2, none⟩ = some (.int .i64 0) := (blk_cell BK521.out 2).trans rfl; have hcz14_3 : w13.cell? ⟨gb521, 3, none⟩ = some (.int .i64 0) := (blk_cell BK521.out 3).trans rfl; have hcz14_4 : w13.cell? ⟨gb521, 4, none⟩ = some (.int .i64 0) := (blk_cell BK521.out 4).trans rfl; have hfz14_0 := blk_frozen BK521.out 0; have hfz14_1 := blk_frozen BK521.out 1; have hfz14_2 := blk_frozen BK521.out 2; have hfz14_3 := blk_frozen BK521.out 3; have hfz14_4 := blk_frozen BK521.out 4; obtain ⟨Ao15, co15, eo15⟩ := Kd.R_slice HO527.out; subst eo15))
        refine bodyPost_ret (results_ct rfl _ _ gb521 36 #[.int .i64 t524, .slice Ao15 t525.length co15, .int .i64 t528, .int .i64 t529, .int .i64 t530] (0, 0) _ rfl (by (with_reducible repeat (first | refine blk_drewN ?_ _ | refine blk_drew ?_ | refine blk_alloc ?_ _)); refine blk_put (cs := #[.int .i64 t524, .slice Ao15 t525.length co15, .int .i64 t528, .int .i64 t529, .int .i64 0]) ?_ 4 _ rfl; (with_reducible repeat (first | refine blk_drewN ?_ _ | refine blk_drew ?_ | refine blk_alloc ?_ _)); refine blk_put (cs := #[.int .i64 t524, .slice Ao15 t525.length co15, .int .i64 t528, .int .i64 0, .int .i64 0]) ?_ 3 _ rfl; (with_reducible repeat (first | refine blk_drewN ?_ _ | refine blk_drew ?_ | refine blk_alloc ?_ _)); refine blk_put (cs := #[.int .i64 t524, .slice Ao15 t525.length co15, .int .i64 0, .int .i64 0, .int .i64 0]) ?_ 2 _ rfl; (with_reducible repeat (first | refine blk_drewN ?_ _ | refine blk_drew ?_ | refine blk_alloc ?_ _)); refine blk_put (cs := #[.int .i64 t524, .slice none 0 0, .int .i64 0, .int .i64 0, .int .i64 0]) ?_ 1 _ rfl; (with_reducible repeat (first | refine blk_drewN ?_ _ | refine blk_drew ?_ | refine blk_alloc ?_ _)); refine blk_put (cs := #[.int .i64 0, .slice none 0 0, .int .i64 0, .int .i64 0, .int .i64 0]) ?_ 0 _ rfl; (with_reducible repeat (first | refine blk_drewN ?_ _ | refine blk_drew ?_ | refine blk_alloc ?_ _)); exact BK521.out) Try.underlying36 rfl (by kernel_rfl)) rfl ?_
        exact ⟨_, by first | rfl | (simp [errW_none, errW_some] <;> rfl) | (simp [*, errW_none, errW_some] <;> rfl), by (with_reducible repeat (first | apply Kd.R_alloc | apply Kd.R_drewN | apply Kd.R_drew)); exact Kd.R_mono (Kd.R_far (p := ⟨gb521, 4, none⟩) (Kd.R_far (p := ⟨gb521, 3, none⟩) (Kd.R_far (p := ⟨gb521, 2, none⟩) (Kd.R_far (p := ⟨gb521, 1, none⟩) (Kd.R_far (p := ⟨gb521, 0, none⟩) (Kd.R_types HO527.out BK521.out (by decide)) (fun _ hk => hk.2) (.int .i64 t524)) (fun _ hk => hk.2) (.slice Ao15 t525.length co15)) (fun _ hk => hk.2) (.int .i64 t528)) (fun _ hk => hk.2) (.int .i64 t529)) (fun _ hk => hk.2) (.int .i64 t530)) (fun _ hk => trivial), by repeat (first | (with_reducible first | exact HB.out | apply below_alloc | apply pw_below_drewN | apply below_drew1 | refine below_set ?_ GE521.out) | exact HB.out)⟩
      · rw [if_neg c9] at H
        exact absurd H (by simp)
    · rw [if_neg c8] at H
      exact absurd H (by simp)

/-! ### spec_GetPart: function 22 -/
def spec_GetPart.f (k : Nat) (l0 : List (S63)) (a1 : Int) : Option (Int × List Int × Int × Int × Int × Bool) := (spec_l7Find.f k l0 a1).bind fun t532 => (if t532 < 0 then (some (0, ([] : List Int), 0, 0, 0, false)) else (if 0 ≤ t532 then (if t532 < (l0.length : Int) then ((spec_l5Copy.f ((rd_T63 l0 t532).f1.f0) ((rd_T63 l0 t532).f1.f1) ((rd_T63 l0 t532).f1.f2.f0) ((rd_T63 l0 t532).f1.f2.f1) ((rd_T63 l0 t532).f1.f2.f2)).bind fun bt534 => (some (bt534.1, bt534.2.1, bt534.2.2.1, bt534.2.2.2.1, bt534.2.2.2.2, true))) else (none)) else (none)))
set_option maxHeartbeats 8000000 in
set_option maxRecDepth 100000 in
theorem spec_GetPart.calls (k : Nat) (A0 : Option Addr) (c0 : Nat) (l0 : List (S63)) (a1 : Int) (r1 : Int) (r2 : List Int) (r3 : Int) (r4 : Int) (r5 : Int) (r6 : Bool) (w : World) (hr0 : Kd.C k63 w A0 l0.length l0) (hc0 : l0.length ≤ c0) (h : spec_GetPart.f k l0 a1 = some (r1, r2, r3, r4, r5, r6)) :
    Calls Try.prog 22 #[.slice A0 l0.length c0, .int .i64 a1] w fun e w' => ∃ v1_ : Value, e = .returned (.tuple #[.agg #[.int .i64 r1, v1_, .int .i64 r3, .int .i64 r4, .int .i64 r5], .bool r6]) ∧ Kd.R (Kd.int .i64) 3 w' w.heap.size (fun _ => True) v1_ r2 ∧ Below w.heap.size w w' := by
  have hu36 := Try.underlying36
  have HR0 := Aside0.mk hr0
  have HC0 := Aside0.mk hc0
  clear hr0 hc0
  have HB := Aside0.mk (Below.refl w.heap.size w)
  have H : ((spec_l7Find.f k l0 a1).bind fun t532 => (if t532 < 0 then (some (0, ([] : List Int), 0, 0, 0, false)) else (if 0 ≤ t532 then (if t532 < (l0.length : Int) then ((spec_l5Copy.f ((rd_T63 l0 t532).f1.f0) ((rd_T63 l0 t532).f1.f1) ((rd_T63 l0 t532).f1.f2.f0) ((rd_T63 l0 t532).f1.f2.f1) ((rd_T63 l0 t532).f1.f2.f2)).bind fun bt534 => (some (bt534.1, bt534.2.1, bt534.2.2.1, bt534.2.2.2.1, bt534.2.2.2.2, true))) else (none)) else (none)))) = some (r1, r2, r3, r4, r5, r6) := h
  clear h
  replace H := Option.bind_eq_some_iff.mp H
  obtain ⟨t532, A30, H⟩ := H
  replace H : (if t532 < 0 then (some (0, ([] : List Int), 0, 0, 0, false)) else (if 0 ≤ t532 then (if t532 < (l0.length : Int) then ((spec_l5Copy.f ((rd_T63 l0 t532).f1.f0) ((rd_T63 l0 t532).f1.f1) ((rd_T63 l0 t532).f1.f2.f0) ((rd_T63 l0 t532).f1.f2.f1) ((rd_T63 l0 t532).f1.f2.f2)).bind fun bt534 => (some (bt534.1, bt534.2.1, bt534.2.2.1, bt534.2.2.2.1, bt534.2.2.2.2, true))) else (none)) else (none))) = some (r1, r2, r3, r4, r5, r6) := H
  have A3 := Aside0.mk A30
  clear A30
  by_cases c4 : t532 < 0
  · rw [if_pos c4] at H
    have c4b0 : decide (t532 < 0) = true := decide_eq_true c4
    clear c4
    simp only [Option.some.injEq, Prod.mk.injEq] at H
    obtain ⟨rfl, rfl, rfl, rfl, rfl, rfl⟩ := H
    go_enter Try.func22, Try.ntmps22
    go_wp2_with (first | ((with_reducible refine gate_dst (N := 4) rfl ?_); refine box_event ?hg (N := 4) ?hd (cs := #[.int .i64 0, .slice none 0 0, .int .i64 0, .int .i64 0, .int .i64 0]) (t := 36) ?hr ?_; (case hd => rfl); (case hg => rfl); (case hr => first | (go_simp; done) | (go_simp; rfl)); intro gb531 hg w5 hbox hb; have n0_ := Aside0.mk (below_step (by repeat (first | (with_reducible first | exact HB.out | apply below_alloc | apply pw_below_drewN | apply below_drew1) | exact HB.out)) hb); have n1_ := Aside0.mk (hbox); have n2_ := Aside0.mk ((by rw [hg]; exact (below_size (by repeat (first | (with_reducible first | exact HB.out | apply below_alloc | apply pw_below_drewN | apply below_drew1) | exact HB.out))) : w.heap.size ≤ gb531)); have n3_ := Aside0.mk ((by rw [hg]; exact (below_size (by repeat (first | (with_reducible first | exact HB.out | apply below_alloc | apply pw_below_drewN | apply below_drew1) | exact HB.out))) : w.heap.size ≤ gb531)); clear HB; have HB := n0_; have BK531 := n1_; have GW531 := n2_; have GE531 := n3_; clear n0_ n1_ n2_ n3_; clear hb hbox hg) | ((with_reducible refine gate_callee (f := 36) rfl ?_); refine goesL_ (some 9) rfl rfl Try.func36 (by kernel_rfl) rfl #[.slice A0 l0.length c0, .int .i64 a1] rfl (by (try simp only [List.map_toArray, List.map_cons, List.map_nil]); first | done | rfl | (simp only [List.length_drop, List.length_take]; rfl)) ?_; (with_reducible refine (spec_l7Find.calls k _ _ l0 a1 t532 _ ?side1 ?side2 A3.out).mono ?_); (case side1 => repeat (first | exact (Kd.C_below HR0.out HB.out) | (with_reducible refine Kd.C_alloc ?_ _) | (with_reducible refine Kd.C_drewN ?_ _) | (with_reducible refine Kd.C_drew ?_))); (case side2 => exact HC0.out); rintro e w' ⟨rfl, ⟨nd, rfl⟩⟩; refine ⟨_, rfl, ?_⟩; (try (rw [drewN_self w5]; generalize hq_ : World.drewN w5 _ = w5; have n0_ : Aside0 (w5.heap[gb531]? = some (.cells #[.int .i64 0, .slice none 0 0, .int .i64 0, .int .i64 0, .int .i64 0] 36 (0, 0))) := ⟨by rw [← hq_]; exact (by (with_reducible repeat (first | refine blk_drewN ?_ _ | refine blk_drew ?_ | refine blk_alloc ?_ _)); exact BK531.out)⟩; have n1_ : Aside0 (Below w.heap.size w w5) := ⟨by rw [← hq_]; exact (by repeat (first | (with_reducible first | exact HB.out | apply below_alloc | apply pw_below_drewN | apply below_drew1 | refine below_set ?_ GE531.out) | exact HB.out))⟩; clear BK531 HB hq_; have BK531 := n0_; have HB := n1_; clear n0_ n1_)); have hcz6_0 : w5.cell? ⟨gb531, 0, none⟩ = some (.int .i64 0) := (blk_cell BK531.out 0).trans rfl; have hcz6_1 : w5.cell? ⟨gb531, 1, none⟩ = some (.slice none 0 0) := (blk_cell BK531.out 1).trans rfl; have hcz6_2 : w5.cell? ⟨gb531, 2, none⟩ = some (.int .i64 0) := (blk_cell BK531.out 2).trans rfl; have hcz6_3 : w5.cell? ⟨gb531, 3, none⟩ = some (.int .i64 0) := (blk_cell BK531.out 3).trans rfl; have hcz6_4 : w5.cell? ⟨gb531, 4, none⟩ = some (.int .i64 0) := (blk_cell BK531.out 4).trans rfl; have hfz6_0 := blk_frozen BK531.out 0; have hfz6_1 := blk_frozen BK531.out 1; have hfz6_2 := blk_frozen BK531.out 2; have hfz6_3 := blk_frozen BK531.out 3; have hfz6_4 := blk_frozen BK531.out 4))
    refine bodyPost_ret (results_ct rfl _ _ gb531 36 #[.int .i64 0, .slice none 0 0, .int .i64 0, .int .i64 0, .int .i64 0] (0, 0) _ rfl (by (with_reducible repeat (first | refine blk_drewN ?_ _ | refine blk_drew ?_ | refine blk_alloc ?_ _)); refine blk_put (cs := #[.int .i64 0, .slice none 0 0, .int .i64 0, .int .i64 0, .int .i64 0]) ?_ 4 _ rfl; (with_reducible repeat (first | refine blk_drewN ?_ _ | refine blk_drew ?_ | refine blk_alloc ?_ _)); refine blk_put (cs := #[.int .i64 0, .slice none 0 0, .int .i64 0, .int .i64 0, .int .i64 0]) ?_ 3 _ rfl; (with_reducible repeat (first | refine blk_drewN ?_ _ | refine blk_drew ?_ | refine blk_alloc ?_ _)); refine blk_put (cs := #[.int .i64 0, .slice none 0 0, .int .i64 0, .int .i64 0, .int .i64 0]) ?_ 2 _ rfl; (with_reducible repeat (first | refine blk_drewN ?_ _ | refine blk_drew ?_ | refine blk_alloc ?_ _)); refine blk_put (cs := #[.int .i64 0, .slice none 0 0, .int .i64 0, .int .i64 0, .int .i64 0]) ?_ 1 _ rfl; (with_reducible repeat (first | refine blk_drewN ?_ _ | refine blk_drew ?_ | refine blk_alloc ?_ _)); refine blk_put (cs := #[.int .i64 0, .slice none 0 0, .int .i64 0, .int .i64 0, .int .i64 0]) ?_ 0 _ rfl; (with_reducible repeat (first | refine blk_drewN ?_ _ | refine blk_drew ?_ | refine blk_alloc ?_ _)); exact BK531.out) Try.underlying36 rfl (by kernel_rfl)) rfl ?_
    exact ⟨_, by first | rfl | (simp [errW_none, errW_some] <;> rfl) | (simp [*, errW_none, errW_some] <;> rfl), by first | exact Kd.R_nil _ _ _ _ _ | exact Kd.N_nil _ _ _ _ _ | exact Kd.V_nil _ _ _ _ _ | exact Kd.Q_nil _ _ _ _ _ | exact Kd.S_nil _ _ _ _ _, by repeat (first | (with_reducible first | exact HB.out | apply below_alloc | apply pw_below_drewN | apply below_drew1 | refine below_set ?_ GE531.out) | exact HB.out)⟩
  · rw [if_neg c4] at H
    have c4b0 : decide (t532 < 0) = false := decide_eq_false c4
    clear c4
    by_cases c7 : 0 ≤ t532
    · rw [if_pos c7] at H
      have c7b0 : decide (0 ≤ t532) = true := decide_eq_true c7
      clear c7
      by_cases c8 : t532 < (l0.length : Int)
      · rw [if_pos c8] at H
        have c8b0 : decide (t532 < (l0.length : Int)) = true := decide_eq_true c8
        clear c8
        replace H := Option.bind_eq_some_iff.mp H
        obtain ⟨⟨t534, t535, t538, t539, t540⟩, A90, H⟩ := H
        replace H : (some (t534, t535, t538, t539, t540, true)) = some (r1, r2, r3, r4, r5, r6) := H
        have A9 := Aside0.mk A90
        clear A90
        simp only [Option.some.injEq, Prod.mk.injEq] at H
        obtain ⟨rfl, rfl, rfl, rfl, rfl, rfl⟩ := H
        go_enter Try.func22, Try.ntmps22
        go_wp2_with (first | ((with_reducible refine gate_dst (N := 4) rfl ?_); refine box_event ?hg (N := 4) ?hd (cs := #[.int .i64 0, .slice none 0 0, .int .i64 0, .int .i64 0, .int .i64 0]) (t := 36) ?hr ?_; (case hd => rfl); (case hg => rfl); (case hr => first | (go_simp; done) | (go_simp; rfl)); intro gb531 hg w10 hbox hb; have n0_ := Aside0.mk (below_step (by repeat (first | (with_reducible first | exact HB.out | apply below_alloc | apply pw_below_drewN | apply below_drew1) | exact HB.out)) hb); have n1_ := Aside0.mk (hbox); have n2_ := Aside0.mk ((by rw [hg]; exact (below_size (by repeat (first | (with_reducible first | exact HB.out | apply below_alloc | apply pw_below_drewN | apply below_drew1) | exact HB.out))) : w.heap.size ≤ gb531)); have n3_ := Aside0.mk ((by rw [hg]; exact (below_size (by repeat (first | (with_reducible first | exact HB.out | apply below_alloc | apply pw_below_drewN | apply below_drew1) | exact HB.out))) : w.heap.size ≤ gb531)); clear HB; have HB := n0_; have BK531 := n1_; have GW531 := n2_; have GE531 := n3_; clear n0_ n1_ n2_ n3_; clear hb hbox hg) | ((with_reducible refine gate_callee (f := 36) rfl ?_); refine goesL_ (some 9) rfl rfl Try.func36 (by kernel_rfl) rfl #[.slice A0 l0.length c0, .int .i64 a1] rfl (by (try simp only [List.map_toArray, List.map_cons, List.map_nil]); first | done | rfl | (simp only [List.length_drop, List.length_take]; rfl)) ?_; (with_reducible refine (spec_l7Find.calls k _ _ l0 a1 t532 _ ?side1 ?side2 A3.out).mono ?_); (case side1 => repeat (first | exact (Kd.C_below HR0.out HB.out) | (with_reducible refine Kd.C_alloc ?_ _) | (with_reducible refine Kd.C_drewN ?_ _) | (with_reducible refine Kd.C_drew ?_))); (case side2 => exact HC0.out); rintro e w' ⟨rfl, ⟨nd, rfl⟩⟩; refine ⟨_, rfl, ?_⟩; (try (rw [drewN_self w10]; generalize hq_ : World.drewN w10 _ = w10; have n0_ : Aside0 (w10.heap[gb531]? = some (.cells #[.int .i64 0, .slice none 0 0, .int .i64 0, .int .i64 0, .int .i64 0] 36 (0, 0))) := ⟨by rw [← hq_]; exact (by (with_reducible repeat (first | refine blk_drewN ?_ _ | refine blk_drew ?_ | refine blk_alloc ?_ _)); exact BK531.out)⟩; have n1_ : Aside0 (Below w.heap.size w w10) := ⟨by rw [← hq_]; exact (by repeat (first | (with_reducible first | exact HB.out | apply below_alloc | apply pw_below_drewN | apply below_drew1 | refine below_set ?_ GE531.out) | exact HB.out))⟩; clear BK531 HB hq_; have BK531 := n0_; have HB := n1_; clear n0_ n1_)); have p533 : 0 ≤ (t532 : Int) := of_decide_eq_true (by first | (with_reducible assumption) | assumption); have q533 : t532 < (l0.length : Int) := of_decide_eq_true (by first | (with_reducible assumption) | assumption); obtain ⟨ad533, A533_2, c533_2, e533, hx533_0, hx533_1, hx533_2, hx533_3, hx533_4, hx533_5, hx533_6, hl533_2, hi533_2⟩ := at_T63 HR0.out t532 p533 q533; cases e533; replace hx533_0 := (HB.out.cell (World.block_lt_of_cell? w _ hx533_0)).trans hx533_0; replace hx533_1 := (HB.out.cell (World.block_lt_of_cell? w _ hx533_1)).trans hx533_1; replace hx533_2 := (HB.out.cell (World.block_lt_of_cell? w _ hx533_2)).trans hx533_2; replace hx533_3 := (HB.out.cell (World.block_lt_of_cell? w _ hx533_3)).trans hx533_3; replace hx533_4 := (HB.out.cell (World.block_lt_of_cell? w _ hx533_4)).trans hx533_4; replace hx533_5 := (HB.out.cell (World.block_lt_of_cell? w _ hx533_5)).trans hx533_5; replace hx533_6 := (HB.out.cell (World.block_lt_of_cell? w _ hx533_6)).trans hx533_6; have HR533_2 := Aside0.mk hi533_2; have HC533_2 := Aside0.mk hl533_2; clear hi533_2 hl533_2; replace p533 := eq_true p533; replace q533 := eq_true q533) | ((with_reducible refine gate_callee (f := 37) rfl ?_); refine goesL_ (some 18) rfl rfl Try.func37 (by kernel_rfl) rfl #[.agg #[.int .i64 ((rd_T63 l0 t532).f1.f0), .slice A533_2 ((rd_T63 l0 t532).f1.f1).length c533_2, .int .i64 ((rd_T63 l0 t532).f1.f2.f0), .int .i64 ((rd_T63 l0 t532).f1.f2.f1), .int .i64 ((rd_T63 l0 t532).f1.f2.f2)]] rfl (by (try simp only [List.map_toArray, List.map_cons, List.map_nil]); first | done | rfl | (simp only [List.length_drop, List.length_take]; rfl)) ?_; (with_reducible refine (spec_l5Copy.calls ((rd_T63 l0 t532).f1.f0) _ _ ((rd_T63 l0 t532).f1.f1) ((rd_T63 l0 t532).f1.f2.f0) ((rd_T63 l0 t532).f1.f2.f1) ((rd_T63 l0 t532).f1.f2.f2) t534 t535 t538 t539 t540 _ ?side1 ?side2 A9.out).mono ?_); (case side1 => repeat (first | exact (Kd.C_below HR533_2.out HB.out) | (with_reducible refine Kd.C_alloc ?_ _) | (with_reducible refine Kd.C_drewN ?_ _) | (with_reducible refine Kd.C_drew ?_))); (case side2 => exact HC533_2.out); rintro e w11 ⟨v536, rfl, ho0, hb⟩; refine ⟨_, rfl, ?_⟩; have n0_ := Aside0.mk (Kd.R_lower ho0 (below_size (by repeat (first | (with_reducible first | exact HB.out | apply below_alloc | apply pw_below_drewN | apply below_drew1 | refine below_set ?_ GE531.out) | exact HB.out)))); have n1_ := Aside0.mk (blk_below (g := gb531) (o := .cells #[.int .i64 0, .slice none 0 0, .int .i64 0, .int .i64 0, .int .i64 0] 36 (0, 0)) (by (with_reducible repeat (first | refine blk_drewN ?_ _ | refine blk_drew ?_ | refine blk_alloc ?_ _)); exact BK531.out) hb); have n2_ := Aside0.mk (below_step (by repeat (first | (with_reducible first | exact HB.out | apply below_alloc | apply pw_below_drewN | apply below_drew1 | refine below_set ?_ GE531.out) | exact HB.out)) hb); clear BK531; clear HB; have HO537 := n0_; have BK531 := n1_; have HB := n2_; clear n0_ n1_ n2_; (try clear hb); (try clear hb2); (try clear hk); (try clear hi); (try clear ho0); have hcz12_0 : w11.cell? ⟨gb531, 0, none⟩ = some (.int .i64 0) := (blk_cell BK531.out 0).trans rfl; have hcz12_1 : w11.cell? ⟨gb531, 1, none⟩ = some (.slice none 0 0) := (blk_cell BK531.out 1).trans rfl; have hcz12_2 : w11.cell? ⟨gb531, 2, none⟩ = some (.int .i64 0) := (blk_cell BK531.out 2).trans rfl; have hcz12_3 : w11.cell? ⟨gb531, 3, none⟩ = some (.int .i64 0) := (blk_cell BK531.out 3).trans rfl; have hcz12_4 : w11.cell? ⟨gb531, 4, none⟩ = some (.int .i64 0) := (blk_cell BK531.out 4).trans rfl; have hfz12_0 := blk_frozen BK531.out 0; have hfz12_1 := blk_frozen BK531.out 1; have hfz12_2 := blk_frozen BK531.out 2; have hfz12_3 := blk_frozen BK531.out 3; have hfz12_4 := blk_frozen BK531.out 4; obtain ⟨Ao13, co13, eo13⟩ := Kd.R_slice HO537.out; subst eo13))
        refine bodyPost_ret (results_ct rfl _ _ gb531 36 #[.int .i64 t534, .slice Ao13 t535.length co13, .int .i64 t538, .int .i64 t539, .int .i64 t540] (0, 0) _ rfl (by (with_reducible repeat (first | refine blk_drewN ?_ _ | refine blk_drew ?_ | refine blk_alloc ?_ _)); refine blk_put (cs := #[.int .i64 t534, .slice Ao13 t535.length co13, .int .i64 t538, .int .i64 t539, .int .i64 0]) ?_ 4 _ rfl; (with_reducible repeat (first | refine blk_drewN ?_ _ | refine blk_drew ?_ | refine blk_alloc ?_ _)); refine blk_put (cs := #[.int .i64 t534, .slice Ao13 t535.length co13, .int .i64 t538, .int .i64 0, .int .i64 0]) ?_ 3 _ rfl; (with_reducible repeat (first | refine blk_drewN ?_ _ | refine blk_drew ?_ | refine blk_alloc ?_ _)); refine blk_put (cs := #[.int .i64 t534, .slice Ao13 t535.length co13, .int .i64 0, .int .i64 0, .int .i64 0]) ?_ 2 _ rfl; (with_reducible repeat (first | refine blk_drewN ?_ _ | refine blk_drew ?_ | refine blk_alloc ?_ _)); refine blk_put (cs := #[.int .i64 t534, .slice none 0 0, .int .i64 0, .int .i64 0, .int .i64 0]) ?_ 1 _ rfl; (with_reducible repeat (first | refine blk_drewN ?_ _ | refine blk_drew ?_ | refine blk_alloc ?_ _)); refine blk_put (cs := #[.int .i64 0, .slice none 0 0, .int .i64 0, .int .i64 0, .int .i64 0]) ?_ 0 _ rfl; (with_reducible repeat (first | refine blk_drewN ?_ _ | refine blk_drew ?_ | refine blk_alloc ?_ _)); exact BK531.out) Try.underlying36 rfl (by kernel_rfl)) rfl ?_
        exact ⟨_, by first | rfl | (simp [errW_none, errW_some] <;> rfl) | (simp [*, errW_none, errW_some] <;> rfl), by (with_reducible repeat (first | apply Kd.R_alloc | apply Kd.R_drewN | apply Kd.R_drew)); exact Kd.R_mono (Kd.R_far (p := ⟨gb531, 4, none⟩) (Kd.R_far (p := ⟨gb531, 3, none⟩) (Kd.R_far (p := ⟨gb531, 2, none⟩) (Kd.R_far (p := ⟨gb531, 1, none⟩) (Kd.R_far (p := ⟨gb531, 0, none⟩) (Kd.R_types HO537.out BK531.out (by decide)) (fun _ hk => hk.2) (.int .i64 t534)) (fun _ hk => hk.2) (.slice Ao13 t535.length co13)) (fun _ hk => hk.2) (.int .i64 t538)) (fun _ hk => hk.2) (.int .i64 t539)) (fun _ hk => hk.2) (.int .i64 t540)) (fun _ hk => trivial), by repeat (first | (with_reducible first | exact HB.out | apply below_alloc | apply pw_below_drewN | apply below_drew1 | refine below_set ?_ GE531.out) | exact HB.out)⟩
      · rw [if_neg c8] at H
        exact absurd H (by simp)
    · rw [if_neg c7] at H
      exact absurd H (by simp)

/-! ### spec_EqualInts: function 61 -/
def spec_EqualInts.l0 : Nat → List Int → List Int → Int → Option (Bool)
  | 0, _, _, _ => none
  | k + 1, x0, x1, x5 => if x5 < (x0.length : Int) then (if 0 ≤ x5 then (if x5 < (x1.length : Int) then (if (rd x0 x5) = (rd x1 x5) then (spec_EqualInts.l0 k x0 x1 (wrap64 (x5 + 1))) else (some false)) else (none)) else (none)) else (some true)
def spec_EqualInts.f (k : Nat) (l0 : List Int) (l1 : List Int) : Option (Bool) := if (l0.length : Int) = (l1.length : Int) then (spec_EqualInts.l0 k l0 l1 0) else (some false)
set_option maxHeartbeats 8000000 in
set_option maxRecDepth 100000 in
theorem spec_EqualInts.calls (k : Nat) (A0 : Option Addr) (c0 : Nat) (l0 : List Int) (A1 : Option Addr) (c1 : Nat) (l1 : List Int) (r : Bool) (w : World) (hr0 : Kd.C (Kd.int .i64) w A0 l0.length l0) (hc0 : l0.length ≤ c0) (hr1 : Kd.C (Kd.int .i64) w A1 l1.length l1) (hc1 : l1.length ≤ c1) (h : spec_EqualInts.f k l0 l1 = some r) :
    Calls Try.prog 61 #[.slice A0 l0.length c0, .slice A1 l1.length c1] w fun e w' => e = .returned (.bool r) ∧ Drawn0 w w' := by
  have HR0 := Aside0.mk hr0
  have HC0 := Aside0.mk hc0
  clear hr0 hc0
  have HR1 := Aside0.mk hr1
  have HC1 := Aside0.mk hc1
  clear hr1 hc1
  have H : (if (l0.length : Int) = (l1.length : Int) then (spec_EqualInts.l0 k l0 l1 0) else (some false)) = some r := h
  clear h
  by_cases c3 : (l0.length : Int) = (l1.length : Int)
  · rw [if_pos c3] at H
    have c3b0 : ((l0.length : Int) == (l1.length : Int)) = true := beq_iff_eq.mpr c3
    have c3b1 : ((l0.length : Int) != (l1.length : Int)) = false := bne_eq_false_iff_eq.mpr c3
    have c3b2 : (l0.length == l1.length) = true := by first | simpa using c3 | (simp at c3 ⊢; omega)
    clear c3
    have H' := Aside0.mk H
    clear H
    go_enter Try.func61, Try.ntmps61
    go_wp2
    repeat (go_quiet (fail); try go_wp2)
    go_loopg [5] k (fun kq v5 w' => ∃ (x5_1 : Int), v5 = .int .i64 x5_1 ∧ Aside0 (spec_EqualInts.l0 kq l0 l1 x5_1 = some r) ∧ Aside0 (kq ≤ k) ∧ Drawn0 w w')
    case atStart => exact ⟨(0), (by first | rfl | (simp; done) | (simp [*]; done)), H', ⟨Nat.le_refl _⟩, by repeat (first | exact Drawn0.refl _ | apply Drawn0.step)⟩
    case round =>
      clear H'
      try clear c1
      try clear p2
      try clear c3
      try clear c3b0
      try clear c3b1
      try clear c3b2
      obtain ⟨x5_1, rfl, HA, HK1, ⟨m1, rfl⟩⟩ := hrel
      cases gk with
      | zero => exact absurd HA.out (by simp [spec_EqualInts.l0])
      | succ k1 =>
        have H := HA.out
        clear HA
        simp only [spec_EqualInts.l0] at H
        by_cases c4 : x5_1 < (l0.length : Int)
        · rw [if_pos c4] at H
          have c4b0 : decide (x5_1 < (l0.length : Int)) = true := decide_eq_true c4
          clear c4
          by_cases c5 : 0 ≤ x5_1
          · rw [if_pos c5] at H
            have c5b0 : decide (0 ≤ x5_1) = true := decide_eq_true c5
            clear c5
            by_cases c6 : x5_1 < (l1.length : Int)
            · rw [if_pos c6] at H
              have c6b0 : decide (x5_1 < (l1.length : Int)) = true := decide_eq_true c6
              clear c6
              by_cases c7 : (rd l0 x5_1) = (rd l1 x5_1)
              · rw [if_pos c7] at H
                have c7b0 : ((rd l0 x5_1) == (rd l1 x5_1)) = true := beq_iff_eq.mpr c7
                have c7b1 : ((rd l0 x5_1) != (rd l1 x5_1)) = false := bne_eq_false_iff_eq.mpr c7
                clear c7
                have H' := Aside0.mk H
                clear H
                have p541 : 0 ≤ (x5_1 : Int) := of_decide_eq_true (by first | (with_reducible assumption) | assumption)
                have q541 : x5_1 < (l0.length : Int) := of_decide_eq_true (by first | (with_reducible assumption) | assumption)
                obtain ⟨ad541, e541, hx541_0⟩ := Kd.at_int HR0.out x5_1 p541 q541
                cases e541
                replace p541 := eq_true p541
                replace q541 := eq_true q541
                have p542 : 0 ≤ (x5_1 : Int) := of_decide_eq_true (by first | (with_reducible assumption) | assumption)
                have q542 : x5_1 < (l1.length : Int) := of_decide_eq_true (by first | (with_reducible assumption) | assumption)
                obtain ⟨ad542, e542, hx542_0⟩ := Kd.at_int HR1.out x5_1 p542 q542
                cases e542
                replace p542 := eq_true p542
                replace q542 := eq_true q542
                go_wp2
                repeat (go_quiet (fail); try go_wp2)
                go_roundg k1
                case measure => have := HK1.out; omega
                case rel => exact ⟨(wrap64 (x5_1 + 1)), (by first | rfl | (simp; done) | (simp [*]; done)), H', ⟨by have := HK1.out; omega⟩, by repeat (first | exact Drawn0.refl _ | apply Drawn0.step)⟩
              · rw [if_neg c7] at H
                have c7b0 : ((rd l0 x5_1) == (rd l1 x5_1)) = false := beq_eq_false_iff_ne.mpr c7
                have c7b1 : ((rd l0 x5_1) != (rd l1 x5_1)) = true := bne_iff_ne.mpr c7
                obtain rfl := Option.some.inj H
                have p541 : 0 ≤ (x5_1 : Int) := of_decide_eq_true (by first | (with_reducible assumption) | assumption)
                have q541 : x5_1 < (l0.length : Int) := of_decide_eq_true (by first | (with_reducible assumption) | assumption)
                obtain ⟨ad541, e541, hx541_0⟩ := Kd.at_int HR0.out x5_1 p541 q541
                cases e541
                replace p541 := eq_true p541
                replace q541 := eq_true q541
                have p542 : 0 ≤ (x5_1 : Int) := of_decide_eq_true (by first | (with_reducible assumption) | assumption)
                have q542 : x5_1 < (l1.length : Int) := of_decide_eq_true (by first | (with_reducible assumption) | assumption)
                obtain ⟨ad542, e542, hx542_0⟩ := Kd.at_int HR1.out x5_1 p542 q542
                cases e542
                replace p542 := eq_true p542
                replace q542 := eq_true q542
                go_wp2
                repeat (go_quiet (fail); try go_wp2)
                go_ret
                exact ⟨by first | rfl | (simp; done) | (simp [*]; done), by repeat (first | exact Drawn0.refl _ | apply Drawn0.step)⟩
            · rw [if_neg c6] at H
              exact absurd H (by simp)
          · rw [if_neg c5] at H
            exact absurd H (by simp)
        · rw [if_neg c4] at H
          have c4b0 : decide (x5_1 < (l0.length : Int)) = false := decide_eq_false c4
          clear c4
          obtain rfl := Option.some.inj H
          go_wp2
          repeat (go_quiet (fail); try go_wp2)
          go_ret
          exact ⟨by first | rfl | (simp; done) | (simp [*]; done), by repeat (first | exact Drawn0.refl _ | apply Drawn0.step)⟩
  · rw [if_neg c3] at H
    have c3b0 : ((l0.length : Int) == (l1.length : Int)) = false := beq_eq_false_iff_ne.mpr c3
    have c3b1 : ((l0.length : Int) != (l1.length : Int)) = true := bne_iff_ne.mpr c3
    have c3b2 : (l0.length == l1.length) = false := by first | simpa using c3 | (simp at c3 ⊢; omega)
    obtain rfl := Option.some.inj H
    go_enter Try.func61, Try.ntmps61
    go_wp2
    repeat (go_quiet (fail); try go_wp2)
    go_ret
    exact ⟨by first | rfl | (simp; done) | (simp [*]; done), by repeat (first | exact Drawn0.refl _ | apply Drawn0.step)⟩

/-! ### spec_EqualResources: function 24 -/
def spec_EqualResources.f (k : Nat) (a0_0 : Int) (l0_1 : List Int) (a0_2 : Int) (a0_3 : Int) (a0_4 : Int) (a1_0 : Int) (l1_1 : List Int) (a1_2 : Int) (a1_3 : Int) (a1_4 : Int) : Option (Bool) := if a0_0 = a1_0 then (if (a0_2 == a1_2 && (a0_3 == a1_3 && (a0_4 == a1_4))) = true then ((spec_EqualInts.f k l0_1 l1_1).bind fun t545 => (some t545)) else (some false)) else (some false)
set_option maxHeartbeats 8000000 in
set_option maxRecDepth 100000 in
theorem spec_EqualResources.calls (k : Nat) (a0_0 : Int) (A0_1 : Option Addr) (c0_1 : Nat) (l0_1 : List Int) (a0_2 : Int) (a0_3 : Int) (a0_4 : Int) (a1_0 : Int) (A1_1 : Option Addr) (c1_1 : Nat) (l1_1 : List Int) (a1_2 : Int) (a1_3 : Int) (a1_4 : Int) (r : Bool) (w : World) (hr0_1 : Kd.C (Kd.int .i64) w A0_1 l0_1.length l0_1) (hc0_1 : l0_1.length ≤ c0_1) (hr1_1 : Kd.C (Kd.int .i64) w A1_1 l1_1.length l1_1) (hc1_1 : l1_1.length ≤ c1_1) (h : spec_EqualResources.f k a0_0 l0_1 a0_2 a0_3 a0_4 a1_0 l1_1 a1_2 a1_3 a1_4 = some r) :
    Calls Try.prog 24 #[.agg #[.int .i64 a0_0, .slice A0_1 l0_1.length c0_1, .int .i64 a0_2, .int .i64 a0_3, .int .i64 a0_4], .agg #[.int .i64 a1_0, .slice A1_1 l1_1.length c1_1, .int .i64 a1_2, .int .i64 a1_3, .int .i64 a1_4]] w fun e w' => e = .returned (.bool r) ∧ Below w.heap.size w w' := by
  have hu36 := Try.underlying36
  have hu34 := Try.underlying34
  have HR0_1 := Aside0.mk hr0_1
  have HC0_1 := Aside0.mk hc0_1
  clear hr0_1 hc0_1
  have HR1_1 := Aside0.mk hr1_1
  have HC1_1 := Aside0.mk hc1_1
  clear hr1_1 hc1_1
  have HB := Aside0.mk (Below.refl w.heap.size w)
  have H : (if a0_0 = a1_0 then (if (a0_2 == a1_2 && (a0_3 == a1_3 && (a0_4 == a1_4))) = true then ((spec_EqualInts.f k l0_1 l1_1).bind fun t545 => (some t545)) else (some false)) else (some false)) = some r := h
  clear h
  by_cases c3 : a0_0 = a1_0
  · rw [if_pos c3] at H
    have c3b0 : (a0_0 == a1_0) = true := beq_iff_eq.mpr c3
    have c3b1 : (a0_0 != a1_0) = false := bne_eq_false_iff_eq.mpr c3
    clear c3
    by_cases c4 : (a0_2 == a1_2 && (a0_3 == a1_3 && (a0_4 == a1_4))) = true
    · rw [if_pos c4] at H
      have c4b0 : (a0_2 == a1_2 && (a0_3 == a1_3 && (a0_4 == a1_4))) = true := c4
      (try (have c4b1 : decide (a0_2 = a1_2 && (a0_3 == a1_3 && (a0_4 == a1_4))) = true := by simpa using c4))
      (try (have c4b2 : (a0_2 == a1_2 && (a0_3 == a1_3 && (a0_4 == a1_4))) = true := by simpa using c4))
      clear c4
      replace H := Option.bind_eq_some_iff.mp H
      obtain ⟨t545, A50, H⟩ := H
      replace H : (some t545) = some r := H
      have A5 := Aside0.mk A50
      clear A50
      obtain rfl := Option.some.inj H
      go_enter Try.func24, Try.ntmps24
      go_wp2_with (first | ((with_reducible refine gate_dst (N := 2) rfl ?_); refine box_event ?hg (N := 2) ?hd (cs := #[.int .i64 a0_0, .slice A0_1 l0_1.length c0_1, .int .i64 a0_2, .int .i64 a0_3, .int .i64 a0_4]) (t := 36) ?hr ?_; (case hd => rfl); (case hg => rfl); (case hr => first | (go_simp; done) | (go_simp; rfl)); intro gb543 hg w6 hbox hb; have n0_ := Aside0.mk (below_step (by repeat (first | (with_reducible first | exact HB.out | apply below_alloc | apply pw_below_drewN | apply below_drew1) | exact HB.out)) hb); have n1_ := Aside0.mk (hbox); have n2_ := Aside0.mk ((by rw [hg]; exact (below_size (by repeat (first | (with_reducible first | exact HB.out | apply below_alloc | apply pw_below_drewN | apply below_drew1) | exact HB.out))) : w.heap.size ≤ gb543)); have n3_ := Aside0.mk ((by rw [hg]; exact (below_size (by repeat (first | (with_reducible first | exact HB.out | apply below_alloc | apply pw_below_drewN | apply below_drew1) | exact HB.out))) : w.heap.size ≤ gb543)); clear HB; have HB := n0_; have BK543 := n1_; have GW543 := n2_; have GE543 := n3_; clear n0_ n1_ n2_ n3_; clear hb hbox hg) | ((with_reducible refine gate_dst (N := 3) rfl ?_); refine box_event ?hg (N := 3) ?hd (cs := #[.int .i64 a1_0, .slice A1_1 l1_1.length c1_1, .int .i64 a1_2, .int .i64 a1_3, .int .i64 a1_4]) (t := 36) ?hr ?_; (case hd => rfl); (case hg => rfl); (case hr => first | (go_simp; done) | (go_simp; rfl)); intro gb544 hg w7 hbox hb; have n0_ := Aside0.mk (blk_below (g := gb543) (o := .cells #[.int .i64 a0_0, .slice A0_1 l0_1.length c0_1, .int .i64 a0_2, .int .i64 a0_3, .int .i64 a0_4] 36 (0, 0)) (by (with_reducible repeat (first | refine blk_drewN ?_ _ | refine blk_drew ?_ | refine blk_alloc ?_ _)); exact BK543.out) hb); have n1_ := Aside0.mk (below_step (by repeat (first | (with_reducible first | exact HB.out | apply below_alloc | apply pw_below_drewN | apply below_drew1 | refine below_set ?_ GE543.out) | exact HB.out)) hb); have n2_ := Aside0.mk (hbox); have n3_ := Aside0.mk ((by rw [hg]; exact (below_size (by repeat (first | (with_reducible first | exact HB.out | apply below_alloc | apply pw_below_drewN | apply below_drew1 | refine below_set ?_ GE543.out) | exact HB.out))) : w.heap.size ≤ gb544)); have n4_ := Aside0.mk ((by rw [hg]; exact (below_size (by repeat (first | (with_reducible first | exact HB.out | apply below_alloc | apply pw_below_drewN | apply below_drew1 | refine below_set ?_ GE543.out) | exact HB.out))) : w.heap.size ≤ gb544)); have n5_ := Aside0.mk ((by rw [hg]; exact Nat.ne_of_lt (blk_lt (g := gb543) (o := .cells #[.int .i64 a0_0, .slice A0_1 l0_1.length c0_1, .int .i64 a0_2, .int .i64 a0_3, .int .i64 a0_4] 36 (0, 0)) (by (with_reducible repeat (first | refine blk_drewN ?_ _ | refine blk_drew ?_ | refine blk_alloc ?_ _)); exact BK543.out)) : gb543 ≠ gb544)); have n6_ := Aside0.mk ((by rw [hg]; exact Nat.ne_of_gt (blk_lt (g := gb543) (o := .cells #[.int .i64 a0_0, .slice A0_1 l0_1.length c0_1, .int .i64 a0_2, .int .i64 a0_3, .int .i64 a0_4] 36 (0, 0)) (by (with_reducible repeat (first | refine blk_drewN ?_ _ | refine blk_drew ?_ | refine blk_alloc ?_ _)); exact BK543.out)) : gb544 ≠ gb543)); clear BK543; clear HB; have BK543 := n0_; have HB := n1_; have BK544 := n2_; have GW544 := n3_; have GE544 := n4_; have NB543_544 := n5_; have NB544_543 := n6_; clear n0_ n1_ n2_ n3_ n4_ n5_ n6_; clear hb hbox hg; have hnb8 := NB543_544.out; have hnc8 := NB544_543.out; have hcz9_0 : w7.cell? ⟨gb543, 0, none⟩ = some (.int .i64 a0_0) := (blk_cell BK543.out 0).trans rfl; have hcz9_1 : w7.cell? ⟨gb543, 1, none⟩ = some (.slice A0_1 l0_1.length c0_1) := (blk_cell BK543.out 1).trans rfl; have hcz9_2 : w7.cell? ⟨gb543, 2, none⟩ = some (.int .i64 a0_2) := (blk_cell BK543.out 2).trans rfl; have hcz9_3 : w7.cell? ⟨gb543, 3, none⟩ = some (.int .i64 a0_3) := (blk_cell BK543.out 3).trans rfl; have hcz9_4 : w7.cell? ⟨gb543, 4, none⟩ = some (.int .i64 a0_4) := (blk_cell BK543.out 4).trans rfl; have hfz9_0 := blk_frozen BK543.out 0; have hfz9_1 := blk_frozen BK543.out 1; have hfz9_2 := blk_frozen BK543.out 2; have hfz9_3 := blk_frozen BK543.out 3; have hfz9_4 := blk_frozen BK543.out 4; have hcz10_0 : w7.cell? ⟨gb544, 0, none⟩ = some (.int .i64 a1_0) := (blk_cell BK544.out 0).trans rfl; have hcz10_1 : w7.cell? ⟨gb544, 1, none⟩ = some (.slice A1_1 l1_1.length c1_1) := (blk_cell BK544.out 1).trans rfl; have hcz10_2 : w7.cell? ⟨gb544, 2, none⟩ = some (.int .i64 a1_2) := (blk_cell BK544.out 2).trans rfl; have hcz10_3 : w7.cell? ⟨gb544, 3, none⟩ = some (.int .i64 a1_3) := (blk_cell BK544.out 3).trans rfl; have hcz10_4 : w7.cell? ⟨gb544, 4, none⟩ = some (.int .i64 a1_4) := (blk_cell BK544.out 4).trans rfl; have hfz10_0 := blk_frozen BK544.out 0; have hfz10_1 := blk_frozen BK544.out 1; have hfz10_2 := blk_frozen BK544.out 2; have hfz10_3 := blk_frozen BK544.out 3; have hfz10_4 := blk_frozen BK544.out 4) | (go_at_call 61; (with_reducible refine (spec_EqualInts.calls k _ _ l0_1 _ _ l1_1 t545 _ ?side1 ?side2 ?side3 ?side4 A5.out).mono ?_); (case side1 => repeat (first | exact (Kd.C_below HR0_1.out HB.out) | (with_reducible refine Kd.C_alloc ?_ _) | (with_reducible refine Kd.C_drewN ?_ _) | (with_reducible refine Kd.C_drew ?_))); (case side2 => exact HC0_1.out); (case side3 => repeat (first | exact (Kd.C_below HR1_1.out HB.out) | (with_reducible refine Kd.C_alloc ?_ _) | (with_reducible refine Kd.C_drewN ?_ _) | (with_reducible refine Kd.C_drew ?_))); (case side4 => exact HC1_1.out); rintro e w' ⟨rfl, ⟨nd, rfl⟩⟩))
      go_ret
      exact ⟨by first | rfl | (simp [errW_none, errW_some] <;> rfl) | (simp [*, errW_none, errW_some] <;> rfl), by repeat (first | (with_reducible first | exact HB.out | apply below_alloc | apply pw_below_drewN | apply below_drew1 | refine below_set ?_ GE543.out | refine below_set ?_ GE544.out) | exact HB.out)⟩
    · rw [if_neg c4] at H
      have c4b0 : (a0_2 == a1_2 && (a0_3 == a1_3 && (a0_4 == a1_4))) = false := by simpa using c4
      (try (have c4b1 : decide (a0_2 = a1_2 && (a0_3 == a1_3 && (a0_4 == a1_4))) = false := by simpa using c4))
      (try (have c4b2 : (a0_2 == a1_2 && (a0_3 == a1_3 && (a0_4 == a1_4))) = false := by simpa using c4))
      (try (have c4b3 : ¬ (a0_2 = a1_2 && (a0_3 == a1_3 && (a0_4 == a1_4))) := by simpa using c4))
      clear c4
      obtain rfl := Option.some.inj H
      go_enter Try.func24, Try.ntmps24
      go_wp2_with (first | ((with_reducible refine gate_dst (N := 2) rfl ?_); refine box_event ?hg (N := 2) ?hd (cs := #[.int .i64 a0_0, .slice A0_1 l0_1.length c0_1, .int .i64 a0_2, .int .i64 a0_3, .int .i64 a0_4]) (t := 36) ?hr ?_; (case hd => rfl); (case hg => rfl); (case hr => first | (go_simp; done) | (go_simp; rfl)); intro gb543 hg w11 hbox hb; have n0_ := Aside0.mk (below_step (by repeat (first | (with_reducible first | exact HB.out | apply below_alloc | apply pw_below_drewN | apply below_drew1) | exact HB.out)) hb); have n1_ := Aside0.mk (hbox); have n2_ := Aside0.mk ((by rw [hg]; exact (below_size (by repeat (first | (with_reducible first | exact HB.out | apply below_alloc | apply pw_below_drewN | apply below_drew1) | exact HB.out))) : w.heap.size ≤ gb543)); have n3_ := Aside0.mk ((by rw [hg]; exact (below_size (by repeat (first | (with_reducible first | exact HB.out | apply below_alloc | apply pw_below_drewN | apply below_drew1) | exact HB.out))) : w.heap.size ≤ gb543)); clear HB; have HB := n0_; have BK543 := n1_; have GW543 := n2_; have GE543 := n3_; clear n0_ n1_ n2_ n3_; clear hb hbox hg) | ((with_reducible refine gate_dst (N := 3) rfl ?_); refine box_event ?hg (N := 3) ?hd (cs := #[.int .i64 a1_0, .slice A1_1 l1_1.length c1_1, .int .i64 a1_2, .int .i64 a1_3, .int .i64 a1_4]) (t := 36) ?hr ?_; (case hd => rfl); (case hg => rfl); (case hr => first | (go_simp; done) | (go_simp; rfl)); intro gb544 hg w12 hbox hb; have n0_ := Aside0.mk (blk_below (g := gb543) (o := .cells #[.int .i64 a0_0, .slice A0_1 l0_1.length c0_1, .int .i64 a0_2, .int .i64 a0_3, .int .i64 a0_4] 36 (0, 0)) (by (with_reducible repeat (first | refine blk_drewN ?_ _ | refine blk_drew ?_ | refine blk_alloc ?_ _)); exact BK543.out) hb); have n1_ := Aside0.mk (below_step (by repeat (first | (with_reducible first | exact HB.out | apply below_alloc | apply pw_below_drewN | apply below_drew1 | refine below_set ?_ GE543.out) | exact HB.out)) hb); have n2_ := Aside0.mk (hbox); have n3_ := Aside0.mk ((by rw [hg]; exact (below_size (by repeat (first | (with_reducible first | exact HB.out | apply below_alloc | apply pw_below_drewN | apply below_drew1 | refine below_set ?_ GE543.out) | exact HB.out))) : w.heap.size ≤ gb544)); have n4_ := Aside0.mk ((by rw [hg]; exact (below_size (by repeat (first | (with_reducible first | exact HB.out | apply below_alloc | apply pw_below_drewN | apply below_drew1 | refine below_set ?_ GE543.out) | exact HB.out))) : w.heap.size ≤ gb544)); have n5_ := Aside0.mk ((by rw [hg]; exact Nat.ne_of_lt (blk_lt (g := gb543) (o := .cells #[.int .i64 a0_0, .slice A0_1 l0_1.length c0_1, .int .i64 a0_2, .int .i64 a0_3, .int .i64 a0_4] 36 (0, 0)) (by (with_reducible repeat (first | refine blk_drewN ?_ _ | refine blk_drew ?_ | refine blk_alloc ?_ _)); exact BK543.out)) : gb543 ≠ gb544)); have n6_ := Aside0.mk ((by rw [hg]; exact Nat.ne_of_gt (blk_lt (g := gb543) (o := .cells #[.int .i64 a0_0, .slice A0_1 l0_1.length c0_1, .int .i64 a0_2, .int .i64 a0_3, .int .i64 a0_4] 36 (0, 0)) (by (with_reducible repeat (first | refine blk_drewN ?_ _ | refine blk_drew ?_ | refine blk_alloc ?_ _)); exact BK543.out)) : gb544 ≠ gb543)); clear BK543; clear HB; have BK543 := n0_; have HB := n1_; have BK544 := n2_; have GW544 := n3_; have GE544 := n4_; have NB543_544 := n5_; have NB544_543 := n6_; clear n0_ n1_ n2_ n3_ n4_ n5_ n6_; clear hb hbox hg; have hnb13 := NB543_544.out; have hnc13 := NB544_543.out; have hcz14_0 : w12.cell? ⟨gb543, 0, none⟩ = some (.int .i64 a0_0) := (blk_cell BK543.out 0).trans rfl; have hcz14_1 : w12.cell? ⟨gb543, 1, none⟩ = some (.slice A0_1 l0_1.length c0_1) := (blk_cell BK543.out 1).trans rfl; have hcz14_2 : w12.cell? ⟨gb543, 2, none⟩ = some (.int .i64 a0_2) := (blk_cell BK543.out 2).trans rfl; have hcz14_3 : w12.cell? ⟨gb543, 3, none⟩ = some (.int .i64 a0_3) := (blk_cell BK543.out 3).trans rfl; have hcz14_4 : w12.cell? ⟨gb543, 4, none⟩ = some (.int .i64 a0_4) := (blk_cell BK543.out 4).trans rfl; have hfz14_0 := blk_frozen BK543.out 0; have hfz14_1 := blk_frozen BK543.out 1; have hfz14_2 := blk_frozen BK543.out 2; have hfz14_3 := blk_frozen BK543.out 3; have hfz14_4 := blk_frozen BK543.out 4; have hcz15_0 : w12.cell? ⟨gb544, 0, none⟩ = some (.int .i64 a1_0) := (blk_cell BK544.out 0).trans rfl; have hcz15_1 : w12.cell? ⟨gb544, 1, none⟩ = some (.slice A1_1 l1_1.length c1_1) := (blk_cell BK544.out 1).trans rfl; have hcz15_2 : w12.cell? ⟨gb544, 2, none⟩ = some (.int .i64 a1_2) := (blk_cell BK544.out 2).trans rfl; have hcz15_3 : w12.cell? ⟨gb544, 3, none⟩ = some (.int .i64 a1_3) := (blk_cell BK544.out 3).trans rfl; have hcz15_4 : w12.cell? ⟨gb544, 4, none⟩ = some (.int .i64 a1_4) := (blk_cell BK544.out 4).trans rfl; have hfz15_0 := blk_frozen BK544.out 0; have hfz15_1 := blk_frozen BK544.out 1; have hfz15_2 := blk_frozen BK544.out 2; have hfz15_3 := blk_frozen BK544.out 3; have hfz15_4 := blk_frozen BK544.out 4))
      go_ret
      exact ⟨by first | rfl | (simp [errW_none, errW_some] <;> rfl) | (simp [*, errW_none, errW_some] <;> rfl), by repeat (first | (with_reducible first | exact HB.out | apply below_alloc | apply pw_below_drewN | apply below_drew1 | refine below_set ?_ GE543.out | refine below_set ?_ GE544.out) | exact HB.out)⟩
  · rw [if_neg c3] at H
    have c3b0 : (a0_0 == a1_0) = false := beq_eq_false_iff_ne.mpr c3
    have c3b1 : (a0_0 != a1_0) = true := bne_iff_ne.mpr c3
    obtain rfl := Option.some.inj H
    go_enter Try.func24, Try.ntmps24
    go_wp2_with (first | ((with_reducible refine gate_dst (N := 2) rfl ?_); refine box_event ?hg (N := 2) ?hd (cs := #[.int .i64 a0_0, .slice A0_1 l0_1.length c0_1, .int .i64 a0_2, .int .i64 a0_3, .int .i64 a0_4]) (t := 36) ?hr ?_; (case hd => rfl); (case hg => rfl); (case hr => first | (go_simp; done) | (go_simp; rfl)); intro gb543 hg w16 hbox hb; have n0_ := Aside0.mk (below_step (by repeat (first | (with_reducible first | exact HB.out | apply below_alloc | apply pw_below_drewN | apply below_drew1) | exact HB.out)) hb); have n1_ := Aside0.mk (hbox); have n2_ := Aside0.mk ((by rw [hg]; exact (below_size (by repeat (first | (with_reducible first | exact HB.out | apply below_alloc | apply pw_below_drewN | apply below_drew1) | exact HB.out))) : w.heap.size ≤ gb543)); have n3_ := Aside0.mk ((by rw [hg]; exact (below_size (by repeat (first | (with_reducible first | exact HB.out | apply below_alloc | apply pw_below_drewN | apply below_drew1) | exact HB.out))) : w.heap.size ≤ gb543)); clear HB; have HB := n0_; have BK543 := n1_; have GW543 := n2_; have GE543 := n3_; clear n0_ n1_ n2_ n3_; clear hb hbox hg) | ((with_reducible refine gate_dst (N := 3) rfl ?_); refine box_event ?hg (N := 3) ?hd (cs := #[.int .i64 a1_0, .slice A1_1 l1_1.length c1_1, .int .i64 a1_2, .int .i64 a1_3, .int .i64 a1_4]) (t := 36) ?hr ?_; (case hd => rfl); (case hg => rfl); (case hr => first | (go_simp; done) | (go_simp; rfl)); intro gb544 hg w17 hbox hb; have n0_ := Aside0.mk (blk_below (g := gb543) (o := .cells #[.int .i64 a0_0, .slice A0_1 l0_1.length c0_1, .int .i64 a0_2, .int .i64 a0_3, .int .i64 a0_4] 36 (0, 0)) (by (with_reducible repeat (first | refine blk_drewN ?_ _ | refine blk_drew ?_ | refine blk_alloc ?_ _)); exact BK543.out) hb); have n1_ := Aside0.mk (below_step (by repeat (first | (with_reducible first | exact HB.out | apply below_alloc | apply pw_below_drewN | apply below_drew1 | refine below_set ?_ GE543.out) | exact HB.out)) hb); have n2_ := Aside0.mk (hbox); have n3_ := Aside0.mk ((by rw [hg]; exact (below_size (by repeat (first | (with_reducible first | exact HB.out | apply below_alloc | apply pw_below_drewN | apply below_drew1 | refine below_set ?_ GE543.out) | exact HB.out))) : w.heap.size ≤ gb544)); have n4_ := Aside0.mk ((by rw [hg]; exact (below_size (by repeat (first | (with_reducible first | exact HB.out | apply below_alloc | apply pw_below_drewN | apply below_drew1 | refine below_set ?_ GE543.out) | exact HB.out))) : w.heap.size ≤ gb544)); have n5_ := Aside0.mk ((by rw [hg]; exact Nat.ne_of_lt (blk_lt (g := gb543) (o := .cells #[.int .i64 a0_0, .slice A0_1 l0_1.length c0_1, .int .i64 a0_2, .int .i64 a0_3, .int .i64 a0_4] 36 (0, 0)) (by (with_reducible repeat (first | refine blk_drewN ?_ _ | refine blk_drew ?_ | refine blk_alloc ?_ _)); exact BK543.out)) : gb543 ≠ gb544)); have n6_ := Aside0.mk ((by rw [hg]; exact Nat.ne_of_gt (blk_lt (g := gb543) (o := .cells #[.int .i64 a0_0, .slice A0_1 l0_1.length c0_1, .int .i64 a0_2, .int .i64 a0_3, .int .i64 a0_4] 36 (0, 0)) (by (with_reducible repeat (first | refine blk_drewN ?_ _ | refine blk_drew ?_ | refine blk_alloc ?_ _)); exact BK543.out)) : gb544 ≠ gb543)); clear BK543; clear HB; have BK543 := n0_; have HB := n1_; have BK544 := n2_; have GW544 := n3_; have GE544 := n4_; have NB543_544 := n5_; have NB544_543 := n6_; clear n0_ n1_ n2_ n3_ n4_ n5_ n6_; clear hb hbox hg; have hnb18 := NB543_544.out; have hnc18 := NB544_543.out; have hcz19_0 : w17.cell? ⟨gb543, 0, none⟩ = some (.int .i64 a0_0) := (blk_cell BK543.out 0).trans rfl; have hcz19_1 : w17.cell? ⟨gb543, 1, none⟩ = some (.slice A0_1 l0_1.length c0_1) := (blk_cell BK543.out 1).trans rfl; have hcz19_2 : w17.cell? ⟨gb543, 2, none⟩ = some (.int .i64 a0_2) := (blk_cell BK543.out 2).trans rfl; have hcz19_3 : w17.cell? ⟨gb543, 3, none⟩ = some (.int .i64 a0_3) := (blk_cell BK543.out 3).trans rfl; have hcz19_4 : w17.cell? ⟨gb543, 4, none⟩ = some (.int .i64 a0_4) := (blk_cell BK543.out 4).trans rfl; have hfz19_0 := blk_frozen BK543.out 0; have hfz19_1 := blk_frozen BK543.out 1; have hfz19_2 := blk_frozen BK543.out 2; have hfz19_3 := blk_frozen BK543.out 3; have hfz19_4 := blk_frozen BK543.out 4; have hcz20_0 : w17.cell? ⟨gb544, 0, none⟩ = some (.int .i64 a1_0) := (blk_cell BK544.out 0).trans rfl; have hcz20_1 : w17.cell? ⟨gb544, 1, none⟩ = some (.slice A1_1 l1_1.length c1_1) := (blk_cell BK544.out 1).trans rfl; have hcz20_2 : w17.cell? ⟨gb544, 2, none⟩ = some (.int .i64 a1_2) := (blk_cell BK544.out 2).trans rfl; have hcz20_3 : w17.cell? ⟨gb544, 3, none⟩ = some (.int .i64 a1_3) := (blk_cell BK544.out 3).trans rfl; have hcz20_4 : w17.cell? ⟨gb544, 4, none⟩ = some (.int .i64 a1_4) := (blk_cell BK544.out 4).trans rfl; have hfz20_0 := blk_frozen BK544.out 0; have hfz20_1 := blk_frozen BK544.out 1; have hfz20_2 := blk_frozen BK544.out 2; have hfz20_3 := blk_frozen BK544.out 3; have hfz20_4 := blk_frozen BK544.out 4))
    go_ret
    exact ⟨by first | rfl | (simp [errW_none, errW_some] <;> rfl) | (simp [*, errW_none, errW_some] <;> rfl), by repeat (first | (with_reducible first | exact HB.out | apply below_alloc | apply pw_below_drewN | apply below_drew1 | refine below_set ?_ GE543.out | refine below_set ?_ GE544.out) | exact HB.out)⟩

-- NOT PRINTED: function 65 (impl_Part_65)

end Go.Proofs.Ytlpfobakbgipbaa.QFnParts
