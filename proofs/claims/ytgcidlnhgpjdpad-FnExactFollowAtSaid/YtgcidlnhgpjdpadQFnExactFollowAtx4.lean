/- The Go functions that the law FnExactFollowAt comes to, each as a Lean function, with a proof that the call does what it says; written by a program of this session over the print of the kit. No conditions. -/
import Derived.Test.YtgcidlnhgpjdpadQFnExactFollowAtx0
import Derived.Test.YtgcidlnhgpjdpadQFnExactFollowAtx3
namespace Go.Proofs.Ytgcidlnhgpjdpad.QFnExactFollowAt
open Go.RowKit Go.Proofs.YtgcidlnhgpjdpadW.PrintWords Go.Proofs.YtgcidlnhgpjdpadW.PrintLast Go.Proofs.YtgcidlnhgpjdpadW.PrintMore
attribute [local go_sem] max2_int min2_int max_two min_two max_three min_three max_four min_four   -- for this text's walks alone
set_option linter.unusedVariables false
set_option linter.unusedSimpArgs false
set_option maxHeartbeats 8000000
set_option maxRecDepth 100000
def bump : Nat → Int → Int
  | 0, a => a
  | n + 1, a => bump n (wrap64 (a + 1))
/-- From w to W only numbers have been written over numbers, in the blocks of P (and what is new). -/
structure Soft (P : Nat → Prop) (w W : World) : Prop where
  kept : Kept w W P
  cell : ∀ p u, w.cell? p = some u → W.cell? p = some u ∨ ((∃ a, u = .int .i64 a) ∧ ∃ b, W.cell? p = some (.int .i64 b))
  frozen : ∀ p, W.frozen? p = w.frozen? p
theorem Soft.refl (P : Nat → Prop) (w : World) : Soft P w w := ⟨Kept.refl _ _, fun _ _ h => .inl h, fun _ => rfl⟩
theorem Soft.int {P : Nat → Prop} {w W : World} (h : Soft P w W) {p : Addr} {a : Int} (hp : w.cell? p = some (.int .i64 a)) : ∃ b, W.cell? p = some (.int .i64 b) := by
  rcases h.cell p _ hp with h1 | ⟨_, h1⟩
  · exact ⟨a, h1⟩
  · exact h1
theorem Soft.slice {P : Nat → Prop} {w W : World} (h : Soft P w W) {p : Addr} {A : Option Addr} {n c : Nat} (hp : w.cell? p = some (.slice A n c)) : W.cell? p = some (.slice A n c) := by
  rcases h.cell p _ hp with h1 | ⟨⟨a, ha⟩, _⟩
  · exact h1
  · cases ha
theorem Soft.trans {P : Nat → Prop} {w W V : World} (h : Soft P w W) (k : Soft P W V) : Soft P w V := by
  refine ⟨h.kept.then_ k.kept (fun _ hk => .inl hk), fun p u hp => ?_, fun p => (k.frozen p).trans (h.frozen p)⟩
  rcases h.cell p u hp with h1 | ⟨h1, b, h2⟩
  · exact k.cell p u h1
  · exact .inr ⟨h1, k.int h2⟩
theorem Soft.set {P : Nat → Prop} {w W : World} (h : Soft P w W) {p : Addr} {a : Int} (hp : W.cell? p = some (.int .i64 a)) (hP : P p.block) (b : Int) : Soft P w (W.setCell p (.int .i64 b)) := by
  refine h.trans ⟨Kept.setCell (Kept.refl _ _) (.inl hP) _, fun q u hq => ?_, fun q => World.frozen?_setCell _ _ _ _⟩
  by_cases e : p = q
  · subst e
    rw [hp] at hq
    injection hq with hq
    exact .inr ⟨⟨a, hq.symm⟩, b, World.cell?_setCell_same _ _ _ hp⟩
  · exact .inl ((World.cell?_setCell_other _ _ _ _ e).trans hq)
theorem bump_add (m n : Nat) (a : Int) : bump n (bump m a) = bump (m + n) a := by
  induction m generalizing a with
  | zero => rw [Nat.zero_add]; rfl
  | succ m ih => rw [Nat.succ_add]; exact ih _
theorem wrap_id {x : Int} (h0 : -9223372036854775808 ≤ x) (h1 : x ≤ 9223372036854775807) : wrap64 x = x := by
  unfold wrap64
  omega
/-- A row of numbers that may be written. -/
def IntRow (P : Nat → Prop) (w0 w : World) (A : Option Addr) (n : Nat) : Prop :=
  n ≤ 9223372036854775807 ∧ (0 < n → ∃ g, A = some ⟨g, 0, none⟩ ∧ P g ∧ w0.heap.size ≤ g ∧ (∀ j, j < n → ∃ x, w.cell? ⟨g, j, none⟩ = some (.int .i64 x)) ∧ ∀ j, w.frozen? ⟨g, j, none⟩ = false)
theorem IntRow.soft {P : Nat → Prop} {w0 w W : World} {A : Option Addr} {n : Nat} (h : IntRow P w0 w A n) (hs : Soft P w W) : IntRow P w0 W A n := by
  refine ⟨h.1, fun hp => ?_⟩
  obtain ⟨g, hA, hP, hg, hc, hf⟩ := h.2 hp
  refine ⟨g, hA, hP, hg, fun j hj => ?_, fun j => (hs.frozen _).trans (hf j)⟩
  obtain ⟨x, hx⟩ := hc j hj
  exact hs.int hx
theorem IntRow.of_R {P ok : Nat → Prop} {w0 w : World} {v : Value} {l : List Int} (h : Kd.R (Kd.int .i64) 3 w w0.heap.size ok v l) (hP : ∀ k, ok k → P k) : ∃ A c, v = .slice A l.length c ∧ IntRow P w0 w A l.length := by
  obtain ⟨A, c, rfl, hlc, hC⟩ := Kd.R_reads h
  refine ⟨A, c, rfl, hC.2.1, fun hp => ?_⟩
  obtain ⟨g, cap, e, hg, _, _⟩ := Kd.R_form h hp
  injection e with eA _ _
  subst eA
  refine ⟨g, rfl, hP g (h.1 g rfl), hg, fun j hj => ?_, fun j => ?_⟩
  · exact ⟨_, (Kd.R_celln 0 h (j : Int) (by omega) (by omega)).1⟩
  · obtain ⟨cc, _, _, _, hf⟩ := Kd.R_elem h 0 0 (by omega) (by omega)
    have h2 := hf j
    simpa using h2
theorem soft_markIntS (P : Nat → Prop) (A : Option Addr) (n c : Nat) (a1 : Int) (w0 w : World) (hA : IntRow P w0 w A n) (hB : Below w0.heap.size w0 w) :
    Calls Try.prog 58 #[.slice A n c, .int .i64 a1] w fun e w' => e = .returned (.int .i64 (bump n a1)) ∧ Below w0.heap.size w0 w' ∧ Soft P w w' := by
  have HA := Aside0.mk hA
  have HB := Aside0.mk hB
  have HS := Aside0.mk (Soft.refl P w)
  clear hA hB
  go_enter Try.func58, Try.ntmps58
  go_wp2
  go_loopg [1, 5] (n + 1) (fun kq v1 v5 w' => ∃ (x1_1 : Int) (x5_1 : Int), v1 = .int .i64 x1_1 ∧ v5 = .int .i64 x5_1 ∧ Aside0 (∃ i : Nat, x5_1 = (i : Int) ∧ i ≤ n ∧ n + 1 ≤ i + kq ∧ bump (n - i) x1_1 = bump n a1) ∧ Aside0 (Below w0.heap.size w0 w') ∧ Aside0 (Soft P w w'))
  case atStart => exact ⟨a1, 0, (by first | rfl | (simp; done)), (by first | rfl | (simp; done)), ⟨0, rfl, Nat.zero_le _, by omega, rfl⟩, ⟨by repeat (first | exact HB.out | apply below_alloc | apply pw_below_drewN | apply below_drew1)⟩, ⟨HS.out⟩⟩
  case round =>
    clear HS HB
    try clear p2
    obtain ⟨x1_1, x5_1, rfl, rfl, HI, HB, HS⟩ := hrel
    obtain ⟨i, rfl, hin, hk, hb⟩ := HI.out
    clear HI
    by_cases c3 : (i : Int) < (n : Int)
    · have c3b0 : decide ((i : Int) < (n : Int)) = true := decide_eq_true c3
      have hin' : i < n := by omega
      obtain ⟨g, rfl, hP0, hg0, hc0, hf0⟩ := HA.out.2 (by omega)
      have HP := Aside0.mk hP0
      have HG := Aside0.mk hg0
      have HF := Aside0.mk hf0
      obtain ⟨x, hx⟩ := hc0 i hin'
      clear hP0 hg0 hc0 hf0
      obtain ⟨y, hy⟩ := HS.out.int hx
      have hfr := (HS.out.frozen _).trans (HF.out i)
      have hnew := Aside0.mk (HS.out.set hy HP.out x1_1)
      have hb2 := Aside0.mk (below_set (j := i) (v := .int .i64 x1_1) HB.out HG.out)
      have p5 : 0 ≤ ((i : Nat) : Int) := by omega
      have q5 : ((i : Nat) : Int) < ((n : Nat) : Int) := c3
      replace p5 := eq_true p5
      replace q5 := eq_true q5
      go_wp2_with (first | ((with_reducible refine gate_store (t := 3) (p := 15) rfl ?_); refine store_event (t := 3) (p := 15) (v := ?vo_w8) (w1 := (wr.setCell ⟨g, i, none⟩ (.int .i64 x1_1))) ?hg ?ho ?hn ?hr ?_; (case ho => rfl); (case hg => rfl); (case hn => rfl); (case hr => first | (go_simp; done) | (go_simp; rfl) | (simp [hy, hfr]; done)); intro w8 hw; have n0_ := Aside0.mk (show Soft P w w8 by rw [hw]; exact hnew.out); have n1_ := Aside0.mk (show Below w0.heap.size w0 w8 by rw [hw]; exact hb2.out); clear HS HB hnew hb2 hw; have HS := n0_; have HB := n1_; clear n0_ n1_))
      obtain ⟨k1, rfl⟩ : ∃ k1, gk = k1 + 1 := ⟨gk - 1, by omega⟩
      go_roundg k1
      case measure => omega
      case rel =>
        have ei : wrap64 ((i : Int) + 1) = ((i + 1 : Nat) : Int) := by have := HA.out.1; rw [wrap_id (by omega) (by omega)]; rfl
        refine ⟨wrap64 (x1_1 + 1), wrap64 ((i : Int) + 1), (by first | rfl | (simp; done)), (by first | rfl | (simp; done)), ⟨i + 1, ei, by omega, by omega, ?_⟩, HB, HS⟩
        rw [← hb, show n - i = (n - (i + 1)) + 1 by omega]
        rfl
    · have c3b0 : decide ((i : Int) < (n : Int)) = false := decide_eq_false c3
      obtain rfl : i = n := by omega
      have e : x1_1 = bump i a1 := by rw [← hb, Nat.sub_self]; rfl
      go_wp2
      go_ret
      exact ⟨by first | rfl | rw [e], HB.out, HS.out⟩
theorem kept_row {α : Type} {d : Kd α} {e : Nat} {W W2 : World} {base b2 : Nat} {ok ok' P : Nat → Prop} {v : Value} {xs : List α} {E2 : List Nat} (h : d.R e W base ok v xs) (hE : d.E = []) (hk : Kept W W2 (fun k => P k ∧ b2 ≤ k ∧ k < W.heap.size ∧ ∃ q, q ∈ E2 ∧ ∃ cells, W.heap[k]? = some (.cells cells q (0, 0)))) (hf : e ∉ E2 ∨ ∀ k, some k = v.ownBlock → ¬ P k) (hok : ∀ k, v.ownBlock = some k → ok' k) : d.R e W2 base ok' v xs := by
  refine Kd.R_reok hE (Kd.R_kept (Kd.R_bound (Kd.R_tight hE h)) hk (fun k hk hp => ?_)) hok
  rcases hf with hf | hf
  · obtain ⟨_, _, _, q1, hq1, c1, hc1⟩ := hk
    obtain ⟨_, _, _, q2, hq2, c2, hc2⟩ := hp
    have he := hc1.symm.trans hc2
    injection he with he
    injection he with _ he
    subst he
    rw [hE] at hq1
    rw [List.mem_singleton.1 hq1] at hq2
    exact hf hq2
  · exact hf k hk.1 hp.1
theorem kept_blk {W W2 : World} {b2 g t : Nat} {cs : Array Value} {P : Nat → Prop} {E2 : List Nat} (h : W.heap[g]? = some (.cells cs t (0, 0))) (hk : Kept W W2 (fun k => P k ∧ b2 ≤ k ∧ k < W.heap.size ∧ ∃ q, q ∈ E2 ∧ ∃ cells, W.heap[k]? = some (.cells cells q (0, 0)))) (hf : t ∉ E2) : W2.heap[g]? = some (.cells cs t (0, 0)) := by
  refine blk_kept h hk (fun hp => ?_)
  obtain ⟨_, _, _, q, hq, c, hc⟩ := hp
  have he := hc.symm.trans h
  injection he with he
  injection he with _ he
  subst he
  exact hf hq
def laws_markVersionS.cnt (l : List S82) : Nat := (l.map (fun x => 8 + x.f2.f1.length)).sum
def laws_markVersionS.f (l0 : List (S82)) (a1 : Int) : Option (Int) := some (bump (laws_markVersionS.cnt l0) a1)
theorem laws_markVersionS.elem {P : Nat → Prop} {w0 w : World} {A : Option Addr} {n c : Nat} {l0 : List (S82)} (h : Kd.R k82 82 w w0.heap.size P (.slice A n c) l0) (i : Nat) (hi : i < l0.length) : ∃ g, A = some ⟨g, 0, none⟩ ∧ P g ∧ w0.heap.size ≤ g ∧ (∃ a, w.cell? ⟨g, i * 9, none⟩ = some (.int .i64 a)) ∧ (∃ a, w.cell? ⟨g, i * 9 + 1, none⟩ = some (.int .i64 a)) ∧ (∃ a, w.cell? ⟨g, i * 9 + 2, none⟩ = some (.int .i64 a)) ∧ (∃ a, w.cell? ⟨g, i * 9 + 3, none⟩ = some (.int .i64 a)) ∧ (∃ a, w.cell? ⟨g, i * 9 + 4, none⟩ = some (.int .i64 a)) ∧ (∃ a, w.cell? ⟨g, i * 9 + 6, none⟩ = some (.int .i64 a)) ∧ (∃ a, w.cell? ⟨g, i * 9 + 7, none⟩ = some (.int .i64 a)) ∧ (∃ a, w.cell? ⟨g, i * 9 + 8, none⟩ = some (.int .i64 a)) ∧ (∃ A5 c5, w.cell? ⟨g, i * 9 + 5, none⟩ = some (.slice A5 (l0[i]).f2.f1.length c5) ∧ IntRow P w0 w A5 (l0[i]).f2.f1.length) ∧ ∀ j, w.frozen? ⟨g, i * 9 + j, none⟩ = false := by
  obtain ⟨hn, _, _⟩ := Kd.R_reads' h
  obtain ⟨g, cap, e, hg, _, _⟩ := Kd.R_form h (by omega)
  injection e with eA eN eC
  subst eA
  obtain ⟨cs, hcl, hM, hcc, hf⟩ := Kd.R_elem h z82 (i : Int) (by omega) (by omega)
  rw [List.getD_eq_getElem?_getD, show ((i : Nat) : Int).toNat = i from rfl, List.getElem?_eq_getElem hi] at hM
  obtain ⟨v5, rfl, hR⟩ := k82_openM hM
  obtain ⟨A5, c5, rfl, hrow⟩ := IntRow.of_R (P := P) hR (fun k hk => hk.1)
  exact ⟨g, rfl, h.1 g rfl, hg, ⟨_, hcc 0 _ rfl⟩, ⟨_, hcc 1 _ rfl⟩, ⟨_, hcc 2 _ rfl⟩, ⟨_, hcc 3 _ rfl⟩, ⟨_, hcc 4 _ rfl⟩, ⟨_, hcc 6 _ rfl⟩, ⟨_, hcc 7 _ rfl⟩, ⟨_, hcc 8 _ rfl⟩, ⟨A5, c5, hcc 5 _ rfl, hrow⟩, hf⟩
theorem laws_markVersionS.calls (P : Nat → Prop) (A : Option Addr) (c : Nat) (l0 : List (S82)) (a1 : Int) (r : Int) (w0 w : World) (hB : Below w0.heap.size w0 w) (ho : Kd.R k82 82 w w0.heap.size P (.slice A l0.length c) l0) (h : laws_markVersionS.f l0 a1 = some r) :
  Calls Try.prog 23 #[.slice A l0.length c,.int .i64 a1] w fun e w' => e = .returned (.int .i64 r) ∧ Below w0.heap.size w0 w' ∧ Kept w w' P:=by
 have hu82:=Try.underlying82
 have hu37:=Try.underlying37
 have hu39:=Try.underlying39
 obtain rfl:=Option.some.inj h
 clear h;have HE:=Aside0.mk (fun i hi => laws_markVersionS.elem ho i hi)
 have HN:=Aside0.mk (Kd.R_reads' ho).2.2.2.1
 have HB:=Aside0.mk hB;have HS:=Aside0.mk (Soft.refl P w)
 clear hB ho;go_enter Try.func23,Try.ntmps23
 go_wp2
 go_loopg [1,5] (l0.length + 1) (fun kq v1 v5 w' => ∃ (x1_1 : Int) (x5_1 : Int),v1 = .int .i64 x1_1 ∧ v5 = .int .i64 x5_1 ∧ Aside0 (∃ i : Nat,x5_1 = (i : Int) ∧ i ≤ l0.length ∧ l0.length + 1 ≤ i + kq ∧ bump (laws_markVersionS.cnt (l0.drop i)) x1_1 = bump (laws_markVersionS.cnt l0) a1) ∧ Aside0 (Below w0.heap.size w0 w') ∧ Aside0 (Soft P w w'))
 case atStart => exact ⟨a1,0,(by first|rfl|(simp;done)),(by first|rfl|(simp;done)),⟨0,rfl,Nat.zero_le _,by omega,rfl⟩,⟨by repeat (first|exact HB.out|apply below_alloc|apply pw_below_drewN|apply below_drew1)⟩,⟨HS.out⟩⟩
 case round =>
  clear HS HB;try clear p2
  obtain ⟨x1_1,x5_1,rfl,rfl,HI,HB,HS⟩:=hrel;obtain ⟨i,rfl,hin,hk,hb⟩:=HI.out;clear HI;by_cases c3 : (i : Int) < (l0.length : Int)
  ·have c3b0 : decide ((i : Int) < (l0.length : Int)) = true:=decide_eq_true c3
   have hin' : i < l0.length:=by omega
   obtain ⟨g,rfl,hP0,hg0,⟨q0,hq0⟩,⟨q1,hq1⟩,⟨q2,hq2⟩,⟨q3,hq3⟩,⟨q4,hq4⟩,⟨q6,hq6⟩,⟨q7,hq7⟩,⟨q8,hq8⟩,⟨A5,c5,hs5,hrow0⟩,hf0⟩:=HE.out i hin'
   have HP:=Aside0.mk hP0;have HG:=Aside0.mk hg0;have HF:=Aside0.mk hf0;have HR5:=Aside0.mk hrow0;have HS5:=Aside0.mk hs5;have HQ0:=Aside0.mk hq0;have HQ1:=Aside0.mk hq1;have HQ2:=Aside0.mk hq2;have HQ3:=Aside0.mk hq3;have HQ4:=Aside0.mk hq4;have HQ6:=Aside0.mk hq6;have HQ7:=Aside0.mk hq7;have HQ8:=Aside0.mk hq8;clear hP0 hg0 hf0 hrow0 hs5 hq0 hq1 hq2 hq3 hq4 hq6 hq7 hq8;have p5 : 0 ≤ ((i : Nat) : Int):=by omega
   have q5 : ((i : Nat) : Int) < ((l0.length : Nat) : Int):=c3
   replace p5:=eq_true p5
   replace q5:=eq_true q5
   generalize hLn : (l0[i]).f2.f1.length = Ln at HS5 HR5
   obtain ⟨y0,hy0⟩:=HS.out.int HQ0.out
   have hfr0:=(show wr.frozen? ⟨g,i * 9,none⟩ = false from (HS.out.frozen _).trans (HF.out 0))
   go_wp2_with (first|((with_reducible refine gate_store (t:=3) (p:=17) rfl ?_);refine store_event (t:=3) (p:=17) (v:=?vo_0) (w1:=(wr.setCell ⟨g,i * 9,none⟩ (.int .i64 (x1_1)))) ?hg_0 ?ho_0 ?hn_0 ?hr_0 ?_;(case ho_0 => rfl);(case hg_0 => rfl);(case hn_0 => rfl);(case hr_0 => first|(go_simp;done)|(go_simp;rfl));intro wn0 hw;have n0_:=Aside0.mk (show Soft P w wn0 by rw [hw];exact HS.out.set hy0 HP.out _);have n1_:=Aside0.mk (show Below w0.heap.size w0 wn0 by rw [hw];exact below_set HB.out HG.out);clear HS HB hy0 hfr0 hw;have HS:=n0_;have HB:=n1_;clear n0_ n1_;obtain ⟨y1,hy1⟩:=HS.out.int HQ1.out;have hfr1:=(show wn0.frozen? ⟨g,i * 9 + 1,none⟩ = false from (HS.out.frozen _).trans (HF.out 1)))|((with_reducible refine gate_store (t:=3) (p:=25) rfl ?_);refine store_event (t:=3) (p:=25) (v:=?vo_1) (w1:=(wn0.setCell ⟨g,i * 9 + 1,none⟩ (.int .i64 (wrap64 (x1_1 + 1))))) ?hg_1 ?ho_1 ?hn_1 ?hr_1 ?_;(case ho_1 => rfl);(case hg_1 => rfl);(case hn_1 => rfl);(case hr_1 => first|(go_simp;done)|(go_simp;rfl));intro wn1 hw;have n0_:=Aside0.mk (show Soft P w wn1 by rw [hw];exact HS.out.set hy1 HP.out _);have n1_:=Aside0.mk (show Below w0.heap.size w0 wn1 by rw [hw];exact below_set HB.out HG.out);clear HS HB hy1 hfr1 hw;have HS:=n0_;have HB:=n1_;clear n0_ n1_;obtain ⟨y2,hy2⟩:=HS.out.int HQ2.out;have hfr2:=(show wn1.frozen? ⟨g,i * 9 + 2,none⟩ = false from (HS.out.frozen _).trans (HF.out 2)))|((with_reducible refine gate_store (t:=3) (p:=33) rfl ?_);refine store_event (t:=3) (p:=33) (v:=?vo_2) (w1:=(wn1.setCell ⟨g,i * 9 + 2,none⟩ (.int .i64 (wrap64 ((wrap64 (x1_1 + 1)) + 1))))) ?hg_2 ?ho_2 ?hn_2 ?hr_2 ?_;(case ho_2 => rfl);(case hg_2 => rfl);(case hn_2 => rfl);(case hr_2 => first|(go_simp;done)|(go_simp;rfl));intro wn2 hw;have n0_:=Aside0.mk (show Soft P w wn2 by rw [hw];exact HS.out.set hy2 HP.out _);have n1_:=Aside0.mk (show Below w0.heap.size w0 wn2 by rw [hw];exact below_set HB.out HG.out);clear HS HB hy2 hfr2 hw;have HS:=n0_;have HB:=n1_;clear n0_ n1_;obtain ⟨y3,hy3⟩:=HS.out.int HQ3.out;have hfr3:=(show wn2.frozen? ⟨g,i * 9 + 3,none⟩ = false from (HS.out.frozen _).trans (HF.out 3)))|((with_reducible refine gate_store (t:=3) (p:=40) rfl ?_);refine store_event (t:=3) (p:=40) (v:=?vo_3) (w1:=(wn2.setCell ⟨g,i * 9 + 3,none⟩ (.int .i64 (wrap64 ((wrap64 ((wrap64 (x1_1 + 1)) + 1)) + 1))))) ?hg_3 ?ho_3 ?hn_3 ?hr_3 ?_;(case ho_3 => rfl);(case hg_3 => rfl);(case hn_3 => rfl);(case hr_3 => first|(go_simp;done)|(go_simp;rfl));intro wn3 hw;have n0_:=Aside0.mk (show Soft P w wn3 by rw [hw];exact HS.out.set hy3 HP.out _);have n1_:=Aside0.mk (show Below w0.heap.size w0 wn3 by rw [hw];exact below_set HB.out HG.out);clear HS HB hy3 hfr3 hw;have HS:=n0_;have HB:=n1_;clear n0_ n1_;obtain ⟨y4,hy4⟩:=HS.out.int HQ4.out;have hfr4:=(show wn3.frozen? ⟨g,i * 9 + 4,none⟩ = false from (HS.out.frozen _).trans (HF.out 4)))|((with_reducible refine gate_store (t:=3) (p:=48) rfl ?_);refine store_event (t:=3) (p:=48) (v:=?vo_4) (w1:=(wn3.setCell ⟨g,i * 9 + 4,none⟩ (.int .i64 (wrap64 ((wrap64 ((wrap64 ((wrap64 (x1_1 + 1)) + 1)) + 1)) + 1))))) ?hg_4 ?ho_4 ?hn_4 ?hr_4 ?_;(case ho_4 => rfl);(case hg_4 => rfl);(case hn_4 => rfl);(case hr_4 => first|(go_simp;done)|(go_simp;rfl));intro wn4 hw;have n0_:=Aside0.mk (show Soft P w wn4 by rw [hw];exact HS.out.set hy4 HP.out _);have n1_:=Aside0.mk (show Below w0.heap.size w0 wn4 by rw [hw];exact below_set HB.out HG.out);clear HS HB hy4 hfr4 hw;have HS:=n0_;have HB:=n1_;clear n0_ n1_;have hsl:=HS.out.slice HS5.out)|(go_at_call 58;refine (soft_markIntS P A5 Ln c5 (wrap64 ((wrap64 ((wrap64 ((wrap64 ((wrap64 (x1_1 + 1)) + 1)) + 1)) + 1)) + 1)) w0 _ (HR5.out.soft HS.out) HB.out).mono ?_;rintro e wn5 ⟨rfl,hb9,hs9⟩;have n0_:=Aside0.mk (HS.out.trans hs9);have n1_:=Aside0.mk hb9;clear HS HB hb9 hs9 hsl;have HS:=n0_;have HB:=n1_;clear n0_ n1_;obtain ⟨y6,hy6⟩:=HS.out.int HQ6.out;have hfr6:=(show wn5.frozen? ⟨g,i * 9 + 6,none⟩ = false from (HS.out.frozen _).trans (HF.out 6)))|((with_reducible refine gate_store (t:=3) (p:=65) rfl ?_);refine store_event (t:=3) (p:=65) (v:=?vo_6) (w1:=(wn5.setCell ⟨g,i * 9 + 6,none⟩ (.int .i64 (bump Ln (wrap64 ((wrap64 ((wrap64 ((wrap64 ((wrap64 (x1_1 + 1)) + 1)) + 1)) + 1)) + 1)))))) ?hg_6 ?ho_6 ?hn_6 ?hr_6 ?_;(case ho_6 => rfl);(case hg_6 => rfl);(case hn_6 => rfl);(case hr_6 => first|(go_simp;done)|(go_simp;rfl));intro wn6 hw;have n0_:=Aside0.mk (show Soft P w wn6 by rw [hw];exact HS.out.set hy6 HP.out _);have n1_:=Aside0.mk (show Below w0.heap.size w0 wn6 by rw [hw];exact below_set HB.out HG.out);clear HS HB hy6 hfr6 hw;have HS:=n0_;have HB:=n1_;clear n0_ n1_;obtain ⟨y7,hy7⟩:=HS.out.int HQ7.out;have hfr7:=(show wn6.frozen? ⟨g,i * 9 + 7,none⟩ = false from (HS.out.frozen _).trans (HF.out 7)))|((with_reducible refine gate_store (t:=3) (p:=74) rfl ?_);refine store_event (t:=3) (p:=74) (v:=?vo_7) (w1:=(wn6.setCell ⟨g,i * 9 + 7,none⟩ (.int .i64 (wrap64 ((bump Ln (wrap64 ((wrap64 ((wrap64 ((wrap64 ((wrap64 (x1_1 + 1)) + 1)) + 1)) + 1)) + 1))) + 1))))) ?hg_7 ?ho_7 ?hn_7 ?hr_7 ?_;(case ho_7 => rfl);(case hg_7 => rfl);(case hn_7 => rfl);(case hr_7 => first|(go_simp;done)|(go_simp;rfl));intro wn7 hw;have n0_:=Aside0.mk (show Soft P w wn7 by rw [hw];exact HS.out.set hy7 HP.out _);have n1_:=Aside0.mk (show Below w0.heap.size w0 wn7 by rw [hw];exact below_set HB.out HG.out);clear HS HB hy7 hfr7 hw;have HS:=n0_;have HB:=n1_;clear n0_ n1_;obtain ⟨y8,hy8⟩:=HS.out.int HQ8.out;have hfr8:=(show wn7.frozen? ⟨g,i * 9 + 8,none⟩ = false from (HS.out.frozen _).trans (HF.out 8)))|((with_reducible refine gate_store (t:=3) (p:=83) rfl ?_);refine store_event (t:=3) (p:=83) (v:=?vo_8) (w1:=(wn7.setCell ⟨g,i * 9 + 8,none⟩ (.int .i64 (wrap64 ((wrap64 ((bump Ln (wrap64 ((wrap64 ((wrap64 ((wrap64 ((wrap64 (x1_1 + 1)) + 1)) + 1)) + 1)) + 1))) + 1)) + 1))))) ?hg_8 ?ho_8 ?hn_8 ?hr_8 ?_;(case ho_8 => rfl);(case hg_8 => rfl);(case hn_8 => rfl);(case hr_8 => first|(go_simp;done)|(go_simp;rfl));intro wn8 hw;have n0_:=Aside0.mk (show Soft P w wn8 by rw [hw];exact HS.out.set hy8 HP.out _);have n1_:=Aside0.mk (show Below w0.heap.size w0 wn8 by rw [hw];exact below_set HB.out HG.out);clear HS HB hy8 hfr8 hw;have HS:=n0_;have HB:=n1_;clear n0_ n1_))
   obtain ⟨k1,rfl⟩ : ∃ k1,gk = k1 + 1:=⟨gk - 1,by omega⟩
   go_roundg k1
   case measure => omega
   case rel =>
    have ei : wrap64 ((i : Int) + 1) = ((i + 1 : Nat) : Int):=by have:=HN.out;rw [wrap_id (by omega) (by omega)];rfl
    refine ⟨wrap64 ((wrap64 ((wrap64 ((bump Ln (wrap64 ((wrap64 ((wrap64 ((wrap64 ((wrap64 (x1_1 + 1)) + 1)) + 1)) + 1)) + 1))) + 1)) + 1)) + 1),wrap64 ((i : Int) + 1),(by first|rfl|(simp;done)),(by first|rfl|(simp;done)),⟨i + 1,ei,by omega,by omega,?_⟩,HB,HS⟩
    rw [← hb,List.drop_eq_getElem_cons hin']
    unfold laws_markVersionS.cnt
    rw [List.map_cons,List.sum_cons,← bump_add,hLn]
    congr 1
    first|rfl|(rw [show 8 + Ln = 5 + (Ln + 3) by omega,← bump_add,← bump_add];rfl)
  ·have c3b0 : decide ((i : Int) < (l0.length : Int)) = false:=decide_eq_false c3
   obtain rfl : i = l0.length:=by omega
   have e : x1_1 = bump (laws_markVersionS.cnt l0) a1:=by rw [← hb,List.drop_length];rfl
   go_wp2
   go_ret
   exact ⟨by first|rfl|rw [e],HB.out,HS.out.kept⟩
def laws_markResource.f (k : Nat) (a0_0 : Int) (l0_1 : List Int) (a0_2 : Int) (a0_3 : Int) (a0_4 : Int) (a1 : Int) : Option (Int × List Int):=(laws_markIntS.f k l0_1 a1).bind fun bt170 => (some (bt170.1,bt170.2))
theorem laws_markResource.mono : ∀ a0 a1 a2 a3 a4 a5 k,LeO (laws_markResource.f k a0 a1 a2 a3 a4 a5) (laws_markResource.f (k + 1) a0 a1 a2 a3 a4 a5):=by
 intro a0 a1 a2 a3 a4 a5 k;unfold laws_markResource.f
 repeat' first
  |(with_reducible exact laws_markIntS.mono _ _ _)
  |(with_reducible exact LeO.refl _)
  |(with_reducible exact LeO.none _)
  |(with_reducible refine LeO.ite ?_ ?_)
  |(with_reducible refine LeO.bind ?_ (fun _ => ?_))
  |exact laws_markIntS.mono _ _ _
  |exact LeO.none _
  |refine LeO.ite ?_ ?_
  |refine LeO.bind ?_ (fun _ => ?_)
theorem laws_markResource.calls (k : Nat) (a0_0 : Int) (P0_1_ : Nat → Prop) (u9000_ : Value) (l0_1 : List Int) (a0_2 : Int) (a0_3 : Int) (a0_4 : Int) (a1 : Int) (r1 : Int) (r2 : List Int) (w0 w : World) (hB : Below w0.heap.size w0 w) (ho0_1 : Kd.R (Kd.int .i64) 3 w w0.heap.size P0_1_ u9000_ l0_1) (h : laws_markResource.f k a0_0 l0_1 a0_2 a0_3 a0_4 a1 = some (r1,r2)) :
  Calls Try.prog 24 #[.agg #[.int .i64 a0_0,u9000_,.int .i64 a0_2,.int .i64 a0_3,.int .i64 a0_4],.int .i64 a1] w fun e w' => e = .returned (.int .i64 r1) ∧ Kd.R (Kd.int .i64) 3 w' w0.heap.size (fun k_ => (P0_1_ k_ ∨ w.heap.size ≤ k_)) u9000_ r2 ∧ Below w0.heap.size w0 w' ∧ Kept w w' (fun k_ => P0_1_ k_):=by
 have hu39:=Try.underlying39
 have HO0_1:=Aside0.mk (show Kd.R (Kd.int .i64) 3 w w0.heap.size (fun k_ => (P0_1_ k_ ∨ w.heap.size ≤ k_)) u9000_ l0_1 from Kd.R_mono ho0_1 (fun k_ hk => (.inl hk)))
 have HK:=Aside0.mk (Kept.refl w (fun k_ => P0_1_ k_))
 have HW0:=Aside0.mk hB.size
 have HB:=Aside0.mk hB;clear hB;have H : ((laws_markIntS.f k l0_1 a1).bind fun bt170 => (some (bt170.1,bt170.2))) = some (r1,r2):=h
 clear h;replace H:=Option.bind_eq_some_iff.mp H
 obtain ⟨⟨t170,t171⟩,A30,H⟩:=H
 replace H : (some (t170,t171)) = some (r1,r2):=H
 have A3:=Aside0.mk A30;clear A30;simp only [Option.some.injEq,Prod.mk.injEq] at H
 obtain ⟨rfl,rfl⟩:=H;obtain ⟨Ao4,co4,eo4⟩:=Kd.R_slice HO0_1.out
 subst eo4
 go_enter Try.func24,Try.ntmps24
 go_wp2_with (first|((with_reducible refine gate_dst (N:=2) rfl ?_);refine box_event ?hg (N:=2) ?hd (cs:=#[.int .i64 a0_0,.slice Ao4 l0_1.length co4,.int .i64 a0_2,.int .i64 a0_3,.int .i64 a0_4]) (t:=39) ?hr ?_;(case hd => rfl);(case hg => rfl);(case hr => first|(go_simp;done)|(go_simp;rfl));intro gb169 hg w5 hbox hb;have n0_:=Aside0.mk (Kd.R_below (by (with_reducible repeat (first|apply Kd.R_alloc|apply Kd.R_drewN|apply Kd.R_drew));exact HO0_1.out) hb);have n1_:=Aside0.mk (Kept.below (S:=(fun k_ => P0_1_ k_)) (by repeat (first|(with_reducible first|exact HK.out|apply Kept.alloc|apply Kept.drewN|apply Kept.drew)|exact HK.out)) hb);have n2_:=Aside0.mk (below_step (by repeat (first|(with_reducible first|exact HB.out|apply below_alloc|apply pw_below_drewN|apply below_drew1)|exact HB.out)) hb);have n3_:=Aside0.mk (hbox);have n4_:=Aside0.mk ((by rw [hg];exact (by first|exact HK.out.1|exact (show Kept w _ (fun k_ => P0_1_ k_) from by repeat (first|(with_reducible first|exact HK.out|apply Kept.alloc|apply Kept.drewN|apply Kept.drew)|exact HK.out)).1) : w.heap.size ≤ gb169));have n5_:=Aside0.mk ((by rw [hg];exact (below_size (by repeat (first|(with_reducible first|exact HB.out|apply below_alloc|apply pw_below_drewN|apply below_drew1)|exact HB.out))) : w0.heap.size ≤ gb169));clear HO0_1;clear HK;clear HB;have HO0_1:=n0_;have HK:=n1_;have HB:=n2_;have BK169:=n3_;have GW169:=n4_;have GE169:=n5_;clear n0_ n1_ n2_ n3_ n4_ n5_;clear hb hbox hg;have hcz6_0 : w5.cell? ⟨gb169,0,none⟩ = some (.int .i64 a0_0):=(blk_cell BK169.out 0).trans rfl;have hcz6_1 : w5.cell? ⟨gb169,1,none⟩ = some (.slice Ao4 l0_1.length co4):=(blk_cell BK169.out 1).trans rfl;have hcz6_2 : w5.cell? ⟨gb169,2,none⟩ = some (.int .i64 a0_2):=(blk_cell BK169.out 2).trans rfl;have hcz6_3 : w5.cell? ⟨gb169,3,none⟩ = some (.int .i64 a0_3):=(blk_cell BK169.out 3).trans rfl;have hcz6_4 : w5.cell? ⟨gb169,4,none⟩ = some (.int .i64 a0_4):=(blk_cell BK169.out 4).trans rfl;have hfz6_0:=blk_frozen BK169.out 0;have hfz6_1:=blk_frozen BK169.out 1;have hfz6_2:=blk_frozen BK169.out 2;have hfz6_3:=blk_frozen BK169.out 3;have hfz6_4:=blk_frozen BK169.out 4)|((with_reducible refine gate_callee (f:=58) rfl ?_);refine goesL_ (some 8) rfl rfl Try.func58 (by kernel_rfl) rfl #[.slice Ao4 l0_1.length co4,.int .i64 a1] rfl (by (try simp only [List.map_toArray,List.map_cons,List.map_nil]);first|done|rfl|(simp only [List.length_drop,List.length_take];rfl)) ?_;(with_reducible refine (laws_markIntS.calls k (fun k_ => some k_ = (.slice Ao4 l0_1.length co4 : Value).ownBlock) (.slice Ao4 l0_1.length co4) l0_1 a1 t170 t171 w0 _ ?side1 ?side2 A3.out).mono ?_);(case side1 => repeat (first|(with_reducible first|exact HB.out|apply below_alloc|apply pw_below_drewN|apply below_drew1|refine below_set ?_ GE169.out)|exact HB.out));(case side2 => exact Kd.R_tight rfl HO0_1.out);rintro e w7 ⟨rfl,hy0,hb,hkp⟩;refine ⟨_,rfl,?_⟩;have n0_:=Aside0.mk (Kd.R_reok rfl hy0 (fun k_ e_ => HO0_1.out.1 k_ e_));have n1_:=Aside0.mk (blk_kept (by (with_reducible repeat (first|refine blk_drewN ?_ _|refine blk_drew ?_|refine blk_alloc ?_ _));exact BK169.out) hkp (fun hs_ => (fun e_ => (Kd.R_ne HO0_1.out BK169.out (by decide)) e_) hs_));have n2_:=Aside0.mk (Kept.then_ (S:=(fun k_ => P0_1_ k_)) (by repeat (first|(with_reducible first|exact HK.out|apply Kept.alloc|apply Kept.drewN|apply Kept.drew|refine Kept.setCell ?_ (.inr GW169.out) _)|exact HK.out)) hkp (fun k_ hs_ => (fun e_ => (HO0_1.out.1 k_ e_.symm)) hs_));have n3_:=Aside0.mk (hb);clear HO0_1;clear BK169;clear HK;clear HB;have HO0_1:=n0_;have BK169:=n1_;have HK:=n2_;have HB:=n3_;clear n0_ n1_ n2_ n3_;(try clear hb);(try clear hkp);(try clear hy0)))
 go_ret
 exact ⟨by first|rfl|(simp [errW_none,errW_some] <;> rfl)|(simp [*,errW_none,errW_some] <;> rfl),by (with_reducible repeat (first|apply Kd.R_alloc|apply Kd.R_drewN|apply Kd.R_drew));exact HO0_1.out,by repeat (first|(with_reducible first|exact HB.out|apply below_alloc|apply pw_below_drewN|apply below_drew1|refine below_set ?_ GE169.out)|exact HB.out),by repeat (first|(with_reducible first|exact HK.out|apply Kept.alloc|apply Kept.drewN|apply Kept.drew|refine Kept.setCell ?_ (.inr GW169.out) _)|exact HK.out)⟩
def laws_heldIntS.l0 : Nat → List Int → Int → Int → Option (Int)
|0,_,_,_ => none
|k + 1,x0,x1,x5 => if x5 < (x0.length : Int) then (if 0 ≤ x5 then (if (rd x0 x5) = x1 then (laws_heldIntS.l0 k x0 (wrap64 (x1 + 1)) (wrap64 (x5 + 1))) else (some (-1))) else (none)) else (some x1)
def laws_heldIntS.f (k : Nat) (l0 : List Int) (a1 : Int) : Option (Int):=laws_heldIntS.l0 k l0 a1 0
theorem laws_heldIntS.mono_l : ∀ k,(∀ y0 y1 y2,LeO (laws_heldIntS.l0 k y0 y1 y2) (laws_heldIntS.l0 (k + 1) y0 y1 y2))
|0 => fun _ _ _ r h => by simp [laws_heldIntS.l0] at h
|k + 1 => by
  have ih0:=laws_heldIntS.mono_l k
  ·intro y0 y1 y2;unfold laws_heldIntS.l0
   repeat' first
  |(with_reducible exact ih0 _ _ _)
  |(with_reducible exact LeO.refl _)
  |(with_reducible exact LeO.none _)
  |(with_reducible refine LeO.ite ?_ ?_)
  |(with_reducible refine LeO.bind ?_ (fun _ => ?_))
  |exact ih0 _ _ _
  |exact LeO.none _
  |refine LeO.ite ?_ ?_
  |refine LeO.bind ?_ (fun _ => ?_)
theorem laws_heldIntS.mono : ∀ a0 a1 k,LeO (laws_heldIntS.f k a0 a1) (laws_heldIntS.f (k + 1) a0 a1):=by
 intro a0 a1 k;have ih0:=laws_heldIntS.mono_l k
 unfold laws_heldIntS.f
 repeat' first
  |(with_reducible exact ih0 _ _ _)
  |(with_reducible exact LeO.refl _)
  |(with_reducible exact LeO.none _)
  |(with_reducible refine LeO.ite ?_ ?_)
  |(with_reducible refine LeO.bind ?_ (fun _ => ?_))
  |exact ih0 _ _ _
  |exact LeO.none _
  |refine LeO.ite ?_ ?_
  |refine LeO.bind ?_ (fun _ => ?_)
theorem laws_heldIntS.calls (k : Nat) (A0 : Option Addr) (c0 : Nat) (l0 : List Int) (a1 : Int) (r : Int) (w : World) (hr0 : Kd.C (Kd.int .i64) w A0 l0.length l0) (hc0 : l0.length ≤ c0) (h : laws_heldIntS.f k l0 a1 = some r) :
  Calls Try.prog 59 #[.slice A0 l0.length c0,.int .i64 a1] w fun e w' => e = .returned (.int .i64 r) ∧ Drawn0 w w':=by
 have HR0:=Aside0.mk hr0;have HC0:=Aside0.mk hc0;clear hr0 hc0;have H : (laws_heldIntS.l0 k l0 a1 0) = some r:=h
 clear h;have H':=Aside0.mk H;clear H;go_enter Try.func59,Try.ntmps59
 go_wp2
 go_loopg [1,5] k (fun kq v1 v5 w' => ∃ (x1_1 : Int) (x5_1 : Int),v1 = .int .i64 x1_1 ∧ v5 = .int .i64 x5_1 ∧ Aside0 (laws_heldIntS.l0 kq l0 x1_1 x5_1 = some r) ∧ Aside0 (kq ≤ k) ∧ Drawn0 w w')
 case atStart => exact ⟨(a1),(0),(by first|rfl|(simp;done)|(simp [*];done)),(by first|rfl|(simp;done)|(simp [*];done)),H',⟨Nat.le_refl _⟩,by repeat (first|exact Drawn0.refl _|apply Drawn0.step)⟩
 case round =>
  clear H';try clear p2
  obtain ⟨x1_1,x5_1,rfl,rfl,HA,HK1,⟨m1,rfl⟩⟩:=hrel
  cases gk with
 |zero => exact absurd HA.out (by simp [laws_heldIntS.l0])
 |succ k1 =>
   have H:=HA.out;clear HA;simp only [laws_heldIntS.l0] at H
   by_cases c3 : x5_1 < (l0.length : Int)
   ·rw [if_pos c3] at H
    have c3b0 : decide (x5_1 < (l0.length : Int)) = true:=decide_eq_true c3
    clear c3;by_cases c4 : 0 ≤ x5_1
    ·rw [if_pos c4] at H
     have c4b0 : decide (0 ≤ x5_1) = true:=decide_eq_true c4
     clear c4;by_cases c5 : (rd l0 x5_1) = x1_1
     ·rw [if_pos c5] at H
      have c5b0 : ((rd l0 x5_1) == x1_1) = true:=beq_iff_eq.mpr c5
      have c5b1 : ((rd l0 x5_1) != x1_1) = false:=bne_eq_false_iff_eq.mpr c5
      clear c5;have H':=Aside0.mk H;clear H;have p172 : 0 ≤ (x5_1 : Int):=of_decide_eq_true (by first|(with_reducible assumption)|assumption)
      have q172 : x5_1 < (l0.length : Int):=of_decide_eq_true (by first|(with_reducible assumption)|assumption)
      obtain ⟨ad172,e172,hx172_0⟩:=Kd.at_int HR0.out x5_1 p172 q172
      cases e172
      replace p172:=eq_true p172
      replace q172:=eq_true q172
      go_wp2
      go_roundg k1
      case measure => have:=HK1.out;omega
      case rel => exact ⟨(wrap64 (x1_1 + 1)),(wrap64 (x5_1 + 1)),(by first|rfl|(simp;done)|(simp [*];done)),(by first|rfl|(simp;done)|(simp [*];done)),H',⟨by have:=HK1.out;omega⟩,by repeat (first|exact Drawn0.refl _|apply Drawn0.step)⟩
     ·rw [if_neg c5] at H
      have c5b0 : ((rd l0 x5_1) == x1_1) = false:=beq_eq_false_iff_ne.mpr c5
      have c5b1 : ((rd l0 x5_1) != x1_1) = true:=bne_iff_ne.mpr c5
      obtain rfl:=Option.some.inj H
      have p172 : 0 ≤ (x5_1 : Int):=of_decide_eq_true (by first|(with_reducible assumption)|assumption)
      have q172 : x5_1 < (l0.length : Int):=of_decide_eq_true (by first|(with_reducible assumption)|assumption)
      obtain ⟨ad172,e172,hx172_0⟩:=Kd.at_int HR0.out x5_1 p172 q172
      cases e172
      replace p172:=eq_true p172
      replace q172:=eq_true q172
      go_wp2
      go_ret
      exact ⟨by first|rfl|(simp;done)|(simp [*];done),by repeat (first|exact Drawn0.refl _|apply Drawn0.step)⟩
    ·rw [if_neg c4] at H
     exact absurd H (by simp)
   ·rw [if_neg c3] at H
    have c3b0 : decide (x5_1 < (l0.length : Int)) = false:=decide_eq_false c3
    clear c3;obtain rfl:=Option.some.inj H
    go_wp2
    go_ret
    exact ⟨by first|rfl|(simp;done)|(simp [*];done),by repeat (first|exact Drawn0.refl _|apply Drawn0.step)⟩
def laws_heldResource.f (k : Nat) (a0_0 : Int) (l0_1 : List Int) (a0_2 : Int) (a0_3 : Int) (a0_4 : Int) (a1 : Int) : Option (Int):=(laws_heldIntS.f k l0_1 a1).bind fun t174 => (if t174 < 0 then (some (-1)) else (some t174))
theorem laws_heldResource.mono : ∀ a0 a1 a2 a3 a4 a5 k,LeO (laws_heldResource.f k a0 a1 a2 a3 a4 a5) (laws_heldResource.f (k + 1) a0 a1 a2 a3 a4 a5):=by
 intro a0 a1 a2 a3 a4 a5 k;unfold laws_heldResource.f
 repeat' first
  |(with_reducible exact laws_heldIntS.mono _ _ _)
  |(with_reducible exact LeO.refl _)
  |(with_reducible exact LeO.none _)
  |(with_reducible refine LeO.ite ?_ ?_)
  |(with_reducible refine LeO.bind ?_ (fun _ => ?_))
  |exact laws_heldIntS.mono _ _ _
  |exact LeO.none _
  |refine LeO.ite ?_ ?_
  |refine LeO.bind ?_ (fun _ => ?_)
theorem laws_heldResource.calls (k : Nat) (a0_0 : Int) (A0_1 : Option Addr) (c0_1 : Nat) (l0_1 : List Int) (a0_2 : Int) (a0_3 : Int) (a0_4 : Int) (a1 : Int) (r : Int) (w : World) (hr0_1 : Kd.C (Kd.int .i64) w A0_1 l0_1.length l0_1) (hc0_1 : l0_1.length ≤ c0_1) (h : laws_heldResource.f k a0_0 l0_1 a0_2 a0_3 a0_4 a1 = some r) :
  Calls Try.prog 25 #[.agg #[.int .i64 a0_0,.slice A0_1 l0_1.length c0_1,.int .i64 a0_2,.int .i64 a0_3,.int .i64 a0_4],.int .i64 a1] w fun e w' => e = .returned (.int .i64 r) ∧ Below w.heap.size w w':=by
 have hu39:=Try.underlying39
 have HR0_1:=Aside0.mk hr0_1;have HC0_1:=Aside0.mk hc0_1;clear hr0_1 hc0_1;have HB:=Aside0.mk (Below.refl w.heap.size w)
 have H : ((laws_heldIntS.f k l0_1 a1).bind fun t174 => (if t174 < 0 then (some (-1)) else (some t174))) = some r:=h
 clear h;replace H:=Option.bind_eq_some_iff.mp H
 obtain ⟨t174,A30,H⟩:=H;replace H : (if t174 < 0 then (some (-1)) else (some t174)) = some r:=H
 have A3:=Aside0.mk A30;clear A30;by_cases c4 : t174 < 0
 ·rw [if_pos c4] at H
  have c4b0 : decide (t174 < 0) = true:=decide_eq_true c4
  clear c4;obtain rfl:=Option.some.inj H
  go_enter Try.func25,Try.ntmps25
  go_wp2_with (first|((with_reducible refine gate_dst (N:=2) rfl ?_);refine box_event ?hg (N:=2) ?hd (cs:=#[.int .i64 a0_0,.slice A0_1 l0_1.length c0_1,.int .i64 a0_2,.int .i64 a0_3,.int .i64 a0_4]) (t:=39) ?hr ?_;(case hd => rfl);(case hg => rfl);(case hr => first|(go_simp;done)|(go_simp;rfl));intro gb173 hg w5 hbox hb;have n0_:=Aside0.mk (below_step (by repeat (first|(with_reducible first|exact HB.out|apply below_alloc|apply pw_below_drewN|apply below_drew1)|exact HB.out)) hb);have n1_:=Aside0.mk (hbox);have n2_:=Aside0.mk ((by rw [hg];exact (below_size (by repeat (first|(with_reducible first|exact HB.out|apply below_alloc|apply pw_below_drewN|apply below_drew1)|exact HB.out))) : w.heap.size ≤ gb173));have n3_:=Aside0.mk ((by rw [hg];exact (below_size (by repeat (first|(with_reducible first|exact HB.out|apply below_alloc|apply pw_below_drewN|apply below_drew1)|exact HB.out))) : w.heap.size ≤ gb173));clear HB;have HB:=n0_;have BK173:=n1_;have GW173:=n2_;have GE173:=n3_;clear n0_ n1_ n2_ n3_;clear hb hbox hg;have hcz6_0 : w5.cell? ⟨gb173,0,none⟩ = some (.int .i64 a0_0):=(blk_cell BK173.out 0).trans rfl;have hcz6_1 : w5.cell? ⟨gb173,1,none⟩ = some (.slice A0_1 l0_1.length c0_1):=(blk_cell BK173.out 1).trans rfl;have hcz6_2 : w5.cell? ⟨gb173,2,none⟩ = some (.int .i64 a0_2):=(blk_cell BK173.out 2).trans rfl;have hcz6_3 : w5.cell? ⟨gb173,3,none⟩ = some (.int .i64 a0_3):=(blk_cell BK173.out 3).trans rfl;have hcz6_4 : w5.cell? ⟨gb173,4,none⟩ = some (.int .i64 a0_4):=(blk_cell BK173.out 4).trans rfl;have hfz6_0:=blk_frozen BK173.out 0;have hfz6_1:=blk_frozen BK173.out 1;have hfz6_2:=blk_frozen BK173.out 2;have hfz6_3:=blk_frozen BK173.out 3;have hfz6_4:=blk_frozen BK173.out 4)|((with_reducible refine gate_callee (f:=59) rfl ?_);refine goesL_ (some 8) rfl rfl Try.func59 (by kernel_rfl) rfl #[.slice A0_1 l0_1.length c0_1,.int .i64 a1] rfl (by (try simp only [List.map_toArray,List.map_cons,List.map_nil]);first|done|rfl|(simp only [List.length_drop,List.length_take];rfl)) ?_;(with_reducible refine (laws_heldIntS.calls k _ _ l0_1 a1 t174 _ ?side1 ?side2 A3.out).mono ?_);(case side1 => repeat (first|exact (Kd.C_below HR0_1.out HB.out)|(with_reducible refine Kd.C_alloc ?_ _)|(with_reducible refine Kd.C_drewN ?_ _)|(with_reducible refine Kd.C_drew ?_)));(case side2 => exact HC0_1.out);rintro e w' ⟨rfl,⟨nd,rfl⟩⟩;refine ⟨_,rfl,?_⟩))
  go_ret
  exact ⟨by first|rfl|(simp [errW_none,errW_some] <;> rfl)|(simp [*,errW_none,errW_some] <;> rfl),by repeat (first|(with_reducible first|exact HB.out|apply below_alloc|apply pw_below_drewN|apply below_drew1|refine below_set ?_ GE173.out)|exact HB.out)⟩
 ·rw [if_neg c4] at H
  have c4b0 : decide (t174 < 0) = false:=decide_eq_false c4
  clear c4;obtain rfl:=Option.some.inj H
  go_enter Try.func25,Try.ntmps25
  go_wp2_with (first|((with_reducible refine gate_dst (N:=2) rfl ?_);refine box_event ?hg (N:=2) ?hd (cs:=#[.int .i64 a0_0,.slice A0_1 l0_1.length c0_1,.int .i64 a0_2,.int .i64 a0_3,.int .i64 a0_4]) (t:=39) ?hr ?_;(case hd => rfl);(case hg => rfl);(case hr => first|(go_simp;done)|(go_simp;rfl));intro gb173 hg w7 hbox hb;have n0_:=Aside0.mk (below_step (by repeat (first|(with_reducible first|exact HB.out|apply below_alloc|apply pw_below_drewN|apply below_drew1)|exact HB.out)) hb);have n1_:=Aside0.mk (hbox);have n2_:=Aside0.mk ((by rw [hg];exact (below_size (by repeat (first|(with_reducible first|exact HB.out|apply below_alloc|apply pw_below_drewN|apply below_drew1)|exact HB.out))) : w.heap.size ≤ gb173));have n3_:=Aside0.mk ((by rw [hg];exact (below_size (by repeat (first|(with_reducible first|exact HB.out|apply below_alloc|apply pw_below_drewN|apply below_drew1)|exact HB.out))) : w.heap.size ≤ gb173));clear HB;have HB:=n0_;have BK173:=n1_;have GW173:=n2_;have GE173:=n3_;clear n0_ n1_ n2_ n3_;clear hb hbox hg;have hcz8_0 : w7.cell? ⟨gb173,0,none⟩ = some (.int .i64 a0_0):=(blk_cell BK173.out 0).trans rfl;have hcz8_1 : w7.cell? ⟨gb173,1,none⟩ = some (.slice A0_1 l0_1.length c0_1):=(blk_cell BK173.out 1).trans rfl;have hcz8_2 : w7.cell? ⟨gb173,2,none⟩ = some (.int .i64 a0_2):=(blk_cell BK173.out 2).trans rfl;have hcz8_3 : w7.cell? ⟨gb173,3,none⟩ = some (.int .i64 a0_3):=(blk_cell BK173.out 3).trans rfl;have hcz8_4 : w7.cell? ⟨gb173,4,none⟩ = some (.int .i64 a0_4):=(blk_cell BK173.out 4).trans rfl;have hfz8_0:=blk_frozen BK173.out 0;have hfz8_1:=blk_frozen BK173.out 1;have hfz8_2:=blk_frozen BK173.out 2;have hfz8_3:=blk_frozen BK173.out 3;have hfz8_4:=blk_frozen BK173.out 4)|((with_reducible refine gate_callee (f:=59) rfl ?_);refine goesL_ (some 8) rfl rfl Try.func59 (by kernel_rfl) rfl #[.slice A0_1 l0_1.length c0_1,.int .i64 a1] rfl (by (try simp only [List.map_toArray,List.map_cons,List.map_nil]);first|done|rfl|(simp only [List.length_drop,List.length_take];rfl)) ?_;(with_reducible refine (laws_heldIntS.calls k _ _ l0_1 a1 t174 _ ?side1 ?side2 A3.out).mono ?_);(case side1 => repeat (first|exact (Kd.C_below HR0_1.out HB.out)|(with_reducible refine Kd.C_alloc ?_ _)|(with_reducible refine Kd.C_drewN ?_ _)|(with_reducible refine Kd.C_drew ?_)));(case side2 => exact HC0_1.out);rintro e w' ⟨rfl,⟨nd,rfl⟩⟩;refine ⟨_,rfl,?_⟩))
  go_ret
  exact ⟨by first|rfl|(simp [errW_none,errW_some] <;> rfl)|(simp [*,errW_none,errW_some] <;> rfl),by repeat (first|(with_reducible first|exact HB.out|apply below_alloc|apply pw_below_drewN|apply below_drew1|refine below_set ?_ GE173.out)|exact HB.out)⟩
def spec_l5Copy.f (a0_0 : Int) (l0_1 : List Int) (a0_2 : Int) (a0_3 : Int) (a0_4 : Int) : Option (Int × List Int × Int × Int × Int):=(some (([] : List Int) : List Int)).bind fun y177 => (if y177.length + l0_1.length < 17592186044416 then (some (a0_0,(y177 ++ l0_1),a0_2,a0_3,a0_4)) else (none))
def spec_l5Copy.T1 : Bool × List (List Nat × List Nat):=(true,[([],[]),([0],[0]),([],[]),([],[]),([3],[3]),([2,4],[2,4]),([],[]),([6],[6]),([1,5,7],[1,5,7]),([8,5,0,1,2,3,4,5,6,7,8],[8])])
def spec_l5Copy.B1 : List Nat:=[0,1,0,0,8,28,0,64,255,511]
theorem spec_l5Copy.tab1 : rtab .any (opsOf Try.f52 1) = spec_l5Copy.T1:=by kernel_rfl
theorem spec_l5Copy.bits1 : waitsOk spec_l5Copy.T1.2 spec_l5Copy.B1 = true:=by kernel_rfl
theorem spec_l5Copy.calls (a0_0 : Int) (A0_1 : Option Addr) (c0_1 : Nat) (l0_1 : List Int) (a0_2 : Int) (a0_3 : Int) (a0_4 : Int) (r1 : Int) (r2 : List Int) (r3 : Int) (r4 : Int) (r5 : Int) (w : World) (hr0_1 : Kd.C (Kd.int .i64) w A0_1 l0_1.length l0_1) (hc0_1 : l0_1.length ≤ c0_1) (h : spec_l5Copy.f a0_0 l0_1 a0_2 a0_3 a0_4 = some (r1,r2,r3,r4,r5)) :
  Calls Try.prog 52 #[.agg #[.int .i64 a0_0,.slice A0_1 l0_1.length c0_1,.int .i64 a0_2,.int .i64 a0_3,.int .i64 a0_4]] w fun e w' => ∃ v1_ : Value,e = .returned (.agg #[.int .i64 r1,v1_,.int .i64 r3,.int .i64 r4,.int .i64 r5]) ∧ Kd.R (Kd.int .i64) 3 w' w.heap.size (fun _ => True) v1_ r2 ∧ Below w.heap.size w w':=by
 have hu39:=Try.underlying39
 have hu37:=Try.underlying37
 have HR0_1:=Aside0.mk hr0_1;have HC0_1:=Aside0.mk hc0_1;clear hr0_1 hc0_1;have HB:=Aside0.mk (Below.refl w.heap.size w)
 have H : ((some (([] : List Int) : List Int)).bind fun y177 => (if y177.length + l0_1.length < 17592186044416 then (some (a0_0,(y177 ++ l0_1),a0_2,a0_3,a0_4)) else (none))) = some (r1,r2,r3,r4,r5):=h
 clear h;obtain ⟨y177,hy177⟩ : ∃ y_ : List Int,y_ = (([] : List Int)):=⟨_,rfl⟩
 replace H : (if y177.length + l0_1.length < 17592186044416 then (some (a0_0,(y177 ++ l0_1),a0_2,a0_3,a0_4)) else (none)) = some (r1,r2,r3,r4,r5):=by first|(rw [hy177];with_reducible exact H)|(have H2_:=(Option.bind_some _ _).symm.trans H;rw [hy177];with_reducible exact H2_)|(have H2_:=(Option.bind_some _ _).symm.trans H;with_reducible exact H2_)|with_reducible exact H|(rw [hy177];exact H)|exact H
 have Ny177:=Aside0.mk hy177;clear hy177;by_cases c2 : y177.length + l0_1.length < 17592186044416
 ·rw [if_pos c2] at H
  have LMc2:=Aside0.mk c2;clear c2;obtain ⟨y180,hy180⟩ : ∃ y_ : List Int,y_ = (y177 ++ l0_1):=⟨_,rfl⟩
  replace H : (some (a0_0,y180,a0_2,a0_3,a0_4)) = some (r1,r2,r3,r4,r5):=by first|(rw [hy180];with_reducible exact H)|(have H2_:=(Option.bind_some _ _).symm.trans H;rw [hy180];with_reducible exact H2_)|(have H2_:=(Option.bind_some _ _).symm.trans H;with_reducible exact H2_)|with_reducible exact H|(rw [hy180];exact H)|exact H
  have Ny180:=Aside0.mk hy180;clear hy180;simp only [Option.some.injEq,Prod.mk.injEq] at H
  obtain ⟨rfl,rfl,rfl,rfl,rfl⟩:=H;go_enter Try.func52,Try.ntmps52
  try go_wp2_with (first|((with_reducible refine gate_dst (N:=1) rfl ?_);refine box_event ?hg (N:=1) ?hd (cs:=#[.int .i64 a0_0,.slice A0_1 l0_1.length c0_1,.int .i64 a0_2,.int .i64 a0_3,.int .i64 a0_4]) (t:=39) ?hr ?_;(case hd => rfl);(case hg => rfl);(case hr => first|(go_simp;done)|(go_simp;rfl));intro gb175 hg w3 hbox hb;have n0_:=Aside0.mk (below_step (by repeat (first|(with_reducible first|exact HB.out|apply below_alloc|apply pw_below_drewN|apply below_drew1)|exact HB.out)) hb);have n1_:=Aside0.mk (hbox);have n2_:=Aside0.mk ((by rw [hg];exact (below_size (by repeat (first|(with_reducible first|exact HB.out|apply below_alloc|apply pw_below_drewN|apply below_drew1)|exact HB.out))) : w.heap.size ≤ gb175));have n3_:=Aside0.mk ((by rw [hg];exact (below_size (by repeat (first|(with_reducible first|exact HB.out|apply below_alloc|apply pw_below_drewN|apply below_drew1)|exact HB.out))) : w.heap.size ≤ gb175));clear HB;have HB:=n0_;have BK175:=n1_;have GW175:=n2_;have GE175:=n3_;clear n0_ n1_ n2_ n3_;clear hb hbox hg)|((with_reducible refine gate_dst (N:=2) rfl ?_);refine box_event ?hg (N:=2) ?hd (cs:=#[.int .i64 0,.slice none 0 0,.int .i64 0,.int .i64 0,.int .i64 0]) (t:=39) ?hr ?_;(case hd => rfl);(case hg => rfl);(case hr => first|(go_simp;done)|(go_simp;rfl));intro gb176 hg w4 hbox hb;have n0_:=Aside0.mk (blk_below (g:=gb175) (o:=.cells #[.int .i64 a0_0,.slice A0_1 l0_1.length c0_1,.int .i64 a0_2,.int .i64 a0_3,.int .i64 a0_4] 39 (0,0)) (by (with_reducible repeat (first|refine blk_drewN ?_ _|refine blk_drew ?_|refine blk_alloc ?_ _));exact BK175.out) hb);have n1_:=Aside0.mk (below_step (by repeat (first|(with_reducible first|exact HB.out|apply below_alloc|apply pw_below_drewN|apply below_drew1|refine below_set ?_ GE175.out)|exact HB.out)) hb);have n2_:=Aside0.mk (hbox);have n3_:=Aside0.mk ((by rw [hg];exact (below_size (by repeat (first|(with_reducible first|exact HB.out|apply below_alloc|apply pw_below_drewN|apply below_drew1|refine below_set ?_ GE175.out)|exact HB.out))) : w.heap.size ≤ gb176));have n4_:=Aside0.mk ((by rw [hg];exact (below_size (by repeat (first|(with_reducible first|exact HB.out|apply below_alloc|apply pw_below_drewN|apply below_drew1|refine below_set ?_ GE175.out)|exact HB.out))) : w.heap.size ≤ gb176));have n5_:=Aside0.mk ((by rw [hg];exact Nat.ne_of_lt (blk_lt (g:=gb175) (o:=.cells #[.int .i64 a0_0,.slice A0_1 l0_1.length c0_1,.int .i64 a0_2,.int .i64 a0_3,.int .i64 a0_4] 39 (0,0)) (by (with_reducible repeat (first|refine blk_drewN ?_ _|refine blk_drew ?_|refine blk_alloc ?_ _));exact BK175.out)) : gb175 ≠ gb176));have n6_:=Aside0.mk ((by rw [hg];exact Nat.ne_of_gt (blk_lt (g:=gb175) (o:=.cells #[.int .i64 a0_0,.slice A0_1 l0_1.length c0_1,.int .i64 a0_2,.int .i64 a0_3,.int .i64 a0_4] 39 (0,0)) (by (with_reducible repeat (first|refine blk_drewN ?_ _|refine blk_drew ?_|refine blk_alloc ?_ _));exact BK175.out)) : gb176 ≠ gb175));clear BK175;clear HB;have BK175:=n0_;have HB:=n1_;have BK176:=n2_;have GW176:=n3_;have GE176:=n4_;have NB175_176:=n5_;have NB176_175:=n6_;clear n0_ n1_ n2_ n3_ n4_ n5_ n6_;clear hb hbox hg))
  have n0_:=Aside0.mk (blk_drew BK175.out)
  have n1_:=Aside0.mk (blk_drew BK176.out)
  have n2_:=Aside0.mk (below_drew1 HB.out)
  clear BK175;clear BK176;clear HB;have BK175:=n0_;have BK176:=n1_;have HB:=n2_;clear n0_ n1_ n2_;refine start_ (n:=10) (S:=fun w' => w'.cell? ⟨gb175,0,none⟩ = some (.int .i64 a0_0) ∧ w'.cell? ⟨gb175,1,none⟩ = some (.slice A0_1 l0_1.length c0_1) ∧ w'.cell? ⟨gb175,2,none⟩ = some (.int .i64 a0_2) ∧ w'.cell? ⟨gb175,3,none⟩ = some (.int .i64 a0_3) ∧ w'.cell? ⟨gb175,4,none⟩ = some (.int .i64 a0_4)) (ds:=[]) #[false,false,false,false,false,false,false,false,false,false] (by kernel_rfl) rfl rfl ⟨(blk_cell BK175.out 0).trans rfl,(blk_cell BK175.out 1).trans rfl,(blk_cell BK175.out 2).trans rfl,(blk_cell BK175.out 3).trans rfl,(blk_cell BK175.out 4).trans rfl⟩ (fun hHeld => ?_);refine with_tabW spec_l5Copy.tab1 spec_l5Copy.bits1 (fun HT_ HW_ => ?_)
  generalize w4.drew = w5 at BK175 BK176 HB hHeld ⊢
  refine pure_ (i:=0) (N:=some 3) (v:=?_) (a':=?_) #[true,false,false,false,false,false,false,false,false,false] rfl rfl (any_of HT_.out (by kernel_rfl)) (fun _ _ _ h => h) (Or.inl ⟨by rfl,?_⟩) ?_ ?_
  rotate_left
  ·intro w';go_simp;with_reducible rfl
  rotate_left
  ·simp only [Act.put,List.setIfInBounds_toArray,List.set_cons_zero,List.set_cons_succ,i64_w,i32_w]
   rfl
  refine pure_ (i:=3) (N:=some 6) (v:=?_) (a':=?_) #[true,false,false,true,false,false,false,false,false,false] rfl rfl (any_of HT_.out (by kernel_rfl)) (fun _ _ _ h => h) (Or.inl ⟨by rfl,?_⟩) ?_ ?_
  rotate_left
  ·intro w';go_simp;with_reducible rfl
  rotate_left
  ·simp only [Act.put,List.setIfInBounds_toArray,List.set_cons_zero,List.set_cons_succ,i64_w,i32_w]
   rfl
  refine pure_ (i:=6) (N:=some 9) (v:=?_) (a':=?_) #[true,false,false,true,false,false,true,false,false,false] rfl rfl (any_of HT_.out (by kernel_rfl)) (fun _ _ _ h => h) (Or.inl ⟨by rfl,?_⟩) ?_ ?_
  rotate_left
  ·intro w';go_simp;with_reducible rfl
  rotate_left
  ·simp only [Act.put,List.setIfInBounds_toArray,List.set_cons_zero,List.set_cons_succ,i64_w,i32_w]
   rfl
  refine take_ (i:=1) (N:=some 4) (v:=?_) (a':=?_) #[true,true,false,true,false,false,true,false,false,false] rfl rfl (take_ofW HT_.out HW_.out (by kernel_rfl)) (fun _ _ _ h => h) (Or.inl ⟨by rfl,?_⟩) hHeld ?_ ?_
  rotate_left
  ·rintro w' ⟨s0,s1,s2,s3,s4⟩
   go_simp;with_reducible rfl
  rotate_left
  ·simp only [Act.put,List.setIfInBounds_toArray,List.set_cons_zero,List.set_cons_succ,i64_w,i32_w]
   rfl
  refine take_ (i:=4) (N:=some 7) (v:=?_) (a':=?_) #[true,true,false,true,true,false,true,false,false,false] rfl rfl (take_ofW HT_.out HW_.out (by kernel_rfl)) (fun _ _ _ h => h) (Or.inl ⟨by rfl,?_⟩) hHeld ?_ ?_
  rotate_left
  ·rintro w' ⟨s0,s1,s2,s3,s4⟩
   go_simp;with_reducible rfl
  rotate_left
  ·simp only [Act.put,List.setIfInBounds_toArray,List.set_cons_zero,List.set_cons_succ,i64_w,i32_w]
   rfl
  refine take_ (i:=7) (N:=some 10) (v:=?_) (a':=?_) #[true,true,false,true,true,false,true,true,false,false] rfl rfl (take_ofW HT_.out HW_.out (by kernel_rfl)) (fun _ _ _ h => h) (Or.inl ⟨by rfl,?_⟩) hHeld ?_ ?_
  rotate_left
  ·rintro w' ⟨s0,s1,s2,s3,s4⟩
   go_simp;with_reducible rfl
  rotate_left
  ·simp only [Act.put,List.setIfInBounds_toArray,List.set_cons_zero,List.set_cons_succ,i64_w,i32_w]
   rfl
  refine one_ (i:=2) (N:=some 5) #[true,true,true,true,true,false,true,true,false,false] rfl rfl (one_of HT_.out (by kernel_rfl)) (by decide) (fun K hK => ?_)
  refine Kd.R_lit_step (Kd.int .i64) _ 3 ?hg (N:=5) ?hd (xs:=([] : List Int)) (inner:=[]) (ok:=fun _ => True) (okp:=fun _ => True) ?hr ?hp (fun _ hk => hk) trivial (Below.refl _ _) (Nat.le_refl _) (by simp) ?_;(case hd => rfl);(case hg => rfl);(case hr => first|(go_simp;done)|(go_simp;rfl));(case hp => exact (Reps.none _ _))
  intro v178 w6 ho7 hb hg_ hnew_;clear hg_ hnew_;(first|rw [← Ny177.out] at ho7|(simp only [Int.reduceToNat] at ho7;rw [← Ny177.out] at ho7))
  have n0_:=Aside0.mk (Kd.R_lower ho7 (below_size (by repeat (first|(with_reducible first|exact HB.out|apply below_alloc|apply pw_below_drewN|apply below_drew1|refine below_set ?_ GE175.out|refine below_set ?_ GE176.out)|exact HB.out))))
  have n1_:=Aside0.mk (blk_below (g:=gb175) (o:=.cells #[.int .i64 a0_0,.slice A0_1 l0_1.length c0_1,.int .i64 a0_2,.int .i64 a0_3,.int .i64 a0_4] 39 (0,0)) (by (with_reducible repeat (first|refine blk_drewN ?_ _|refine blk_drew ?_|refine blk_alloc ?_ _));exact BK175.out) hb)
  have n2_:=Aside0.mk (blk_below (g:=gb176) (o:=.cells #[.int .i64 0,.slice none 0 0,.int .i64 0,.int .i64 0,.int .i64 0] 39 (0,0)) (by (with_reducible repeat (first|refine blk_drewN ?_ _|refine blk_drew ?_|refine blk_alloc ?_ _));exact BK176.out) hb)
  have n3_:=Aside0.mk (below_step (by repeat (first|(with_reducible first|exact HB.out|apply below_alloc|apply pw_below_drewN|apply below_drew1|refine below_set ?_ GE175.out|refine below_set ?_ GE176.out)|exact HB.out)) hb)
  clear BK175;clear BK176;clear HB;have HO179:=n0_;have BK175:=n1_;have BK176:=n2_;have HB:=n3_;clear n0_ n1_ n2_ n3_;clear hb ho7;refine hK.out _ _ ⟨(blk_cell BK175.out 0).trans rfl,(blk_cell BK175.out 1).trans rfl,(blk_cell BK175.out 2).trans rfl,(blk_cell BK175.out 3).trans rfl,(blk_cell BK175.out 4).trans rfl⟩ (fun hHeld => ?_)
  clear hK K;refine norm_ (a':=?_) ?_ ?_
  rotate_left
  ·show Act.put _ (some 5) _ = _
   simp only [Act.put,List.setIfInBounds_toArray,List.set_cons_zero,List.set_cons_succ,i64_w,i32_w]
   rfl
  refine one_ (i:=5) (N:=some 8) #[true,true,true,true,true,true,true,true,false,false] rfl rfl (one_of HT_.out (by kernel_rfl)) (by decide) (fun K hK => ?_)
  refine Kd.R_append_rows_step (Kd.int .i64) (w0:=w) w.heap.size (by rfl) (.tmp 5) (.tmp 7) 24 3 (.int .i64 0) 8 rfl Try.underlying24 info3 rfl (by decide) (by omega) v178 y177 l0_1 _ _ _ (fun _ => True) (fun _ => False) rfl rfl ?aO ?aR (fun _ _ h => h) (fun _ h => h.elim) ?aF ?aB ?aS ?aL ?_
  (case aR => repeat (first|exact (Kd.C_below HR0_1.out HB.out)|(with_reducible refine Kd.C_alloc ?_ _)|(with_reducible refine Kd.C_drewN ?_ _)|(with_reducible refine Kd.C_drew ?_)))
  (case aB => exact (by repeat (first|(with_reducible first|exact HB.out|apply below_alloc|apply pw_below_drewN|apply below_drew1|refine below_set ?_ GE175.out|refine below_set ?_ GE176.out)|exact HB.out)))
  (case aF => exact (fun _ _ => trivial))
  (case aO => exact (by (with_reducible repeat (first|apply Kd.R_alloc|apply Kd.R_drewN|apply Kd.R_drew));exact HO179.out))
  (case aS => exact (below_size (by repeat (first|(with_reducible first|exact HB.out|apply below_alloc|apply pw_below_drewN|apply below_drew1|refine below_set ?_ GE175.out|refine below_set ?_ GE176.out)|exact HB.out))))
  (case aL => have:=LMc2.out;omega)
  intro v181 w8 ho hb hg hat;rw [← Ny180.out] at ho
  have n0_:=Aside0.mk (blk_grown (g:=gb175) (o:=.cells #[.int .i64 a0_0,.slice A0_1 l0_1.length c0_1,.int .i64 a0_2,.int .i64 a0_3,.int .i64 a0_4] 39 (0,0)) (by (with_reducible repeat (first|refine blk_drewN ?_ _|refine blk_drew ?_|refine blk_alloc ?_ _));exact BK175.out) hg (Kd.R_ne HO179.out BK175.out (by decide)))
  have n1_:=Aside0.mk (blk_grown (g:=gb176) (o:=.cells #[.int .i64 0,.slice none 0 0,.int .i64 0,.int .i64 0,.int .i64 0] 39 (0,0)) (by (with_reducible repeat (first|refine blk_drewN ?_ _|refine blk_drew ?_|refine blk_alloc ?_ _));exact BK176.out) hg (Kd.R_ne HO179.out BK176.out (by decide)))
  have n2_:=Aside0.mk (hb)
  have n3_:=Aside0.mk (ho)
  clear BK175;clear BK176;clear HB;clear HO179;have BK175:=n0_;have BK176:=n1_;have HB:=n2_;have HO182:=n3_;clear n0_ n1_ n2_ n3_;clear ho hb hg hat;obtain ⟨Ao9,co9,eo9⟩:=Kd.R_slice HO182.out
  (first|subst eo9|(injection eo9 with f1_ f2_ f3_;have f4_:=f1_.symm;have f5_:=f3_.symm;clear f1_ f2_ f3_;subst f4_;subst f5_))
  refine hK.out _ _ ⟨(blk_cell BK175.out 0).trans rfl,(blk_cell BK175.out 1).trans rfl,(blk_cell BK175.out 2).trans rfl,(blk_cell BK175.out 3).trans rfl,(blk_cell BK175.out 4).trans rfl⟩ (fun hHeld => ?_)
  clear hK K;refine norm_ (a':=?_) ?_ ?_
  rotate_left
  ·show Act.put _ (some 8) _ = _
   simp only [Act.put,List.setIfInBounds_toArray,List.set_cons_zero,List.set_cons_succ,i64_w,i32_w]
   rfl
  refine pure_ (i:=8) (N:=some 11) (v:=?_) (a':=?_) #[true,true,true,true,true,true,true,true,true,false] rfl rfl (any_of HT_.out (by kernel_rfl)) (fun _ _ _ h => h) (Or.inl ⟨by rfl,?_⟩) ?_ ?_
  rotate_left
  ·intro w';go_simp;with_reducible rfl
  rotate_left
  ·simp only [Act.put,List.setIfInBounds_toArray,List.set_cons_zero,List.set_cons_succ,i64_w,i32_w]
   rfl
  refine one_ (i:=9) (N:=none) #[true,true,true,true,true,true,true,true,true,true] rfl rfl (one_of HT_.out (by kernel_rfl)) (by decide) (fun K hK => ?_)
  have hs10 : w8.cell? ⟨gb176,0,none⟩ = some (.int .i64 0):=(blk_cell BK176.out 0).trans rfl
  have hfs10:=blk_frozen BK176.out 0
  have hns10_0:=NB175_176.out;have hms10_0:=NB176_175.out;have hs11 : w8.cell? ⟨gb176,1,none⟩ = some (.slice none 0 0):=(blk_cell BK176.out 1).trans rfl
  have hfs11:=blk_frozen BK176.out 1
  have hns11_0:=NB175_176.out;have hms11_0:=NB176_175.out;have hs12 : w8.cell? ⟨gb176,2,none⟩ = some (.int .i64 0):=(blk_cell BK176.out 2).trans rfl
  have hfs12:=blk_frozen BK176.out 2
  have hns12_0:=NB175_176.out;have hms12_0:=NB176_175.out;have hs13 : w8.cell? ⟨gb176,3,none⟩ = some (.int .i64 0):=(blk_cell BK176.out 3).trans rfl
  have hfs13:=blk_frozen BK176.out 3
  have hns13_0:=NB175_176.out;have hms13_0:=NB176_175.out;have hs14 : w8.cell? ⟨gb176,4,none⟩ = some (.int .i64 0):=(blk_cell BK176.out 4).trans rfl
  have hfs14:=blk_frozen BK176.out 4
  have hns14_0:=NB175_176.out;have hms14_0:=NB176_175.out;refine skip_ (w1:=?_) (by rfl) rfl ?_ ?_
  rotate_left
  ·go_simp;rfl
  refine hK.out _ _ ⟨((cell_far (p:=⟨gb176,_,none⟩) NB175_176.out _).trans (((cell_far (p:=⟨gb176,_,none⟩) NB175_176.out _).trans (((cell_far (p:=⟨gb176,_,none⟩) NB175_176.out _).trans (((cell_far (p:=⟨gb176,_,none⟩) NB175_176.out _).trans (((cell_far (p:=⟨gb176,_,none⟩) NB175_176.out _).trans (hHeld.1)))))))))),((cell_far (p:=⟨gb176,_,none⟩) NB175_176.out _).trans (((cell_far (p:=⟨gb176,_,none⟩) NB175_176.out _).trans (((cell_far (p:=⟨gb176,_,none⟩) NB175_176.out _).trans (((cell_far (p:=⟨gb176,_,none⟩) NB175_176.out _).trans (((cell_far (p:=⟨gb176,_,none⟩) NB175_176.out _).trans (hHeld.2.1)))))))))),((cell_far (p:=⟨gb176,_,none⟩) NB175_176.out _).trans (((cell_far (p:=⟨gb176,_,none⟩) NB175_176.out _).trans (((cell_far (p:=⟨gb176,_,none⟩) NB175_176.out _).trans (((cell_far (p:=⟨gb176,_,none⟩) NB175_176.out _).trans (((cell_far (p:=⟨gb176,_,none⟩) NB175_176.out _).trans (hHeld.2.2.1)))))))))),((cell_far (p:=⟨gb176,_,none⟩) NB175_176.out _).trans (((cell_far (p:=⟨gb176,_,none⟩) NB175_176.out _).trans (((cell_far (p:=⟨gb176,_,none⟩) NB175_176.out _).trans (((cell_far (p:=⟨gb176,_,none⟩) NB175_176.out _).trans (((cell_far (p:=⟨gb176,_,none⟩) NB175_176.out _).trans (hHeld.2.2.2.1)))))))))),((cell_far (p:=⟨gb176,_,none⟩) NB175_176.out _).trans (((cell_far (p:=⟨gb176,_,none⟩) NB175_176.out _).trans (((cell_far (p:=⟨gb176,_,none⟩) NB175_176.out _).trans (((cell_far (p:=⟨gb176,_,none⟩) NB175_176.out _).trans (((cell_far (p:=⟨gb176,_,none⟩) NB175_176.out _).trans (hHeld.2.2.2.2))))))))))⟩ (fun hHeld => ?_)
  clear hK K;refine done_ (done_of HT_.out (by kernel_rfl)) ?_
  try go_wp2
  refine bodyPost_ret (results_cell_row rfl _ _ gb176 39 #[.int .i64 a0_0,.slice Ao9 y180.length co9,.int .i64 a0_2,.int .i64 a0_3,.int .i64 a0_4] (0,0) _ rfl (by (with_reducible repeat (first|refine blk_drewN ?_ _|refine blk_drew ?_|refine blk_alloc ?_ _));refine blk_put (cs:=#[.int .i64 a0_0,.slice Ao9 y180.length co9,.int .i64 a0_2,.int .i64 a0_3,.int .i64 0]) ?_ 4 _ rfl;(with_reducible repeat (first|refine blk_drewN ?_ _|refine blk_drew ?_|refine blk_alloc ?_ _));refine blk_put (cs:=#[.int .i64 a0_0,.slice Ao9 y180.length co9,.int .i64 a0_2,.int .i64 0,.int .i64 0]) ?_ 3 _ rfl;(with_reducible repeat (first|refine blk_drewN ?_ _|refine blk_drew ?_|refine blk_alloc ?_ _));refine blk_put (cs:=#[.int .i64 a0_0,.slice Ao9 y180.length co9,.int .i64 0,.int .i64 0,.int .i64 0]) ?_ 2 _ rfl;(with_reducible repeat (first|refine blk_drewN ?_ _|refine blk_drew ?_|refine blk_alloc ?_ _));refine blk_put (cs:=#[.int .i64 a0_0,.slice none 0 0,.int .i64 0,.int .i64 0,.int .i64 0]) ?_ 1 _ rfl;(with_reducible repeat (first|refine blk_drewN ?_ _|refine blk_drew ?_|refine blk_alloc ?_ _));refine blk_put (cs:=#[.int .i64 0,.slice none 0 0,.int .i64 0,.int .i64 0,.int .i64 0]) ?_ 0 _ rfl;(with_reducible repeat (first|refine blk_drewN ?_ _|refine blk_drew ?_|refine blk_alloc ?_ _));exact BK176.out) Try.underlying39 rfl (by kernel_rfl)) rfl ?_
  exact ⟨_,by first|rfl|(simp [errW_none,errW_some] <;> rfl)|(simp [*,errW_none,errW_some] <;> rfl),by (with_reducible repeat (first|apply Kd.R_alloc|apply Kd.R_drewN|apply Kd.R_drew));exact Kd.R_mono (Kd.R_far (p:=⟨gb176,4,none⟩) (Kd.R_far (p:=⟨gb176,3,none⟩) (Kd.R_far (p:=⟨gb176,2,none⟩) (Kd.R_far (p:=⟨gb176,1,none⟩) (Kd.R_far (p:=⟨gb176,0,none⟩) (Kd.R_types HO182.out BK176.out (by decide)) (fun _ hk => hk.2) (.int .i64 a0_0)) (fun _ hk => hk.2) (.slice Ao9 y180.length co9)) (fun _ hk => hk.2) (.int .i64 a0_2)) (fun _ hk => hk.2) (.int .i64 a0_3)) (fun _ hk => hk.2) (.int .i64 a0_4)) (fun _ hk => trivial),by repeat (first|(with_reducible first|exact HB.out|apply below_alloc|apply pw_below_drewN|apply below_drew1|refine below_set ?_ GE175.out|refine below_set ?_ GE176.out)|exact HB.out)⟩
 ·rw [if_neg c2] at H
  exact absurd H (by simp)
end Go.Proofs.Ytgcidlnhgpjdpad.QFnExactFollowAt
