/- The Go functions that the law FnExactPutPart comes to, each as a Lean function, with a proof that the call does what it says; written by a program of this session over the print of the kit. No conditions. -/
import Derived.Test.YtlpfobakbgipbaaQFnExactPutPartx0
import Derived.Test.YtlpfobakbgipbaaQFnExactPutPartx8
namespace Go.Proofs.Ytlpfobakbgipbaa.QFnExactPutPart
open Go.RowKit Go.Proofs.YtlpfobakbgipbaaW.PrintWords Go.Proofs.YtlpfobakbgipbaaW.PrintLast Go.Proofs.YtlpfobakbgipbaaW.PrintMore
attribute [local go_sem] max2_int min2_int max_two min_two max_three min_three max_four min_four   -- for this text's walks alone
set_option linter.unusedVariables false
set_option linter.unusedSimpArgs false

/-! ### laws_markPartS: function 14 (a proof of this session's own) -/
def bump : Nat → Int → Int
  | 0, a => a
  | n + 1, a => bump n (wrap64 (a + 1))
/-- From w to W only numbers have been written over numbers, in the blocks of P (and what is new). -/
structure Soft (P : Nat → Prop) (w W : World) : Prop where
  kept : Kept w W P
  cell : ∀ p u, w.cell? p = some u → W.cell? p = some u ∨ ((∃ a, u = .int .i64 a) ∧ ∃ b, W.cell? p = some (.int .i64 b))
  frozen : ∀ p, W.frozen? p = w.frozen? p
theorem Soft.refl (P : Nat → Prop) (w : World) : Soft P w w := ⟨Kept.refl _ _, fun _ _ h => .inl h, fun _ => rfl⟩
theorem Soft.int {P : Nat → Prop} {w W : World} (h : Soft P w W) {p : Addr} {a : Int} (hp : w.cell? p = some (.int .i64 a)) : ∃ b, W.cell? p = some (.int .i64 b) := by
  rcases h.cell p _ hp with h1 | ⟨_, h1⟩
  · exact ⟨a, h1⟩
  · exact h1
theorem Soft.slice {P : Nat → Prop} {w W : World} (h : Soft P w W) {p : Addr} {A : Option Addr} {n c : Nat} (hp : w.cell? p = some (.slice A n c)) : W.cell? p = some (.slice A n c) := by
  rcases h.cell p _ hp with h1 | ⟨⟨a, ha⟩, _⟩
  · exact h1
  · cases ha
theorem Soft.trans {P : Nat → Prop} {w W V : World} (h : Soft P w W) (k : Soft P W V) : Soft P w V := by
  refine ⟨h.kept.then_ k.kept (fun _ hk => .inl hk), fun p u hp => ?_, fun p => (k.frozen p).trans (h.frozen p)⟩
  rcases h.cell p u hp with h1 | ⟨h1, b, h2⟩
  · exact k.cell p u h1
  · exact .inr ⟨h1, k.int h2⟩
theorem Soft.set {P : Nat → Prop} {w W : World} (h : Soft P w W) {p : Addr} {a : Int} (hp : W.cell? p = some (.int .i64 a)) (hP : P p.block) (b : Int) : Soft P w (W.setCell p (.int .i64 b)) := by
  refine h.trans ⟨Kept.setCell (Kept.refl _ _) (.inl hP) _, fun q u hq => ?_, fun q => World.frozen?_setCell _ _ _ _⟩
  by_cases e : p = q
  · subst e
    rw [hp] at hq
    injection hq with hq
    exact .inr ⟨⟨a, hq.symm⟩, b, World.cell?_setCell_same _ _ _ hp⟩
  · exact .inl ((World.cell?_setCell_other _ _ _ _ e).trans hq)
theorem bump_add (m n : Nat) (a : Int) : bump n (bump m a) = bump (m + n) a := by
  induction m generalizing a with
  | zero => rw [Nat.zero_add]; rfl
  | succ m ih => rw [Nat.succ_add]; exact ih _
theorem wrap_id {x : Int} (h0 : -9223372036854775808 ≤ x) (h1 : x ≤ 9223372036854775807) : wrap64 x = x := by
  unfold wrap64
  omega
/-- A row of numbers that may be written. -/
def IntRow (P : Nat → Prop) (w0 w : World) (A : Option Addr) (n : Nat) : Prop :=
  n ≤ 9223372036854775807 ∧ (0 < n → ∃ g, A = some ⟨g, 0, none⟩ ∧ P g ∧ w0.heap.size ≤ g ∧ (∀ j, j < n → ∃ x, w.cell? ⟨g, j, none⟩ = some (.int .i64 x)) ∧ ∀ j, w.frozen? ⟨g, j, none⟩ = false)
theorem IntRow.soft {P : Nat → Prop} {w0 w W : World} {A : Option Addr} {n : Nat} (h : IntRow P w0 w A n) (hs : Soft P w W) : IntRow P w0 W A n := by
  refine ⟨h.1, fun hp => ?_⟩
  obtain ⟨g, hA, hP, hg, hc, hf⟩ := h.2 hp
  refine ⟨g, hA, hP, hg, fun j hj => ?_, fun j => (hs.frozen _).trans (hf j)⟩
  obtain ⟨x, hx⟩ := hc j hj
  exact hs.int hx
theorem IntRow.of_R {P ok : Nat → Prop} {w0 w : World} {v : Value} {l : List Int} (h : Kd.R (Kd.int .i64) 3 w w0.heap.size ok v l) (hP : ∀ k, ok k → P k) : ∃ A c, v = .slice A l.length c ∧ IntRow P w0 w A l.length := by
  obtain ⟨A, c, rfl, hlc, hC⟩ := Kd.R_reads h
  refine ⟨A, c, rfl, hC.2.1, fun hp => ?_⟩
  obtain ⟨g, cap, e, hg, _, _⟩ := Kd.R_form h hp
  injection e with eA _ _
  subst eA
  refine ⟨g, rfl, hP g (h.1 g rfl), hg, fun j hj => ?_, fun j => ?_⟩
  · exact ⟨_, (Kd.R_celln 0 h (j : Int) (by omega) (by omega)).1⟩
  · obtain ⟨cc, _, _, _, hf⟩ := Kd.R_elem h 0 0 (by omega) (by omega)
    have h2 := hf j
    simpa using h2
set_option maxHeartbeats 8000000 in
set_option maxRecDepth 100000 in
theorem soft_markIntS (P : Nat → Prop) (A : Option Addr) (n c : Nat) (a1 : Int) (w0 w : World) (hA : IntRow P w0 w A n) (hB : Below w0.heap.size w0 w) :
    Calls Try.prog 48 #[.slice A n c, .int .i64 a1] w fun e w' => e = .returned (.int .i64 (bump n a1)) ∧ Below w0.heap.size w0 w' ∧ Soft P w w' := by
  have HA := Aside0.mk hA
  have HB := Aside0.mk hB
  have HS := Aside0.mk (Soft.refl P w)
  clear hA hB
  go_enter Try.func48, Try.ntmps48
  go_wp2
  go_loopg [1, 5] (n + 1) (fun kq v1 v5 w' => ∃ (x1_1 : Int) (x5_1 : Int), v1 = .int .i64 x1_1 ∧ v5 = .int .i64 x5_1 ∧ Aside0 (∃ i : Nat, x5_1 = (i : Int) ∧ i ≤ n ∧ n + 1 ≤ i + kq ∧ bump (n - i) x1_1 = bump n a1) ∧ Aside0 (Below w0.heap.size w0 w') ∧ Aside0 (Soft P w w'))
  case atStart => exact ⟨a1, 0, (by first | rfl | (simp; done)), (by first | rfl | (simp; done)), ⟨0, rfl, Nat.zero_le _, by omega, rfl⟩, ⟨by repeat (first | exact HB.out | apply below_alloc | apply pw_below_drewN | apply below_drew1)⟩, ⟨HS.out⟩⟩
  case round =>
    clear HS HB
    try clear p2
    obtain ⟨x1_1, x5_1, rfl, rfl, HI, HB, HS⟩ := hrel
    obtain ⟨i, rfl, hin, hk, hb⟩ := HI.out
    clear HI
    by_cases c3 : (i : Int) < (n : Int)
    · have c3b0 : decide ((i : Int) < (n : Int)) = true := decide_eq_true c3
      have hin' : i < n := by omega
      obtain ⟨g, rfl, hP0, hg0, hc0, hf0⟩ := HA.out.2 (by omega)
      have HP := Aside0.mk hP0
      have HG := Aside0.mk hg0
      have HF := Aside0.mk hf0
      obtain ⟨x, hx⟩ := hc0 i hin'
      clear hP0 hg0 hc0 hf0
      obtain ⟨y, hy⟩ := HS.out.int hx
      have hfr := (HS.out.frozen _).trans (HF.out i)
      have hnew := Aside0.mk (HS.out.set hy HP.out x1_1)
      have hb2 := Aside0.mk (below_set (j := i) (v := .int .i64 x1_1) HB.out HG.out)
      have p5 : 0 ≤ ((i : Nat) : Int) := by omega
      have q5 : ((i : Nat) : Int) < ((n : Nat) : Int) := c3
      replace p5 := eq_true p5
      replace q5 := eq_true q5
      go_wp2_with (first | ((with_reducible refine gate_store (t := 3) (p := 15) rfl ?_); refine store_event (t := 3) (p := 15) (v := ?vo_w8) (w1 := (wr.setCell ⟨g, i, none⟩ (.int .i64 x1_1))) ?hg ?ho ?hn ?hr ?_; (case ho => rfl); (case hg => rfl); (case hn => rfl); (case hr => first | (go_simp; done) | (go_simp; rfl) | (simp [hy, hfr]; done)); intro w8 hw; have n0_ := Aside0.mk (show Soft P w w8 by rw [hw]; exact hnew.out); have n1_ := Aside0.mk (show Below w0.heap.size w0 w8 by rw [hw]; exact hb2.out); clear HS HB hnew hb2 hw; have HS := n0_; have HB := n1_; clear n0_ n1_))
      obtain ⟨k1, rfl⟩ : ∃ k1, gk = k1 + 1 := ⟨gk - 1, by omega⟩
      go_roundg k1
      case measure => omega
      case rel =>
        have ei : wrap64 ((i : Int) + 1) = ((i + 1 : Nat) : Int) := by have := HA.out.1; rw [wrap_id (by omega) (by omega)]; rfl
        refine ⟨wrap64 (x1_1 + 1), wrap64 ((i : Int) + 1), (by first | rfl | (simp; done)), (by first | rfl | (simp; done)), ⟨i + 1, ei, by omega, by omega, ?_⟩, HB, HS⟩
        rw [← hb, show n - i = (n - (i + 1)) + 1 by omega]
        rfl
    · have c3b0 : decide ((i : Int) < (n : Int)) = false := decide_eq_false c3
      obtain rfl : i = n := by omega
      have e : x1_1 = bump i a1 := by rw [← hb, Nat.sub_self]; rfl
      go_wp2
      go_ret
      exact ⟨by first | rfl | rw [e], HB.out, HS.out⟩
theorem kept_row {α : Type} {d : Kd α} {e : Nat} {W W2 : World} {base b2 : Nat} {ok ok' P : Nat → Prop} {v : Value} {xs : List α} {E2 : List Nat} (h : d.R e W base ok v xs) (hE : d.E = []) (hk : Kept W W2 (fun k => P k ∧ b2 ≤ k ∧ k < W.heap.size ∧ ∃ q, q ∈ E2 ∧ ∃ cells, W.heap[k]? = some (.cells cells q (0, 0)))) (hf : e ∉ E2 ∨ ∀ k, some k = v.ownBlock → ¬ P k) (hok : ∀ k, v.ownBlock = some k → ok' k) : d.R e W2 base ok' v xs := by
  refine Kd.R_reok hE (Kd.R_kept (Kd.R_bound (Kd.R_tight hE h)) hk (fun k hk hp => ?_)) hok
  rcases hf with hf | hf
  · obtain ⟨_, _, _, q1, hq1, c1, hc1⟩ := hk
    obtain ⟨_, _, _, q2, hq2, c2, hc2⟩ := hp
    have he := hc1.symm.trans hc2
    injection he with he
    injection he with _ he
    subst he
    rw [hE] at hq1
    rw [List.mem_singleton.1 hq1] at hq2
    exact hf hq2
  · exact hf k hk.1 hp.1
theorem kept_blk {W W2 : World} {b2 g t : Nat} {cs : Array Value} {P : Nat → Prop} {E2 : List Nat} (h : W.heap[g]? = some (.cells cs t (0, 0))) (hk : Kept W W2 (fun k => P k ∧ b2 ≤ k ∧ k < W.heap.size ∧ ∃ q, q ∈ E2 ∧ ∃ cells, W.heap[k]? = some (.cells cells q (0, 0)))) (hf : t ∉ E2) : W2.heap[g]? = some (.cells cs t (0, 0)) := by
  refine blk_kept h hk (fun hp => ?_)
  obtain ⟨_, _, _, q, hq, c, hc⟩ := hp
  have he := hc.symm.trans h
  injection he with he
  injection he with _ he
  subst he
  exact hf hq
def laws_markPartS.cnt (l : List S63) : Nat := (l.map (fun x => 6 + x.f1.f1.length)).sum
def laws_markPartS.f (l0 : List (S63)) (a1 : Int) : Option (Int) := some (bump (laws_markPartS.cnt l0) a1)
theorem laws_markPartS.elem {P : Nat → Prop} {w0 w : World} {A : Option Addr} {n c : Nat} {l0 : List (S63)} (h : Kd.R k63 63 w w0.heap.size P (.slice A n c) l0) (i : Nat) (hi : i < l0.length) : ∃ g, A = some ⟨g, 0, none⟩ ∧ P g ∧ w0.heap.size ≤ g ∧ (∃ a, w.cell? ⟨g, i * 7, none⟩ = some (.int .i64 a)) ∧ (∃ a, w.cell? ⟨g, i * 7 + 1, none⟩ = some (.int .i64 a)) ∧ (∃ a, w.cell? ⟨g, i * 7 + 3, none⟩ = some (.int .i64 a)) ∧ (∃ a, w.cell? ⟨g, i * 7 + 4, none⟩ = some (.int .i64 a)) ∧ (∃ a, w.cell? ⟨g, i * 7 + 5, none⟩ = some (.int .i64 a)) ∧ (∃ a, w.cell? ⟨g, i * 7 + 6, none⟩ = some (.int .i64 a)) ∧ (∃ A5 c5, w.cell? ⟨g, i * 7 + 2, none⟩ = some (.slice A5 (l0[i]).f1.f1.length c5) ∧ IntRow P w0 w A5 (l0[i]).f1.f1.length) ∧ ∀ j, w.frozen? ⟨g, i * 7 + j, none⟩ = false := by
  obtain ⟨hn, _, _⟩ := Kd.R_reads' h
  obtain ⟨g, cap, e, hg, _, _⟩ := Kd.R_form h (by omega)
  injection e with eA eN eC
  subst eA
  obtain ⟨cs, hcl, hM, hcc, hf⟩ := Kd.R_elem h z63 (i : Int) (by omega) (by omega)
  rw [List.getD_eq_getElem?_getD, show ((i : Nat) : Int).toNat = i from rfl, List.getElem?_eq_getElem hi] at hM
  obtain ⟨v5, rfl, hR⟩ := k63_openM hM
  obtain ⟨A5, c5, rfl, hrow⟩ := IntRow.of_R (P := P) hR (fun k hk => hk.1)
  exact ⟨g, rfl, h.1 g rfl, hg, ⟨_, hcc 0 _ rfl⟩, ⟨_, hcc 1 _ rfl⟩, ⟨_, hcc 3 _ rfl⟩, ⟨_, hcc 4 _ rfl⟩, ⟨_, hcc 5 _ rfl⟩, ⟨_, hcc 6 _ rfl⟩, ⟨A5, c5, hcc 2 _ rfl, hrow⟩, hf⟩
set_option maxHeartbeats 8000000 in
set_option maxRecDepth 100000 in
theorem laws_markPartS.calls (P : Nat → Prop) (A : Option Addr) (c : Nat) (l0 : List (S63)) (a1 : Int) (r : Int) (w0 w : World) (hB : Below w0.heap.size w0 w) (ho : Kd.R k63 63 w w0.heap.size P (.slice A l0.length c) l0) (h : laws_markPartS.f l0 a1 = some r) :
    Calls Try.prog 14 #[.slice A l0.length c, .int .i64 a1] w fun e w' => e = .returned (.int .i64 r) ∧ Below w0.heap.size w0 w' ∧ Kept w w' P := by
  have hu63 := Try.underlying63
  have hu36 := Try.underlying36
  have hu34 := Try.underlying34
  obtain rfl := Option.some.inj h
  clear h
  have HE := Aside0.mk (fun i hi => laws_markPartS.elem ho i hi)
  have HN := Aside0.mk (Kd.R_reads' ho).2.2.2.1
  have HB := Aside0.mk hB
  have HS := Aside0.mk (Soft.refl P w)
  clear hB ho
  go_enter Try.func14, Try.ntmps14
  go_wp2
  go_loopg [1, 5] (l0.length + 1) (fun kq v1 v5 w' => ∃ (x1_1 : Int) (x5_1 : Int), v1 = .int .i64 x1_1 ∧ v5 = .int .i64 x5_1 ∧ Aside0 (∃ i : Nat, x5_1 = (i : Int) ∧ i ≤ l0.length ∧ l0.length + 1 ≤ i + kq ∧ bump (laws_markPartS.cnt (l0.drop i)) x1_1 = bump (laws_markPartS.cnt l0) a1) ∧ Aside0 (Below w0.heap.size w0 w') ∧ Aside0 (Soft P w w'))
  case atStart => exact ⟨a1, 0, (by first | rfl | (simp; done)), (by first | rfl | (simp; done)), ⟨0, rfl, Nat.zero_le _, by omega, rfl⟩, ⟨by repeat (first | exact HB.out | apply below_alloc | apply pw_below_drewN | apply below_drew1)⟩, ⟨HS.out⟩⟩
  case round =>
    clear HS HB
    try clear p2
    obtain ⟨x1_1, x5_1, rfl, rfl, HI, HB, HS⟩ := hrel
    obtain ⟨i, rfl, hin, hk, hb⟩ := HI.out
    clear HI
    by_cases c3 : (i : Int) < (l0.length : Int)
    · have c3b0 : decide ((i : Int) < (l0.length : Int)) = true := decide_eq_true c3
      have hin' : i < l0.length := by omega
      obtain ⟨g, rfl, hP0, hg0, ⟨q0, hq0⟩, ⟨q1, hq1⟩, ⟨q3, hq3⟩, ⟨q4, hq4⟩, ⟨q5, hq5⟩, ⟨q6, hq6⟩, ⟨A5, c5, hs5, hrow0⟩, hf0⟩ := HE.out i hin'
      have HP := Aside0.mk hP0
      have HG := Aside0.mk hg0
      have HF := Aside0.mk hf0
      have HR5 := Aside0.mk hrow0
      have HS5 := Aside0.mk hs5
      have HQ0 := Aside0.mk hq0
      have HQ1 := Aside0.mk hq1
      have HQ3 := Aside0.mk hq3
      have HQ4 := Aside0.mk hq4
      have HQ5 := Aside0.mk hq5
      have HQ6 := Aside0.mk hq6
      clear hP0 hg0 hf0 hrow0 hs5 hq0 hq1 hq3 hq4 hq5 hq6
      have p5 : 0 ≤ ((i : Nat) : Int) := by omega
      have q5 : ((i : Nat) : Int) < ((l0.length : Nat) : Int) := c3
      replace p5 := eq_true p5
      replace q5 := eq_true q5
      generalize hLn : (l0[i]).f1.f1.length = Ln at HS5 HR5
      obtain ⟨y0, hy0⟩ := HS.out.int HQ0.out
      have hfr0 := (show wr.frozen? ⟨g, i * 7, none⟩ = false from (HS.out.frozen _).trans (HF.out 0))
      go_wp2_with (first | ((with_reducible refine gate_store (t := 3) (p := 16) rfl ?_); refine store_event (t := 3) (p := 16) (v := ?vo_0) (w1 := (wr.setCell ⟨g, i * 7, none⟩ (.int .i64 (x1_1)))) ?hg_0 ?ho_0 ?hn_0 ?hr_0 ?_; (case ho_0 => rfl); (case hg_0 => rfl); (case hn_0 => rfl); (case hr_0 => first | (go_simp; done) | (go_simp; rfl)); intro wn0 hw; have n0_ := Aside0.mk (show Soft P w wn0 by rw [hw]; exact HS.out.set hy0 HP.out _); have n1_ := Aside0.mk (show Below w0.heap.size w0 wn0 by rw [hw]; exact below_set HB.out HG.out); clear HS HB hy0 hfr0 hw; have HS := n0_; have HB := n1_; clear n0_ n1_; obtain ⟨y1, hy1⟩ := HS.out.int HQ1.out; have hfr1 := (show wn0.frozen? ⟨g, i * 7 + 1, none⟩ = false from (HS.out.frozen _).trans (HF.out 1))) | ((with_reducible refine gate_store (t := 3) (p := 24) rfl ?_); refine store_event (t := 3) (p := 24) (v := ?vo_1) (w1 := (wn0.setCell ⟨g, i * 7 + 1, none⟩ (.int .i64 (wrap64 (x1_1 + 1))))) ?hg_1 ?ho_1 ?hn_1 ?hr_1 ?_; (case ho_1 => rfl); (case hg_1 => rfl); (case hn_1 => rfl); (case hr_1 => first | (go_simp; done) | (go_simp; rfl)); intro wn1 hw; have n0_ := Aside0.mk (show Soft P w wn1 by rw [hw]; exact HS.out.set hy1 HP.out _); have n1_ := Aside0.mk (show Below w0.heap.size w0 wn1 by rw [hw]; exact below_set HB.out HG.out); clear HS HB hy1 hfr1 hw; have HS := n0_; have HB := n1_; clear n0_ n1_; have hsl := HS.out.slice HS5.out) | (go_at_call 48; refine (soft_markIntS P A5 Ln c5 (wrap64 ((wrap64 (x1_1 + 1)) + 1)) w0 _ (HR5.out.soft HS.out) HB.out).mono ?_; rintro e wn2 ⟨rfl, hb9, hs9⟩; have n0_ := Aside0.mk (HS.out.trans hs9); have n1_ := Aside0.mk hb9; clear HS HB hb9 hs9 hsl; have HS := n0_; have HB := n1_; clear n0_ n1_; obtain ⟨y3, hy3⟩ := HS.out.int HQ3.out; have hfr3 := (show wn2.frozen? ⟨g, i * 7 + 3, none⟩ = false from (HS.out.frozen _).trans (HF.out 3))) | ((with_reducible refine gate_store (t := 3) (p := 41) rfl ?_); refine store_event (t := 3) (p := 41) (v := ?vo_3) (w1 := (wn2.setCell ⟨g, i * 7 + 3, none⟩ (.int .i64 (bump Ln (wrap64 ((wrap64 (x1_1 + 1)) + 1)))))) ?hg_3 ?ho_3 ?hn_3 ?hr_3 ?_; (case ho_3 => rfl); (case hg_3 => rfl); (case hn_3 => rfl); (case hr_3 => first | (go_simp; done) | (go_simp; rfl)); intro wn3 hw; have n0_ := Aside0.mk (show Soft P w wn3 by rw [hw]; exact HS.out.set hy3 HP.out _); have n1_ := Aside0.mk (show Below w0.heap.size w0 wn3 by rw [hw]; exact below_set HB.out HG.out); clear HS HB hy3 hfr3 hw; have HS := n0_; have HB := n1_; clear n0_ n1_; obtain ⟨y4, hy4⟩ := HS.out.int HQ4.out; have hfr4 := (show wn3.frozen? ⟨g, i * 7 + 4, none⟩ = false from (HS.out.frozen _).trans (HF.out 4))) | ((with_reducible refine gate_store (t := 3) (p := 50) rfl ?_); refine store_event (t := 3) (p := 50) (v := ?vo_4) (w1 := (wn3.setCell ⟨g, i * 7 + 4, none⟩ (.int .i64 (wrap64 ((bump Ln (wrap64 ((wrap64 (x1_1 + 1)) + 1))) + 1))))) ?hg_4 ?ho_4 ?hn_4 ?hr_4 ?_; (case ho_4 => rfl); (case hg_4 => rfl); (case hn_4 => rfl); (case hr_4 => first | (go_simp; done) | (go_simp; rfl)); intro wn4 hw; have n0_ := Aside0.mk (show Soft P w wn4 by rw [hw]; exact HS.out.set hy4 HP.out _); have n1_ := Aside0.mk (show Below w0.heap.size w0 wn4 by rw [hw]; exact below_set HB.out HG.out); clear HS HB hy4 hfr4 hw; have HS := n0_; have HB := n1_; clear n0_ n1_; obtain ⟨y5, hy5⟩ := HS.out.int HQ5.out; have hfr5 := (show wn4.frozen? ⟨g, i * 7 + 5, none⟩ = false from (HS.out.frozen _).trans (HF.out 5))) | ((with_reducible refine gate_store (t := 3) (p := 59) rfl ?_); refine store_event (t := 3) (p := 59) (v := ?vo_5) (w1 := (wn4.setCell ⟨g, i * 7 + 5, none⟩ (.int .i64 (wrap64 ((wrap64 ((bump Ln (wrap64 ((wrap64 (x1_1 + 1)) + 1))) + 1)) + 1))))) ?hg_5 ?ho_5 ?hn_5 ?hr_5 ?_; (case ho_5 => rfl); (case hg_5 => rfl); (case hn_5 => rfl); (case hr_5 => first | (go_simp; done) | (go_simp; rfl)); intro wn5 hw; have n0_ := Aside0.mk (show Soft P w wn5 by rw [hw]; exact HS.out.set hy5 HP.out _); have n1_ := Aside0.mk (show Below w0.heap.size w0 wn5 by rw [hw]; exact below_set HB.out HG.out); clear HS HB hy5 hfr5 hw; have HS := n0_; have HB := n1_; clear n0_ n1_; obtain ⟨y6, hy6⟩ := HS.out.int HQ6.out; have hfr6 := (show wn5.frozen? ⟨g, i * 7 + 6, none⟩ = false from (HS.out.frozen _).trans (HF.out 6))) | ((with_reducible refine gate_store (t := 3) (p := 66) rfl ?_); refine store_event (t := 3) (p := 66) (v := ?vo_6) (w1 := (wn5.setCell ⟨g, i * 7 + 6, none⟩ (.int .i64 (wrap64 ((wrap64 ((wrap64 ((bump Ln (wrap64 ((wrap64 (x1_1 + 1)) + 1))) + 1)) + 1)) + 1))))) ?hg_6 ?ho_6 ?hn_6 ?hr_6 ?_; (case ho_6 => rfl); (case hg_6 => rfl); (case hn_6 => rfl); (case hr_6 => first | (go_simp; done) | (go_simp; rfl)); intro wn6 hw; have n0_ := Aside0.mk (show Soft P w wn6 by rw [hw]; exact HS.out.set hy6 HP.out _); have n1_ := Aside0.mk (show Below w0.heap.size w0 wn6 by rw [hw]; exact below_set HB.out HG.out); clear HS HB hy6 hfr6 hw; have HS := n0_; have HB := n1_; clear n0_ n1_))
      obtain ⟨k1, rfl⟩ : ∃ k1, gk = k1 + 1 := ⟨gk - 1, by omega⟩
      go_roundg k1
      case measure => omega
      case rel =>
        have ei : wrap64 ((i : Int) + 1) = ((i + 1 : Nat) : Int) := by have := HN.out; rw [wrap_id (by omega) (by omega)]; rfl
        refine ⟨wrap64 ((wrap64 ((wrap64 ((wrap64 ((bump Ln (wrap64 ((wrap64 (x1_1 + 1)) + 1))) + 1)) + 1)) + 1)) + 1), wrap64 ((i : Int) + 1), (by first | rfl | (simp; done)), (by first | rfl | (simp; done)), ⟨i + 1, ei, by omega, by omega, ?_⟩, HB, HS⟩
        rw [← hb, List.drop_eq_getElem_cons hin']
        unfold laws_markPartS.cnt
        rw [List.map_cons, List.sum_cons, ← bump_add, hLn]
        congr 1
        first | rfl | (rw [show 6 + Ln = 2 + (Ln + 4) by omega, ← bump_add, ← bump_add]; rfl)
    · have c3b0 : decide ((i : Int) < (l0.length : Int)) = false := decide_eq_false c3
      obtain rfl : i = l0.length := by omega
      have e : x1_1 = bump (laws_markPartS.cnt l0) a1 := by rw [← hb, List.drop_length]; rfl
      go_wp2
      go_ret
      exact ⟨by first | rfl | rw [e], HB.out, HS.out.kept⟩

def seqW : Nat → Int → List Int
  | 0, _ => []
  | n + 1, a => a :: seqW n (wrap64 (a + 1))
theorem seqW_length : ∀ (n : Nat) (a : Int), (seqW n a).length = n
  | 0, _ => rfl
  | n + 1, a => by rw [seqW, List.length_cons, seqW_length]
theorem markIntS_l0w : ∀ (d i : Nat) (x : List Int) (m : Int), i + d = x.length → x.length ≤ 9223372036854775807 → ∃ k, laws_markIntS.l0 k x m (i : Int) = some (bump d m, x.take i ++ seqW d m) := by
  intro d
  induction d with
  | zero =>
    intro i x m hd hl
    refine ⟨1, ?_⟩
    rw [laws_markIntS.l0, if_neg (by omega), seqW, List.append_nil, List.take_of_length_le (by omega)]
    rfl
  | succ d ih =>
    intro i x m hd hl
    obtain ⟨k, hk⟩ := ih (i + 1) (x.set i m) (wrap64 (m + 1)) (by rw [List.length_set]; omega) (by rw [List.length_set]; exact hl)
    refine ⟨k + 1, ?_⟩
    rw [laws_markIntS.l0, if_pos (by omega), if_pos (by omega), Int.toNat_natCast, show wrap64 ((i : Int) + 1) = ((i + 1 : Nat) : Int) by rw [wrap_id (by omega) (by omega)]; rfl, hk]
    rw [show (x.set i m).take (i + 1) = x.take i ++ [m] by rw [List.take_succ_eq_append_getElem (by rw [List.length_set]; omega), List.take_set_of_le (Nat.le_refl _), List.getElem_set_self], List.append_assoc]
    rfl
theorem markIntS_w (x : List Int) (m : Int) (hl : x.length ≤ 9223372036854775807) : ∃ k, laws_markIntS.f k x m = some (bump x.length m, seqW x.length m) := by
  obtain ⟨k, hk⟩ := markIntS_l0w x.length 0 x m (Nat.zero_add _) hl
  exact ⟨k, hk⟩
theorem exact_markIntS (ok : Nat → Prop) (v : Value) (l : List Int) (a1 : Int) (w0 w : World) (hB : Below w0.heap.size w0 w) (ho : Kd.R (Kd.int .i64) 3 w w0.heap.size ok v l) :
    Calls Try.prog 48 #[v, .int .i64 a1] w fun e w' => e = .returned (.int .i64 (bump l.length a1)) ∧ Below w0.heap.size w0 w' ∧ Kept w w' ok ∧ ∃ ok2, Kd.R (Kd.int .i64) 3 w' w0.heap.size ok2 v (seqW l.length a1) := by
  obtain ⟨A, c, _, _, hC⟩ := Kd.R_reads ho
  obtain ⟨k, hk⟩ := markIntS_w l a1 hC.2.1
  refine (laws_markIntS.calls k ok v l a1 _ _ w0 w hB ho hk).mono ?_
  rintro e w' ⟨rfl, h1, h2, h3⟩
  exact ⟨rfl, h2, h3, _, h1⟩
theorem getD_same {α : Type} (xs : List α) (i : Nat) (x z : α) (h : i < xs.length) : (xs.set i x).getD i z = x := by
  rw [List.getD_eq_getElem?_getD, List.getElem?_set_self h]
  rfl
theorem lend_seg {α : Type} {d : Kd α} {e g n c base : Nat} {W : World} {P : Nat → Prop} {xs : List α} {x : α} (z : α) (i : Nat) (hi : i < xs.length) (h : Kd.S d e W base P (.slice (some ⟨g, 0, none⟩) n c) (xs.set i x)) :
    ∃ oki cs, d.M W base oki x cs ∧ cs.length = d.sz ∧ (∀ j u, cs[j]? = some u → W.cell? ⟨g, i * d.sz + j, none⟩ = some u) ∧ (∀ j, W.frozen? ⟨g, i * d.sz + j, none⟩ = false) ∧ (∀ k, oki k → P k) ∧ ∀ W2 x2, Kept W W2 oki → d.M W2 base oki x2 cs → Kd.S d e W2 base P (.slice (some ⟨g, 0, none⟩) n c) (xs.set i x2) := by
  have hn := (Kd.S_reads' h).1
  rw [List.length_set] at hn
  obtain ⟨oki, cs, hcl, hM, hcc, hfr, hoki, hH⟩ := Kd.S_elem h z (i : Int) (by omega) (by omega)
  rw [Int.toNat_natCast, getD_same xs i x z hi] at hM
  refine ⟨oki, cs, hM, hcl, hcc, hfr, fun k hk => (hoki k hk).1, fun W2 x2 hk hM2 => ?_⟩
  have hs := Kd.H_back (Kd.H_step hH (fun k _ hnk hlt => hk.2 k hlt hnk)) hM2 (fun _ hk => hk)
  rw [Int.toNat_natCast, List.set_set] at hs
  exact hs
theorem put_seg {α : Type} {d : Kd α} {e g n c base : Nat} {W : World} {P : Nat → Prop} {xs : List α} {x x' : α} (z : α) (i : Nat) (hi : i < xs.length) (h : Kd.S d e W base P (.slice (some ⟨g, 0, none⟩) n c) (xs.set i x)) (j : Nat) (u : Value) (hj : j + [u].length ≤ d.sz)
    (hx : ∀ ok cs, d.M W base ok x cs → d.M W base ok x' (cs.take j ++ [u] ++ cs.drop (j + [u].length))) : Kd.S d e (W.setCell ⟨g, i * d.sz + j, none⟩ u) base P (.slice (some ⟨g, 0, none⟩) n c) (xs.set i x') := by
  have hn := (Kd.S_reads' h).1
  rw [List.length_set] at hn
  obtain ⟨oki, cs, hcl, hM, hcc, hfr, hoki, hH⟩ := Kd.S_elem h z (i : Int) (by omega) (by omega)
  rw [Int.toNat_natCast, getD_same xs i x z hi] at hM
  have hs := (Kd.S_seg (okg := fun _ => False) (Kd.H_mono hH (fun k hk => ⟨hk, fun h => h⟩)) (by omega) (by omega) (seg := [u]) hj (hx _ _ hM) (fun k hk => .inl hk) (fun _ hk => hk.elim)).1
  rw [Int.toNat_natCast, List.set_set] at hs
  exact hs
theorem list_step {α : Type} (l : List α) (pre : List α) (X : α) (h : pre.length < l.length) : (pre ++ l.drop pre.length).set pre.length X = (pre ++ [X]) ++ l.drop (pre.length + 1) := by
  rw [List.drop_eq_getElem_cons h, List.set_append_right _ _ (Nat.le_refl _), Nat.sub_self, List.set_cons_zero, List.append_assoc]
  rfl
def laws_markPartS.mk1 (x : S63) (a : Int) : S63 := (⟨(a), (⟨(wrap64 (a + 1)), (seqW x.f1.f1.length (wrap64 ((wrap64 (a + 1)) + 1))), (⟨(bump x.f1.f1.length (wrap64 ((wrap64 (a + 1)) + 1))), (wrap64 ((bump x.f1.f1.length (wrap64 ((wrap64 (a + 1)) + 1))) + 1)), (wrap64 ((wrap64 ((bump x.f1.f1.length (wrap64 ((wrap64 (a + 1)) + 1))) + 1)) + 1))⟩ : S34)⟩ : S36), (wrap64 ((wrap64 ((wrap64 ((bump x.f1.f1.length (wrap64 ((wrap64 (a + 1)) + 1))) + 1)) + 1)) + 1))⟩ : S63)
def laws_markPartS.nx (x : S63) (a : Int) : Int := wrap64 ((wrap64 ((wrap64 ((wrap64 ((bump x.f1.f1.length (wrap64 ((wrap64 (a + 1)) + 1))) + 1)) + 1)) + 1)) + 1)
def laws_markPartS.mk : List S63 → Int → List S63
  | [], _ => []
  | x :: l, a => laws_markPartS.mk1 x a :: laws_markPartS.mk l (laws_markPartS.nx x a)
theorem laws_markPartS.mk_length : ∀ (l : List S63) (a : Int), (laws_markPartS.mk l a).length = l.length
  | [], _ => rfl
  | x :: l, a => by rw [laws_markPartS.mk, List.length_cons, List.length_cons, laws_markPartS.mk_length]
theorem laws_markPartS.put0 {g n c base i : Nat} {W : World} {P : Nat → Prop} {xs : List S63} {x : S63} (hi : i < xs.length) (h : Kd.S k63 63 W base P (.slice (some ⟨g, 0, none⟩) n c) (xs.set i x)) (u : Int) : Kd.S k63 63 (W.setCell ⟨g, i * 7, none⟩ (.int .i64 u)) base P (.slice (some ⟨g, 0, none⟩) n c) (xs.set i ((⟨u, (⟨x.f1.f0, x.f1.f1, (⟨x.f1.f2.f0, x.f1.f2.f1, x.f1.f2.f2⟩ : S34)⟩ : S36), x.f2⟩ : S63))) :=
  put_seg (d := k63) z63 i hi h 0 (.int .i64 u) (by show 0 + 1 ≤ 7; omega) (fun ok cs hM => by
    obtain ⟨v5, rfl, hR⟩ := k63_openM hM
    exact k63_mkM W base ok ((⟨u, (⟨x.f1.f0, x.f1.f1, (⟨x.f1.f2.f0, x.f1.f2.f1, x.f1.f2.f2⟩ : S34)⟩ : S36), x.f2⟩ : S63)) hR)
theorem laws_markPartS.put1 {g n c base i : Nat} {W : World} {P : Nat → Prop} {xs : List S63} {x : S63} (hi : i < xs.length) (h : Kd.S k63 63 W base P (.slice (some ⟨g, 0, none⟩) n c) (xs.set i x)) (u : Int) : Kd.S k63 63 (W.setCell ⟨g, i * 7 + 1, none⟩ (.int .i64 u)) base P (.slice (some ⟨g, 0, none⟩) n c) (xs.set i ((⟨x.f0, (⟨u, x.f1.f1, (⟨x.f1.f2.f0, x.f1.f2.f1, x.f1.f2.f2⟩ : S34)⟩ : S36), x.f2⟩ : S63))) :=
  put_seg (d := k63) z63 i hi h 1 (.int .i64 u) (by show 1 + 1 ≤ 7; omega) (fun ok cs hM => by
    obtain ⟨v5, rfl, hR⟩ := k63_openM hM
    exact k63_mkM W base ok ((⟨x.f0, (⟨u, x.f1.f1, (⟨x.f1.f2.f0, x.f1.f2.f1, x.f1.f2.f2⟩ : S34)⟩ : S36), x.f2⟩ : S63)) hR)
theorem laws_markPartS.put3 {g n c base i : Nat} {W : World} {P : Nat → Prop} {xs : List S63} {x : S63} (hi : i < xs.length) (h : Kd.S k63 63 W base P (.slice (some ⟨g, 0, none⟩) n c) (xs.set i x)) (u : Int) : Kd.S k63 63 (W.setCell ⟨g, i * 7 + 3, none⟩ (.int .i64 u)) base P (.slice (some ⟨g, 0, none⟩) n c) (xs.set i ((⟨x.f0, (⟨x.f1.f0, x.f1.f1, (⟨u, x.f1.f2.f1, x.f1.f2.f2⟩ : S34)⟩ : S36), x.f2⟩ : S63))) :=
  put_seg (d := k63) z63 i hi h 3 (.int .i64 u) (by show 3 + 1 ≤ 7; omega) (fun ok cs hM => by
    obtain ⟨v5, rfl, hR⟩ := k63_openM hM
    exact k63_mkM W base ok ((⟨x.f0, (⟨x.f1.f0, x.f1.f1, (⟨u, x.f1.f2.f1, x.f1.f2.f2⟩ : S34)⟩ : S36), x.f2⟩ : S63)) hR)
theorem laws_markPartS.put4 {g n c base i : Nat} {W : World} {P : Nat → Prop} {xs : List S63} {x : S63} (hi : i < xs.length) (h : Kd.S k63 63 W base P (.slice (some ⟨g, 0, none⟩) n c) (xs.set i x)) (u : Int) : Kd.S k63 63 (W.setCell ⟨g, i * 7 + 4, none⟩ (.int .i64 u)) base P (.slice (some ⟨g, 0, none⟩) n c) (xs.set i ((⟨x.f0, (⟨x.f1.f0, x.f1.f1, (⟨x.f1.f2.f0, u, x.f1.f2.f2⟩ : S34)⟩ : S36), x.f2⟩ : S63))) :=
  put_seg (d := k63) z63 i hi h 4 (.int .i64 u) (by show 4 + 1 ≤ 7; omega) (fun ok cs hM => by
    obtain ⟨v5, rfl, hR⟩ := k63_openM hM
    exact k63_mkM W base ok ((⟨x.f0, (⟨x.f1.f0, x.f1.f1, (⟨x.f1.f2.f0, u, x.f1.f2.f2⟩ : S34)⟩ : S36), x.f2⟩ : S63)) hR)
theorem laws_markPartS.put5 {g n c base i : Nat} {W : World} {P : Nat → Prop} {xs : List S63} {x : S63} (hi : i < xs.length) (h : Kd.S k63 63 W base P (.slice (some ⟨g, 0, none⟩) n c) (xs.set i x)) (u : Int) : Kd.S k63 63 (W.setCell ⟨g, i * 7 + 5, none⟩ (.int .i64 u)) base P (.slice (some ⟨g, 0, none⟩) n c) (xs.set i ((⟨x.f0, (⟨x.f1.f0, x.f1.f1, (⟨x.f1.f2.f0, x.f1.f2.f1, u⟩ : S34)⟩ : S36), x.f2⟩ : S63))) :=
  put_seg (d := k63) z63 i hi h 5 (.int .i64 u) (by show 5 + 1 ≤ 7; omega) (fun ok cs hM => by
    obtain ⟨v5, rfl, hR⟩ := k63_openM hM
    exact k63_mkM W base ok ((⟨x.f0, (⟨x.f1.f0, x.f1.f1, (⟨x.f1.f2.f0, x.f1.f2.f1, u⟩ : S34)⟩ : S36), x.f2⟩ : S63)) hR)
theorem laws_markPartS.put6 {g n c base i : Nat} {W : World} {P : Nat → Prop} {xs : List S63} {x : S63} (hi : i < xs.length) (h : Kd.S k63 63 W base P (.slice (some ⟨g, 0, none⟩) n c) (xs.set i x)) (u : Int) : Kd.S k63 63 (W.setCell ⟨g, i * 7 + 6, none⟩ (.int .i64 u)) base P (.slice (some ⟨g, 0, none⟩) n c) (xs.set i ((⟨x.f0, (⟨x.f1.f0, x.f1.f1, (⟨x.f1.f2.f0, x.f1.f2.f1, x.f1.f2.f2⟩ : S34)⟩ : S36), u⟩ : S63))) :=
  put_seg (d := k63) z63 i hi h 6 (.int .i64 u) (by show 6 + 1 ≤ 7; omega) (fun ok cs hM => by
    obtain ⟨v5, rfl, hR⟩ := k63_openM hM
    exact k63_mkM W base ok ((⟨x.f0, (⟨x.f1.f0, x.f1.f1, (⟨x.f1.f2.f0, x.f1.f2.f1, x.f1.f2.f2⟩ : S34)⟩ : S36), u⟩ : S63)) hR)
theorem laws_markPartS.lend {g n c base i : Nat} {W : World} {P : Nat → Prop} {xs : List S63} {x : S63} (hi : i < xs.length) (h : Kd.S k63 63 W base P (.slice (some ⟨g, 0, none⟩) n c) (xs.set i x)) : ∃ (oki : Nat → Prop) (A5 : Option Addr) (c5 : Nat), W.cell? ⟨g, i * 7, none⟩ = some (.int .i64 x.f0) ∧ W.cell? ⟨g, i * 7 + 1, none⟩ = some (.int .i64 x.f1.f0) ∧ W.cell? ⟨g, i * 7 + 3, none⟩ = some (.int .i64 x.f1.f2.f0) ∧ W.cell? ⟨g, i * 7 + 4, none⟩ = some (.int .i64 x.f1.f2.f1) ∧ W.cell? ⟨g, i * 7 + 5, none⟩ = some (.int .i64 x.f1.f2.f2) ∧ W.cell? ⟨g, i * 7 + 6, none⟩ = some (.int .i64 x.f2) ∧ W.cell? ⟨g, i * 7 + 2, none⟩ = some (.slice A5 x.f1.f1.length c5) ∧ Kd.R (Kd.int .i64) 3 W base oki (.slice A5 x.f1.f1.length c5) x.f1.f1 ∧ (∀ j, W.frozen? ⟨g, i * 7 + j, none⟩ = false) ∧ (∀ k, oki k → P k) ∧ ∀ W2 b2 ok2, Kept W W2 oki → Kd.R (Kd.int .i64) 3 W2 base ok2 (.slice A5 x.f1.f1.length c5) b2 → Kd.S k63 63 W2 base P (.slice (some ⟨g, 0, none⟩) n c) (xs.set i ((⟨x.f0, (⟨x.f1.f0, b2, (⟨x.f1.f2.f0, x.f1.f2.f1, x.f1.f2.f2⟩ : S34)⟩ : S36), x.f2⟩ : S63))) := by
  obtain ⟨oki, cs, hM, hcl, hcc, hfr, hok, hback⟩ := lend_seg z63 i hi h
  obtain ⟨v5, rfl, hR⟩ := k63_openM hM
  obtain ⟨A5, c5, rfl⟩ := Kd.R_slice hR
  exact ⟨oki, A5, c5, hcc 0 _ rfl, hcc 1 _ rfl, hcc 3 _ rfl, hcc 4 _ rfl, hcc 5 _ rfl, hcc 6 _ rfl, hcc 2 _ rfl, hR, hfr, hok, fun W2 b2 ok2 hk hR2 => hback W2 _ hk (k63_mkM W2 base oki ((⟨x.f0, (⟨x.f1.f0, b2, (⟨x.f1.f2.f0, x.f1.f2.f1, x.f1.f2.f2⟩ : S34)⟩ : S36), x.f2⟩ : S63)) (Kd.R_reok rfl hR2 hR.1))⟩
set_option maxHeartbeats 8000000 in
set_option maxRecDepth 100000 in
theorem laws_markPartS.exact (P : Nat → Prop) (A : Option Addr) (c : Nat) (l0 : List (S63)) (a1 : Int) (r : Int) (w0 w : World) (hB : Below w0.heap.size w0 w) (ho : Kd.S k63 63 w w0.heap.size P (.slice A l0.length c) l0) (h : laws_markPartS.f l0 a1 = some r) :
    Calls Try.prog 14 #[.slice A l0.length c, .int .i64 a1] w fun e w' => e = .returned (.int .i64 r) ∧ Below w0.heap.size w0 w' ∧ Kept w w' P ∧ Kd.S k63 63 w' w0.heap.size P (.slice A l0.length c) (laws_markPartS.mk l0 a1) := by
  have hu63 := Try.underlying63
  have hu36 := Try.underlying36
  have hu34 := Try.underlying34
  obtain rfl := Option.some.inj h
  clear h
  have HN := Aside0.mk (Kd.S_reads' ho).2.2.2.1
  have HF := Aside0.mk (fun hp => Kd.S_form ho hp)
  have HO := Aside0.mk (ho.imp fun f hf => hf.1)
  have HB := Aside0.mk hB
  have HL := Aside0.mk (show ∃ cur pre, Kd.S k63 63 w w0.heap.size P (.slice A l0.length c) cur ∧ pre.length = 0 ∧ cur = pre ++ l0.drop 0 ∧ pre ++ laws_markPartS.mk (l0.drop 0) a1 = laws_markPartS.mk l0 a1 from ⟨l0, [], ho, rfl, rfl, rfl⟩)
  have HK := Aside0.mk (Kept.refl w P)
  clear hB ho
  go_enter Try.func14, Try.ntmps14
  go_wp2
  go_loopg [1, 5] (l0.length + 1) (fun kq v1 v5 w' => ∃ (x1_1 : Int) (x5_1 : Int), v1 = .int .i64 x1_1 ∧ v5 = .int .i64 x5_1 ∧ Aside0 (∃ i : Nat, x5_1 = (i : Int) ∧ i ≤ l0.length ∧ l0.length + 1 ≤ i + kq ∧ bump (laws_markPartS.cnt (l0.drop i)) x1_1 = bump (laws_markPartS.cnt l0) a1 ∧ ∃ cur pre, Kd.S k63 63 w' w0.heap.size P (.slice A l0.length c) cur ∧ pre.length = i ∧ cur = pre ++ l0.drop i ∧ pre ++ laws_markPartS.mk (l0.drop i) x1_1 = laws_markPartS.mk l0 a1) ∧ Aside0 (Below w0.heap.size w0 w') ∧ Aside0 (Kept w w' P))
  case atStart => exact ⟨a1, 0, (by first | rfl | (simp; done)), (by first | rfl | (simp; done)), ⟨0, rfl, Nat.zero_le _, by omega, rfl, HL.out⟩, ⟨by repeat (first | exact HB.out | apply below_alloc | apply pw_below_drewN | apply below_drew1)⟩, ⟨HK.out⟩⟩
  case round =>
    clear HK HB HL
    try clear p2
    obtain ⟨x1_1, x5_1, rfl, rfl, HI, HB, HK⟩ := hrel
    obtain ⟨i, rfl, hin, hk, hb, cur, pre, hS0, hpl, hcur, hmk⟩ := HI.out
    clear HI
    have hcl : cur.length = l0.length := by rw [hcur, List.length_append, List.length_drop]; omega
    by_cases c3 : (i : Int) < (l0.length : Int)
    · have c3b0 : decide ((i : Int) < (l0.length : Int)) = true := decide_eq_true c3
      have hin' : i < l0.length := by omega
      have hic : i < cur.length := by omega
      obtain ⟨g, cap0, he0, hg0, _, _⟩ := HF.out (by omega)
      injection he0 with hA0 hN0 hC0
      clear hN0 hC0
      subst hA0
      have HP := Aside0.mk (show P g from by obtain ⟨f, hf⟩ := hS0; exact hf.1 g rfl)
      have HG := Aside0.mk hg0
      obtain ⟨x0, hx0⟩ : ∃ x0, x0 = l0[i] := ⟨_, rfl⟩
      have hci : cur[i] = x0 := by
        have h1 : cur[i]? = some l0[i] := by rw [hcur, List.getElem?_append_right (by omega), show i - pre.length = 0 by omega, List.getElem?_drop, Nat.add_zero, List.getElem?_eq_getElem hin']
        rw [List.getElem?_eq_getElem hic] at h1
        rw [hx0]
        exact Option.some.inj h1
      have HI0 := Aside0.mk hic
      have HS := Aside0.mk (show Kd.S k63 63 wr w0.heap.size P (.slice (some ⟨g, 0, none⟩) l0.length c) (cur.set i x0) by rw [← hci, List.set_getElem_self]; exact hS0)
      have HX := Aside0.mk (And.intro hk (And.intro hb (And.intro hpl (And.intro hcur (And.intro hmk (And.intro hx0 (And.intro hin' hcl)))))))
      clear hS0 hg0 hci hk hb hpl hcur hmk hx0 hic hcl
      have p5 : 0 ≤ ((i : Nat) : Int) := by omega
      have q5 : ((i : Nat) : Int) < ((l0.length : Nat) : Int) := c3
      replace p5 := eq_true p5
      replace q5 := eq_true q5
      obtain ⟨oki0, A5_0, c5_0, hq0_0, hq1_0, hq3_0, hq4_0, hq5_0, hq6_0, hsl0, hR0, hfa0, hok0, hbk0⟩ := laws_markPartS.lend HI0.out HS.out
      have hy0 := (show wr.cell? ⟨g, i * 7, none⟩ = some (.int .i64 _) from hq0_0)
      have hfr0 := (show wr.frozen? ⟨g, i * 7, none⟩ = false from hfa0 0)
      clear hq0_0 hq1_0 hq3_0 hq4_0 hq5_0 hq6_0 hsl0 hR0 hfa0 hok0 hbk0
      go_wp2_with (first | ((with_reducible refine gate_store (t := 3) (p := 16) rfl ?_); refine store_event (t := 3) (p := 16) (v := ?vo_0) (w1 := (wr.setCell ⟨g, i * 7, none⟩ (.int .i64 (x1_1)))) ?hg_0 ?ho_0 ?hn_0 ?hr_0 ?_; (case ho_0 => rfl); (case hg_0 => rfl); (case hn_0 => rfl); (case hr_0 => first | (go_simp; done) | (go_simp; rfl)); intro wn0 hw; have n0_ := Aside0.mk (show Kd.S k63 63 wn0 w0.heap.size P (.slice (some ⟨g, 0, none⟩) l0.length c) (cur.set i ((⟨(x1_1), (⟨(x0.f1.f0), (x0.f1.f1), (⟨(x0.f1.f2.f0), (x0.f1.f2.f1), (x0.f1.f2.f2)⟩ : S34)⟩ : S36), (x0.f2)⟩ : S63))) by rw [hw]; exact laws_markPartS.put0 HI0.out HS.out _); have n1_ := Aside0.mk (show Below w0.heap.size w0 wn0 by rw [hw]; exact below_set HB.out HG.out); have n2_ := Aside0.mk (show Kept w wn0 P by rw [hw]; exact Kept.setCell HK.out (.inl HP.out) _); clear HS HB HK hy0 hfr0 hw; have HS := n0_; have HB := n1_; have HK := n2_; clear n0_ n1_ n2_; obtain ⟨oki1, A5_1, c5_1, hq0_1, hq1_1, hq3_1, hq4_1, hq5_1, hq6_1, hsl1, hR1, hfa1, hok1, hbk1⟩ := laws_markPartS.lend HI0.out HS.out; have hy1 := (show wn0.cell? ⟨g, i * 7 + 1, none⟩ = some (.int .i64 _) from hq1_1); have hfr1 := (show wn0.frozen? ⟨g, i * 7 + 1, none⟩ = false from hfa1 1); clear hq0_1 hq1_1 hq3_1 hq4_1 hq5_1 hq6_1 hsl1 hR1 hfa1 hok1 hbk1) | ((with_reducible refine gate_store (t := 3) (p := 24) rfl ?_); refine store_event (t := 3) (p := 24) (v := ?vo_1) (w1 := (wn0.setCell ⟨g, i * 7 + 1, none⟩ (.int .i64 (wrap64 (x1_1 + 1))))) ?hg_1 ?ho_1 ?hn_1 ?hr_1 ?_; (case ho_1 => rfl); (case hg_1 => rfl); (case hn_1 => rfl); (case hr_1 => first | (go_simp; done) | (go_simp; rfl)); intro wn1 hw; have n0_ := Aside0.mk (show Kd.S k63 63 wn1 w0.heap.size P (.slice (some ⟨g, 0, none⟩) l0.length c) (cur.set i ((⟨(x1_1), (⟨(wrap64 (x1_1 + 1)), (x0.f1.f1), (⟨(x0.f1.f2.f0), (x0.f1.f2.f1), (x0.f1.f2.f2)⟩ : S34)⟩ : S36), (x0.f2)⟩ : S63))) by rw [hw]; exact laws_markPartS.put1 HI0.out HS.out _); have n1_ := Aside0.mk (show Below w0.heap.size w0 wn1 by rw [hw]; exact below_set HB.out HG.out); have n2_ := Aside0.mk (show Kept w wn1 P by rw [hw]; exact Kept.setCell HK.out (.inl HP.out) _); clear HS HB HK hy1 hfr1 hw; have HS := n0_; have HB := n1_; have HK := n2_; clear n0_ n1_ n2_; obtain ⟨oki2, A5_2, c5_2, hq0_2, hq1_2, hq3_2, hq4_2, hq5_2, hq6_2, hsl2, hR2, hfa2, hok2, hbk2⟩ := laws_markPartS.lend HI0.out HS.out; have hsl := (show wn1.cell? ⟨g, i * 7 + 2, none⟩ = some (.slice A5_2 x0.f1.f1.length c5_2) from hsl2); have HR5 := Aside0.mk (show Kd.R (Kd.int .i64) 3 wn1 w0.heap.size oki2 (.slice A5_2 x0.f1.f1.length c5_2) x0.f1.f1 from hR2); have HBK := Aside0.mk hbk2; have HOK := Aside0.mk hok2; clear hq0_2 hq1_2 hq3_2 hq4_2 hq5_2 hq6_2 hsl2 hR2 hfa2 hok2 hbk2) | (go_at_call 48; refine (exact_markIntS oki2 (.slice A5_2 x0.f1.f1.length c5_2) x0.f1.f1 (wrap64 ((wrap64 (x1_1 + 1)) + 1)) w0 _ HB.out HR5.out).mono ?_; rintro e wn2 ⟨rfl, hb9, hs9, ok9, hr9⟩; have n0_ := Aside0.mk (show Kd.S k63 63 wn2 w0.heap.size P (.slice (some ⟨g, 0, none⟩) l0.length c) (cur.set i ((⟨(x1_1), (⟨(wrap64 (x1_1 + 1)), (seqW x0.f1.f1.length (wrap64 ((wrap64 (x1_1 + 1)) + 1))), (⟨(x0.f1.f2.f0), (x0.f1.f2.f1), (x0.f1.f2.f2)⟩ : S34)⟩ : S36), (x0.f2)⟩ : S63))) from HBK.out _ _ _ hs9 hr9); have n1_ := Aside0.mk hb9; have n2_ := Aside0.mk (HK.out.then_ hs9 (fun k hk => .inl (HOK.out k hk))); clear HS HB HK hb9 hs9 hr9 hsl HBK HOK HR5; have HS := n0_; have HB := n1_; have HK := n2_; clear n0_ n1_ n2_; obtain ⟨oki3, A5_3, c5_3, hq0_3, hq1_3, hq3_3, hq4_3, hq5_3, hq6_3, hsl3, hR3, hfa3, hok3, hbk3⟩ := laws_markPartS.lend HI0.out HS.out; have hy3 := (show wn2.cell? ⟨g, i * 7 + 3, none⟩ = some (.int .i64 _) from hq3_3); have hfr3 := (show wn2.frozen? ⟨g, i * 7 + 3, none⟩ = false from hfa3 3); clear hq0_3 hq1_3 hq3_3 hq4_3 hq5_3 hq6_3 hsl3 hR3 hfa3 hok3 hbk3) | ((with_reducible refine gate_store (t := 3) (p := 41) rfl ?_); refine store_event (t := 3) (p := 41) (v := ?vo_3) (w1 := (wn2.setCell ⟨g, i * 7 + 3, none⟩ (.int .i64 (bump x0.f1.f1.length (wrap64 ((wrap64 (x1_1 + 1)) + 1)))))) ?hg_3 ?ho_3 ?hn_3 ?hr_3 ?_; (case ho_3 => rfl); (case hg_3 => rfl); (case hn_3 => rfl); (case hr_3 => first | (go_simp; done) | (go_simp; rfl)); intro wn3 hw; have n0_ := Aside0.mk (show Kd.S k63 63 wn3 w0.heap.size P (.slice (some ⟨g, 0, none⟩) l0.length c) (cur.set i ((⟨(x1_1), (⟨(wrap64 (x1_1 + 1)), (seqW x0.f1.f1.length (wrap64 ((wrap64 (x1_1 + 1)) + 1))), (⟨(bump x0.f1.f1.length (wrap64 ((wrap64 (x1_1 + 1)) + 1))), (x0.f1.f2.f1), (x0.f1.f2.f2)⟩ : S34)⟩ : S36), (x0.f2)⟩ : S63))) by rw [hw]; exact laws_markPartS.put3 HI0.out HS.out _); have n1_ := Aside0.mk (show Below w0.heap.size w0 wn3 by rw [hw]; exact below_set HB.out HG.out); have n2_ := Aside0.mk (show Kept w wn3 P by rw [hw]; exact Kept.setCell HK.out (.inl HP.out) _); clear HS HB HK hy3 hfr3 hw; have HS := n0_; have HB := n1_; have HK := n2_; clear n0_ n1_ n2_; obtain ⟨oki4, A5_4, c5_4, hq0_4, hq1_4, hq3_4, hq4_4, hq5_4, hq6_4, hsl4, hR4, hfa4, hok4, hbk4⟩ := laws_markPartS.lend HI0.out HS.out; have hy4 := (show wn3.cell? ⟨g, i * 7 + 4, none⟩ = some (.int .i64 _) from hq4_4); have hfr4 := (show wn3.frozen? ⟨g, i * 7 + 4, none⟩ = false from hfa4 4); clear hq0_4 hq1_4 hq3_4 hq4_4 hq5_4 hq6_4 hsl4 hR4 hfa4 hok4 hbk4) | ((with_reducible refine gate_store (t := 3) (p := 50) rfl ?_); refine store_event (t := 3) (p := 50) (v := ?vo_4) (w1 := (wn3.setCell ⟨g, i * 7 + 4, none⟩ (.int .i64 (wrap64 ((bump x0.f1.f1.length (wrap64 ((wrap64 (x1_1 + 1)) + 1))) + 1))))) ?hg_4 ?ho_4 ?hn_4 ?hr_4 ?_; (case ho_4 => rfl); (case hg_4 => rfl); (case hn_4 => rfl); (case hr_4 => first | (go_simp; done) | (go_simp; rfl)); intro wn4 hw; have n0_ := Aside0.mk (show Kd.S k63 63 wn4 w0.heap.size P (.slice (some ⟨g, 0, none⟩) l0.length c) (cur.set i ((⟨(x1_1), (⟨(wrap64 (x1_1 + 1)), (seqW x0.f1.f1.length (wrap64 ((wrap64 (x1_1 + 1)) + 1))), (⟨(bump x0.f1.f1.length (wrap64 ((wrap64 (x1_1 + 1)) + 1))), (wrap64 ((bump x0.f1.f1.length (wrap64 ((wrap64 (x1_1 + 1)) + 1))) + 1)), (x0.f1.f2.f2)⟩ : S34)⟩ : S36), (x0.f2)⟩ : S63))) by rw [hw]; exact laws_markPartS.put4 HI0.out HS.out _); have n1_ := Aside0.mk (show Below w0.heap.size w0 wn4 by rw [hw]; exact below_set HB.out HG.out); have n2_ := Aside0.mk (show Kept w wn4 P by rw [hw]; exact Kept.setCell HK.out (.inl HP.out) _); clear HS HB HK hy4 hfr4 hw; have HS := n0_; have HB := n1_; have HK := n2_; clear n0_ n1_ n2_; obtain ⟨oki5, A5_5, c5_5, hq0_5, hq1_5, hq3_5, hq4_5, hq5_5, hq6_5, hsl5, hR5, hfa5, hok5, hbk5⟩ := laws_markPartS.lend HI0.out HS.out; have hy5 := (show wn4.cell? ⟨g, i * 7 + 5, none⟩ = some (.int .i64 _) from hq5_5); have hfr5 := (show wn4.frozen? ⟨g, i * 7 + 5, none⟩ = false from hfa5 5); clear hq0_5 hq1_5 hq3_5 hq4_5 hq5_5 hq6_5 hsl5 hR5 hfa5 hok5 hbk5) | ((with_reducible refine gate_store (t := 3) (p := 59) rfl ?_); refine store_event (t := 3) (p := 59) (v := ?vo_5) (w1 := (wn4.setCell ⟨g, i * 7 + 5, none⟩ (.int .i64 (wrap64 ((wrap64 ((bump x0.f1.f1.length (wrap64 ((wrap64 (x1_1 + 1)) + 1))) + 1)) + 1))))) ?hg_5 ?ho_5 ?hn_5 ?hr_5 ?_; (case ho_5 => rfl); (case hg_5 => rfl); (case hn_5 => rfl); (case hr_5 => first | (go_simp; done) | (go_simp; rfl)); intro wn5 hw; have n0_ := Aside0.mk (show Kd.S k63 63 wn5 w0.heap.size P (.slice (some ⟨g, 0, none⟩) l0.length c) (cur.set i ((⟨(x1_1), (⟨(wrap64 (x1_1 + 1)), (seqW x0.f1.f1.length (wrap64 ((wrap64 (x1_1 + 1)) + 1))), (⟨(bump x0.f1.f1.length (wrap64 ((wrap64 (x1_1 + 1)) + 1))), (wrap64 ((bump x0.f1.f1.length (wrap64 ((wrap64 (x1_1 + 1)) + 1))) + 1)), (wrap64 ((wrap64 ((bump x0.f1.f1.length (wrap64 ((wrap64 (x1_1 + 1)) + 1))) + 1)) + 1))⟩ : S34)⟩ : S36), (x0.f2)⟩ : S63))) by rw [hw]; exact laws_markPartS.put5 HI0.out HS.out _); have n1_ := Aside0.mk (show Below w0.heap.size w0 wn5 by rw [hw]; exact below_set HB.out HG.out); have n2_ := Aside0.mk (show Kept w wn5 P by rw [hw]; exact Kept.setCell HK.out (.inl HP.out) _); clear HS HB HK hy5 hfr5 hw; have HS := n0_; have HB := n1_; have HK := n2_; clear n0_ n1_ n2_; obtain ⟨oki6, A5_6, c5_6, hq0_6, hq1_6, hq3_6, hq4_6, hq5_6, hq6_6, hsl6, hR6, hfa6, hok6, hbk6⟩ := laws_markPartS.lend HI0.out HS.out; have hy6 := (show wn5.cell? ⟨g, i * 7 + 6, none⟩ = some (.int .i64 _) from hq6_6); have hfr6 := (show wn5.frozen? ⟨g, i * 7 + 6, none⟩ = false from hfa6 6); clear hq0_6 hq1_6 hq3_6 hq4_6 hq5_6 hq6_6 hsl6 hR6 hfa6 hok6 hbk6) | ((with_reducible refine gate_store (t := 3) (p := 66) rfl ?_); refine store_event (t := 3) (p := 66) (v := ?vo_6) (w1 := (wn5.setCell ⟨g, i * 7 + 6, none⟩ (.int .i64 (wrap64 ((wrap64 ((wrap64 ((bump x0.f1.f1.length (wrap64 ((wrap64 (x1_1 + 1)) + 1))) + 1)) + 1)) + 1))))) ?hg_6 ?ho_6 ?hn_6 ?hr_6 ?_; (case ho_6 => rfl); (case hg_6 => rfl); (case hn_6 => rfl); (case hr_6 => first | (go_simp; done) | (go_simp; rfl)); intro wn6 hw; have n0_ := Aside0.mk (show Kd.S k63 63 wn6 w0.heap.size P (.slice (some ⟨g, 0, none⟩) l0.length c) (cur.set i ((⟨(x1_1), (⟨(wrap64 (x1_1 + 1)), (seqW x0.f1.f1.length (wrap64 ((wrap64 (x1_1 + 1)) + 1))), (⟨(bump x0.f1.f1.length (wrap64 ((wrap64 (x1_1 + 1)) + 1))), (wrap64 ((bump x0.f1.f1.length (wrap64 ((wrap64 (x1_1 + 1)) + 1))) + 1)), (wrap64 ((wrap64 ((bump x0.f1.f1.length (wrap64 ((wrap64 (x1_1 + 1)) + 1))) + 1)) + 1))⟩ : S34)⟩ : S36), (wrap64 ((wrap64 ((wrap64 ((bump x0.f1.f1.length (wrap64 ((wrap64 (x1_1 + 1)) + 1))) + 1)) + 1)) + 1))⟩ : S63))) by rw [hw]; exact laws_markPartS.put6 HI0.out HS.out _); have n1_ := Aside0.mk (show Below w0.heap.size w0 wn6 by rw [hw]; exact below_set HB.out HG.out); have n2_ := Aside0.mk (show Kept w wn6 P by rw [hw]; exact Kept.setCell HK.out (.inl HP.out) _); clear HS HB HK hy6 hfr6 hw; have HS := n0_; have HB := n1_; have HK := n2_; clear n0_ n1_ n2_))
      obtain ⟨k1, rfl⟩ : ∃ k1, gk = k1 + 1 := ⟨gk - 1, by have := HX.out.1; omega⟩
      go_roundg k1
      case measure => omega
      case rel =>
        have ei : wrap64 ((i : Int) + 1) = ((i + 1 : Nat) : Int) := by have := HN.out; rw [wrap_id (by omega) (by omega)]; rfl
        obtain ⟨hk, hb, hpl, hcur, hmk, hx0, hin', hcl⟩ := HX.out
        refine ⟨wrap64 ((wrap64 ((wrap64 ((wrap64 ((bump x0.f1.f1.length (wrap64 ((wrap64 (x1_1 + 1)) + 1))) + 1)) + 1)) + 1)) + 1), wrap64 ((i : Int) + 1), (by first | rfl | (simp; done)), (by first | rfl | (simp; done)), ⟨i + 1, ei, by omega, by omega, ?_, cur.set i (laws_markPartS.mk1 x0 x1_1), pre ++ [laws_markPartS.mk1 x0 x1_1], HS.out, by rw [List.length_append, hpl]; rfl, ?_, ?_⟩, HB, HK⟩
        · rw [← hb, List.drop_eq_getElem_cons hin', ← hx0]
          unfold laws_markPartS.cnt
          rw [List.map_cons, List.sum_cons, ← bump_add]
          congr 1
          first | rfl | (rw [show 6 + x0.f1.f1.length = 2 + (x0.f1.f1.length + 4) by omega, ← bump_add, ← bump_add]; rfl)
        · rw [hcur, ← hpl]
          exact list_step l0 pre _ (by omega)
        · rw [← hmk, List.drop_eq_getElem_cons hin', ← hx0, List.append_assoc]
          rfl
    · have c3b0 : decide ((i : Int) < (l0.length : Int)) = false := decide_eq_false c3
      obtain rfl : i = l0.length := by omega
      have e : x1_1 = bump (laws_markPartS.cnt l0) a1 := by rw [← hb, List.drop_length]; rfl
      have HS := Aside0.mk (show Kd.S k63 63 wr w0.heap.size P (.slice A l0.length c) (laws_markPartS.mk l0 a1) by rw [← hmk, show pre ++ laws_markPartS.mk (l0.drop l0.length) x1_1 = cur by rw [hcur, List.drop_length]; rfl]; exact hS0)
      clear hS0
      go_wp2
      go_ret
      exact ⟨by first | rfl | rw [e], HB.out, HK.out, HS.out⟩


/-! ### laws_markResource: function 15 -/
def laws_markResource.f (k : Nat) (a0_0 : Int) (l0_1 : List Int) (a0_2 : Int) (a0_3 : Int) (a0_4 : Int) (a1 : Int) : Option (Int × List Int) := (laws_markIntS.f k l0_1 a1).bind fun bt367 => (some (bt367.1, bt367.2))
theorem laws_markResource.mono : ∀ a0 a1 a2 a3 a4 a5 k, LeO (laws_markResource.f k a0 a1 a2 a3 a4 a5) (laws_markResource.f (k + 1) a0 a1 a2 a3 a4 a5) := by
  intro a0 a1 a2 a3 a4 a5 k
  unfold laws_markResource.f
  repeat' first
      | (with_reducible exact laws_markIntS.mono _ _ _)
      | (with_reducible exact LeO.refl _)
      | (with_reducible exact LeO.none _)
      | (with_reducible refine LeO.ite ?_ ?_)
      | (with_reducible refine LeO.bind ?_ (fun _ => ?_))
      | exact laws_markIntS.mono _ _ _
      | exact LeO.none _
      | refine LeO.ite ?_ ?_
      | refine LeO.bind ?_ (fun _ => ?_)
set_option maxHeartbeats 8000000 in
set_option maxRecDepth 100000 in
theorem laws_markResource.calls (k : Nat) (a0_0 : Int) (P0_1_ : Nat → Prop) (u9000_ : Value) (l0_1 : List Int) (a0_2 : Int) (a0_3 : Int) (a0_4 : Int) (a1 : Int) (r1 : Int) (r2 : List Int) (w0 w : World) (hB : Below w0.heap.size w0 w) (ho0_1 : Kd.R (Kd.int .i64) 3 w w0.heap.size P0_1_ u9000_ l0_1) (h : laws_markResource.f k a0_0 l0_1 a0_2 a0_3 a0_4 a1 = some (r1, r2)) :
    Calls Try.prog 15 #[.agg #[.int .i64 a0_0, u9000_, .int .i64 a0_2, .int .i64 a0_3, .int .i64 a0_4], .int .i64 a1] w fun e w' => e = .returned (.int .i64 r1) ∧ Kd.R (Kd.int .i64) 3 w' w0.heap.size (fun k_ => (P0_1_ k_ ∨ w.heap.size ≤ k_)) u9000_ r2 ∧ Below w0.heap.size w0 w' ∧ Kept w w' (fun k_ => P0_1_ k_) := by
  have hu36 := Try.underlying36
  have HO0_1 := Aside0.mk (show Kd.R (Kd.int .i64) 3 w w0.heap.size (fun k_ => (P0_1_ k_ ∨ w.heap.size ≤ k_)) u9000_ l0_1 from Kd.R_mono ho0_1 (fun k_ hk => (.inl hk)))
  have HK := Aside0.mk (Kept.refl w (fun k_ => P0_1_ k_))
  have HW0 := Aside0.mk hB.size
  have HB := Aside0.mk hB
  clear hB
  have H : ((laws_markIntS.f k l0_1 a1).bind fun bt367 => (some (bt367.1, bt367.2))) = some (r1, r2) := h
  clear h
  replace H := Option.bind_eq_some_iff.mp H
  obtain ⟨⟨t367, t368⟩, A30, H⟩ := H
  replace H : (some (t367, t368)) = some (r1, r2) := H
  have A3 := Aside0.mk A30
  clear A30
  simp only [Option.some.injEq, Prod.mk.injEq] at H
  obtain ⟨rfl, rfl⟩ := H
  obtain ⟨Ao4, co4, eo4⟩ := Kd.R_slice HO0_1.out
  subst eo4
  go_enter Try.func15, Try.ntmps15
  go_wp2_with (first | ((with_reducible refine gate_dst (N := 2) rfl ?_); refine box_event ?hg (N := 2) ?hd (cs := #[.int .i64 a0_0, .slice Ao4 l0_1.length co4, .int .i64 a0_2, .int .i64 a0_3, .int .i64 a0_4]) (t := 36) ?hr ?_; (case hd => rfl); (case hg => rfl); (case hr => first | (go_simp; done) | (go_simp; rfl)); intro gb366 hg w5 hbox hb; have n0_ := Aside0.mk (Kd.R_below (by (with_reducible repeat (first | apply Kd.R_alloc | apply Kd.R_drewN | apply Kd.R_drew)); exact HO0_1.out) hb); have n1_ := Aside0.mk (Kept.below (S := (fun k_ => P0_1_ k_)) (by repeat (first | (with_reducible first | exact HK.out | apply Kept.alloc | apply Kept.drewN | apply Kept.drew) | exact HK.out)) hb); have n2_ := Aside0.mk (below_step (by repeat (first | (with_reducible first | exact HB.out | apply below_alloc | apply pw_below_drewN | apply below_drew1) | exact HB.out)) hb); have n3_ := Aside0.mk (hbox); have n4_ := Aside0.mk ((by rw [hg]; exact (by first | exact HK.out.1 | exact (show Kept w _ (fun k_ => P0_1_ k_) from by repeat (first | (with_reducible first | exact HK.out | apply Kept.alloc | apply Kept.drewN | apply Kept.drew) | exact HK.out)).1) : w.heap.size ≤ gb366)); have n5_ := Aside0.mk ((by rw [hg]; exact (below_size (by repeat (first | (with_reducible first | exact HB.out | apply below_alloc | apply pw_below_drewN | apply below_drew1) | exact HB.out))) : w0.heap.size ≤ gb366)); clear HO0_1; clear HK; clear HB; have HO0_1 := n0_; have HK := n1_; have HB := n2_; have BK366 := n3_; have GW366 := n4_; have GE366 := n5_; clear n0_ n1_ n2_ n3_ n4_ n5_; clear hb hbox hg; have hcz6_0 : w5.cell? ⟨gb366, 0, none⟩ = some (.int .i64 a0_0) := (blk_cell BK366.out 0).trans rfl; have hcz6_1 : w5.cell? ⟨gb366, 1, none⟩ = some (.slice Ao4 l0_1.length co4) := (blk_cell BK366.out 1).trans rfl; have hcz6_2 : w5.cell? ⟨gb366, 2, none⟩ = some (.int .i64 a0_2) := (blk_cell BK366.out 2).trans rfl; have hcz6_3 : w5.cell? ⟨gb366, 3, none⟩ = some (.int .i64 a0_3) := (blk_cell BK366.out 3).trans rfl; have hcz6_4 : w5.cell? ⟨gb366, 4, none⟩ = some (.int .i64 a0_4) := (blk_cell BK366.out 4).trans rfl; have hfz6_0 := blk_frozen BK366.out 0; have hfz6_1 := blk_frozen BK366.out 1; have hfz6_2 := blk_frozen BK366.out 2; have hfz6_3 := blk_frozen BK366.out 3; have hfz6_4 := blk_frozen BK366.out 4) | ((with_reducible refine gate_callee (f := 48) rfl ?_); refine goesL_ (some 8) rfl rfl Try.func48 (by kernel_rfl) rfl #[.slice Ao4 l0_1.length co4, .int .i64 a1] rfl (by (try simp only [List.map_toArray, List.map_cons, List.map_nil]); first | done | rfl | (simp only [List.length_drop, List.length_take]; rfl)) ?_; (with_reducible refine (laws_markIntS.calls k (fun k_ => some k_ = (.slice Ao4 l0_1.length co4 : Value).ownBlock) (.slice Ao4 l0_1.length co4) l0_1 a1 t367 t368 w0 _ ?side1 ?side2 A3.out).mono ?_); (case side1 => repeat (first | (with_reducible first | exact HB.out | apply below_alloc | apply pw_below_drewN | apply below_drew1 | refine below_set ?_ GE366.out) | exact HB.out)); (case side2 => exact Kd.R_tight rfl HO0_1.out); rintro e w7 ⟨rfl, hy0, hb, hkp⟩; refine ⟨_, rfl, ?_⟩; have n0_ := Aside0.mk (Kd.R_reok rfl hy0 (fun k_ e_ => HO0_1.out.1 k_ e_)); have n1_ := Aside0.mk (blk_kept (by (with_reducible repeat (first | refine blk_drewN ?_ _ | refine blk_drew ?_ | refine blk_alloc ?_ _)); exact BK366.out) hkp (fun hs_ => (fun e_ => (Kd.R_ne HO0_1.out BK366.out (by decide)) e_) hs_)); have n2_ := Aside0.mk (Kept.then_ (S := (fun k_ => P0_1_ k_)) (by repeat (first | (with_reducible first | exact HK.out | apply Kept.alloc | apply Kept.drewN | apply Kept.drew | refine Kept.setCell ?_ (.inr GW366.out) _) | exact HK.out)) hkp (fun k_ hs_ => (fun e_ => (HO0_1.out.1 k_ e_.symm)) hs_)); have n3_ := Aside0.mk (hb); clear HO0_1; clear BK366; clear HK; clear HB; have HO0_1 := n0_; have BK366 := n1_; have HK := n2_; have HB := n3_; clear n0_ n1_ n2_ n3_; (try clear hb); (try clear hkp); (try clear hy0)))
  go_ret
  exact ⟨by first | rfl | (simp [errW_none, errW_some] <;> rfl) | (simp [*, errW_none, errW_some] <;> rfl), by (with_reducible repeat (first | apply Kd.R_alloc | apply Kd.R_drewN | apply Kd.R_drew)); exact HO0_1.out, by repeat (first | (with_reducible first | exact HB.out | apply below_alloc | apply pw_below_drewN | apply below_drew1 | refine below_set ?_ GE366.out) | exact HB.out), by repeat (first | (with_reducible first | exact HK.out | apply Kept.alloc | apply Kept.drewN | apply Kept.drew | refine Kept.setCell ?_ (.inr GW366.out) _) | exact HK.out)⟩

/-! ### laws_heldIntS: function 49 -/
def laws_heldIntS.l0 : Nat → List Int → Int → Int → Option (Int)
  | 0, _, _, _ => none
  | k + 1, x0, x1, x5 => if x5 < (x0.length : Int) then (if 0 ≤ x5 then (if (rd x0 x5) = x1 then (laws_heldIntS.l0 k x0 (wrap64 (x1 + 1)) (wrap64 (x5 + 1))) else (some (-1))) else (none)) else (some x1)
def laws_heldIntS.f (k : Nat) (l0 : List Int) (a1 : Int) : Option (Int) := laws_heldIntS.l0 k l0 a1 0
theorem laws_heldIntS.mono_l : ∀ k, (∀ y0 y1 y2, LeO (laws_heldIntS.l0 k y0 y1 y2) (laws_heldIntS.l0 (k + 1) y0 y1 y2))
  | 0 => fun _ _ _ r h => by simp [laws_heldIntS.l0] at h
  | k + 1 => by
    have ih0 := laws_heldIntS.mono_l k
    · intro y0 y1 y2
      unfold laws_heldIntS.l0
      repeat' first
      | (with_reducible exact ih0 _ _ _)
      | (with_reducible exact LeO.refl _)
      | (with_reducible exact LeO.none _)
      | (with_reducible refine LeO.ite ?_ ?_)
      | (with_reducible refine LeO.bind ?_ (fun _ => ?_))
      | exact ih0 _ _ _
      | exact LeO.none _
      | refine LeO.ite ?_ ?_
      | refine LeO.bind ?_ (fun _ => ?_)
theorem laws_heldIntS.mono : ∀ a0 a1 k, LeO (laws_heldIntS.f k a0 a1) (laws_heldIntS.f (k + 1) a0 a1) := by
  intro a0 a1 k
  have ih0 := laws_heldIntS.mono_l k
  unfold laws_heldIntS.f
  repeat' first
      | (with_reducible exact ih0 _ _ _)
      | (with_reducible exact LeO.refl _)
      | (with_reducible exact LeO.none _)
      | (with_reducible refine LeO.ite ?_ ?_)
      | (with_reducible refine LeO.bind ?_ (fun _ => ?_))
      | exact ih0 _ _ _
      | exact LeO.none _
      | refine LeO.ite ?_ ?_
      | refine LeO.bind ?_ (fun _ => ?_)
set_option maxHeartbeats 8000000 in
set_option maxRecDepth 100000 in
theorem laws_heldIntS.calls (k : Nat) (A0 : Option Addr) (c0 : Nat) (l0 : List Int) (a1 : Int) (r : Int) (w : World) (hr0 : Kd.C (Kd.int .i64) w A0 l0.length l0) (hc0 : l0.length ≤ c0) (h : laws_heldIntS.f k l0 a1 = some r) :
    Calls Try.prog 49 #[.slice A0 l0.length c0, .int .i64 a1] w fun e w' => e = .returned (.int .i64 r) ∧ Drawn0 w w' := by
  have HR0 := Aside0.mk hr0
  have HC0 := Aside0.mk hc0
  clear hr0 hc0
  have H : (laws_heldIntS.l0 k l0 a1 0) = some r := h
  clear h
  have H' := Aside0.mk H
  clear H
  go_enter Try.func49, Try.ntmps49
  go_wp2
  go_loopg [1, 5] k (fun kq v1 v5 w' => ∃ (x1_1 : Int) (x5_1 : Int), v1 = .int .i64 x1_1 ∧ v5 = .int .i64 x5_1 ∧ Aside0 (laws_heldIntS.l0 kq l0 x1_1 x5_1 = some r) ∧ Aside0 (kq ≤ k) ∧ Drawn0 w w')
  case atStart => exact ⟨(a1), (0), (by first | rfl | (simp; done) | (simp [*]; done)), (by first | rfl | (simp; done) | (simp [*]; done)), H', ⟨Nat.le_refl _⟩, by repeat (first | exact Drawn0.refl _ | apply Drawn0.step)⟩
  case round =>
    clear H'
    try clear p2
    obtain ⟨x1_1, x5_1, rfl, rfl, HA, HK1, ⟨m1, rfl⟩⟩ := hrel
    cases gk with
    | zero => exact absurd HA.out (by simp [laws_heldIntS.l0])
    | succ k1 =>
      have H := HA.out
      clear HA
      simp only [laws_heldIntS.l0] at H
      by_cases c3 : x5_1 < (l0.length : Int)
      · rw [if_pos c3] at H
        have c3b0 : decide (x5_1 < (l0.length : Int)) = true := decide_eq_true c3
        clear c3
        by_cases c4 : 0 ≤ x5_1
        · rw [if_pos c4] at H
          have c4b0 : decide (0 ≤ x5_1) = true := decide_eq_true c4
          clear c4
          by_cases c5 : (rd l0 x5_1) = x1_1
          · rw [if_pos c5] at H
            have c5b0 : ((rd l0 x5_1) == x1_1) = true := beq_iff_eq.mpr c5
            have c5b1 : ((rd l0 x5_1) != x1_1) = false := bne_eq_false_iff_eq.mpr c5
            clear c5
            have H' := Aside0.mk H
            clear H
            have p369 : 0 ≤ (x5_1 : Int) := of_decide_eq_true (by first | (with_reducible assumption) | assumption)
            have q369 : x5_1 < (l0.length : Int) := of_decide_eq_true (by first | (with_reducible assumption) | assumption)
            obtain ⟨ad369, e369, hx369_0⟩ := Kd.at_int HR0.out x5_1 p369 q369
            cases e369
            replace p369 := eq_true p369
            replace q369 := eq_true q369
            go_wp2
            go_roundg k1
            case measure => have := HK1.out; omega
            case rel => exact ⟨(wrap64 (x1_1 + 1)), (wrap64 (x5_1 + 1)), (by first | rfl | (simp; done) | (simp [*]; done)), (by first | rfl | (simp; done) | (simp [*]; done)), H', ⟨by have := HK1.out; omega⟩, by repeat (first | exact Drawn0.refl _ | apply Drawn0.step)⟩
          · rw [if_neg c5] at H
            have c5b0 : ((rd l0 x5_1) == x1_1) = false := beq_eq_false_iff_ne.mpr c5
            have c5b1 : ((rd l0 x5_1) != x1_1) = true := bne_iff_ne.mpr c5
            obtain rfl := Option.some.inj H
            have p369 : 0 ≤ (x5_1 : Int) := of_decide_eq_true (by first | (with_reducible assumption) | assumption)
            have q369 : x5_1 < (l0.length : Int) := of_decide_eq_true (by first | (with_reducible assumption) | assumption)
            obtain ⟨ad369, e369, hx369_0⟩ := Kd.at_int HR0.out x5_1 p369 q369
            cases e369
            replace p369 := eq_true p369
            replace q369 := eq_true q369
            go_wp2
            go_ret
            exact ⟨by first | rfl | (simp; done) | (simp [*]; done), by repeat (first | exact Drawn0.refl _ | apply Drawn0.step)⟩
        · rw [if_neg c4] at H
          exact absurd H (by simp)
      · rw [if_neg c3] at H
        have c3b0 : decide (x5_1 < (l0.length : Int)) = false := decide_eq_false c3
        clear c3
        obtain rfl := Option.some.inj H
        go_wp2
        go_ret
        exact ⟨by first | rfl | (simp; done) | (simp [*]; done), by repeat (first | exact Drawn0.refl _ | apply Drawn0.step)⟩

end Go.Proofs.Ytlpfobakbgipbaa.QFnExactPutPart
