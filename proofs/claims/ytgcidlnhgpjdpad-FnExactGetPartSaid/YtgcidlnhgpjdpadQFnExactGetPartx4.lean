/- The Go functions that the law FnExactGetPart comes to, each as a Lean function, with a proof that the call does what it says; written by a program of this session over the print of the kit. No conditions. -/
import Derived.Test.YtgcidlnhgpjdpadQFnExactGetPartx0
namespace Go.Proofs.Ytgcidlnhgpjdpad.QFnExactGetPart
open Go.RowKit Go.Proofs.YtgcidlnhgpjdpadW.PrintWords Go.Proofs.YtgcidlnhgpjdpadW.PrintLast Go.Proofs.YtgcidlnhgpjdpadW.PrintMore
attribute [local go_sem] max2_int min2_int max_two min_two max_three min_three max_four min_four   -- for this text's walks alone
set_option linter.unusedVariables false
set_option linter.unusedSimpArgs false

/-! ### laws_markPartS: function 33 (a proof of this session's own) -/
def bump : Nat → Int → Int
  | 0, a => a
  | n + 1, a => bump n (wrap64 (a + 1))
/-- From w to W only numbers have been written over numbers, in the blocks of P (and what is new). -/
structure Soft (P : Nat → Prop) (w W : World) : Prop where
  kept : Kept w W P
  cell : ∀ p u, w.cell? p = some u → W.cell? p = some u ∨ ((∃ a, u = .int .i64 a) ∧ ∃ b, W.cell? p = some (.int .i64 b))
  frozen : ∀ p, W.frozen? p = w.frozen? p
theorem Soft.refl (P : Nat → Prop) (w : World) : Soft P w w := ⟨Kept.refl _ _, fun _ _ h => .inl h, fun _ => rfl⟩
theorem Soft.int {P : Nat → Prop} {w W : World} (h : Soft P w W) {p : Addr} {a : Int} (hp : w.cell? p = some (.int .i64 a)) : ∃ b, W.cell? p = some (.int .i64 b) := by
  rcases h.cell p _ hp with h1 | ⟨_, h1⟩
  · exact ⟨a, h1⟩
  · exact h1
theorem Soft.slice {P : Nat → Prop} {w W : World} (h : Soft P w W) {p : Addr} {A : Option Addr} {n c : Nat} (hp : w.cell? p = some (.slice A n c)) : W.cell? p = some (.slice A n c) := by
  rcases h.cell p _ hp with h1 | ⟨⟨a, ha⟩, _⟩
  · exact h1
  · cases ha
theorem Soft.trans {P : Nat → Prop} {w W V : World} (h : Soft P w W) (k : Soft P W V) : Soft P w V := by
  refine ⟨h.kept.then_ k.kept (fun _ hk => .inl hk), fun p u hp => ?_, fun p => (k.frozen p).trans (h.frozen p)⟩
  rcases h.cell p u hp with h1 | ⟨h1, b, h2⟩
  · exact k.cell p u h1
  · exact .inr ⟨h1, k.int h2⟩
theorem Soft.set {P : Nat → Prop} {w W : World} (h : Soft P w W) {p : Addr} {a : Int} (hp : W.cell? p = some (.int .i64 a)) (hP : P p.block) (b : Int) : Soft P w (W.setCell p (.int .i64 b)) := by
  refine h.trans ⟨Kept.setCell (Kept.refl _ _) (.inl hP) _, fun q u hq => ?_, fun q => World.frozen?_setCell _ _ _ _⟩
  by_cases e : p = q
  · subst e
    rw [hp] at hq
    injection hq with hq
    exact .inr ⟨⟨a, hq.symm⟩, b, World.cell?_setCell_same _ _ _ hp⟩
  · exact .inl ((World.cell?_setCell_other _ _ _ _ e).trans hq)
theorem bump_add (m n : Nat) (a : Int) : bump n (bump m a) = bump (m + n) a := by
  induction m generalizing a with
  | zero => rw [Nat.zero_add]; rfl
  | succ m ih => rw [Nat.succ_add]; exact ih _
theorem wrap_id {x : Int} (h0 : -9223372036854775808 ≤ x) (h1 : x ≤ 9223372036854775807) : wrap64 x = x := by
  unfold wrap64
  omega
/-- A row of numbers that may be written. -/
def IntRow (P : Nat → Prop) (w0 w : World) (A : Option Addr) (n : Nat) : Prop :=
  n ≤ 9223372036854775807 ∧ (0 < n → ∃ g, A = some ⟨g, 0, none⟩ ∧ P g ∧ w0.heap.size ≤ g ∧ (∀ j, j < n → ∃ x, w.cell? ⟨g, j, none⟩ = some (.int .i64 x)) ∧ ∀ j, w.frozen? ⟨g, j, none⟩ = false)
theorem IntRow.soft {P : Nat → Prop} {w0 w W : World} {A : Option Addr} {n : Nat} (h : IntRow P w0 w A n) (hs : Soft P w W) : IntRow P w0 W A n := by
  refine ⟨h.1, fun hp => ?_⟩
  obtain ⟨g, hA, hP, hg, hc, hf⟩ := h.2 hp
  refine ⟨g, hA, hP, hg, fun j hj => ?_, fun j => (hs.frozen _).trans (hf j)⟩
  obtain ⟨x, hx⟩ := hc j hj
  exact hs.int hx
theorem IntRow.of_R {P ok : Nat → Prop} {w0 w : World} {v : Value} {l : List Int} (h : Kd.R (Kd.int .i64) 3 w w0.heap.size ok v l) (hP : ∀ k, ok k → P k) : ∃ A c, v = .slice A l.length c ∧ IntRow P w0 w A l.length := by
  obtain ⟨A, c, rfl, hlc, hC⟩ := Kd.R_reads h
  refine ⟨A, c, rfl, hC.2.1, fun hp => ?_⟩
  obtain ⟨g, cap, e, hg, _, _⟩ := Kd.R_form h hp
  injection e with eA _ _
  subst eA
  refine ⟨g, rfl, hP g (h.1 g rfl), hg, fun j hj => ?_, fun j => ?_⟩
  · exact ⟨_, (Kd.R_celln 0 h (j : Int) (by omega) (by omega)).1⟩
  · obtain ⟨cc, _, _, _, hf⟩ := Kd.R_elem h 0 0 (by omega) (by omega)
    have h2 := hf j
    simpa using h2
set_option maxHeartbeats 8000000 in
set_option maxRecDepth 100000 in
theorem soft_markIntS (P : Nat → Prop) (A : Option Addr) (n c : Nat) (a1 : Int) (w0 w : World) (hA : IntRow P w0 w A n) (hB : Below w0.heap.size w0 w) :
    Calls Try.prog 58 #[.slice A n c, .int .i64 a1] w fun e w' => e = .returned (.int .i64 (bump n a1)) ∧ Below w0.heap.size w0 w' ∧ Soft P w w' := by
  have HA := Aside0.mk hA
  have HB := Aside0.mk hB
  have HS := Aside0.mk (Soft.refl P w)
  clear hA hB
  go_enter Try.func58, Try.ntmps58
  go_wp2
  go_loopg [1, 5] (n + 1) (fun kq v1 v5 w' => ∃ (x1_1 : Int) (x5_1 : Int), v1 = .int .i64 x1_1 ∧ v5 = .int .i64 x5_1 ∧ Aside0 (∃ i : Nat, x5_1 = (i : Int) ∧ i ≤ n ∧ n + 1 ≤ i + kq ∧ bump (n - i) x1_1 = bump n a1) ∧ Aside0 (Below w0.heap.size w0 w') ∧ Aside0 (Soft P w w'))
  case atStart => exact ⟨a1, 0, (by first | rfl | (simp; done)), (by first | rfl | (simp; done)), ⟨0, rfl, Nat.zero_le _, by omega, rfl⟩, ⟨by repeat (first | exact HB.out | apply below_alloc | apply pw_below_drewN | apply below_drew1)⟩, ⟨HS.out⟩⟩
  case round =>
    clear HS HB
    try clear p2
    obtain ⟨x1_1, x5_1, rfl, rfl, HI, HB, HS⟩ := hrel
    obtain ⟨i, rfl, hin, hk, hb⟩ := HI.out
    clear HI
    by_cases c3 : (i : Int) < (n : Int)
    · have c3b0 : decide ((i : Int) < (n : Int)) = true := decide_eq_true c3
      have hin' : i < n := by omega
      obtain ⟨g, rfl, hP0, hg0, hc0, hf0⟩ := HA.out.2 (by omega)
      have HP := Aside0.mk hP0
      have HG := Aside0.mk hg0
      have HF := Aside0.mk hf0
      obtain ⟨x, hx⟩ := hc0 i hin'
      clear hP0 hg0 hc0 hf0
      obtain ⟨y, hy⟩ := HS.out.int hx
      have hfr := (HS.out.frozen _).trans (HF.out i)
      have hnew := Aside0.mk (HS.out.set hy HP.out x1_1)
      have hb2 := Aside0.mk (below_set (j := i) (v := .int .i64 x1_1) HB.out HG.out)
      have p5 : 0 ≤ ((i : Nat) : Int) := by omega
      have q5 : ((i : Nat) : Int) < ((n : Nat) : Int) := c3
      replace p5 := eq_true p5
      replace q5 := eq_true q5
      go_wp2_with (first | ((with_reducible refine gate_store (t := 3) (p := 15) rfl ?_); refine store_event (t := 3) (p := 15) (v := ?vo_w8) (w1 := (wr.setCell ⟨g, i, none⟩ (.int .i64 x1_1))) ?hg ?ho ?hn ?hr ?_; (case ho => rfl); (case hg => rfl); (case hn => rfl); (case hr => first | (go_simp; done) | (go_simp; rfl) | (simp [hy, hfr]; done)); intro w8 hw; have n0_ := Aside0.mk (show Soft P w w8 by rw [hw]; exact hnew.out); have n1_ := Aside0.mk (show Below w0.heap.size w0 w8 by rw [hw]; exact hb2.out); clear HS HB hnew hb2 hw; have HS := n0_; have HB := n1_; clear n0_ n1_))
      obtain ⟨k1, rfl⟩ : ∃ k1, gk = k1 + 1 := ⟨gk - 1, by omega⟩
      go_roundg k1
      case measure => omega
      case rel =>
        have ei : wrap64 ((i : Int) + 1) = ((i + 1 : Nat) : Int) := by have := HA.out.1; rw [wrap_id (by omega) (by omega)]; rfl
        refine ⟨wrap64 (x1_1 + 1), wrap64 ((i : Int) + 1), (by first | rfl | (simp; done)), (by first | rfl | (simp; done)), ⟨i + 1, ei, by omega, by omega, ?_⟩, HB, HS⟩
        rw [← hb, show n - i = (n - (i + 1)) + 1 by omega]
        rfl
    · have c3b0 : decide ((i : Int) < (n : Int)) = false := decide_eq_false c3
      obtain rfl : i = n := by omega
      have e : x1_1 = bump i a1 := by rw [← hb, Nat.sub_self]; rfl
      go_wp2
      go_ret
      exact ⟨by first | rfl | rw [e], HB.out, HS.out⟩
theorem kept_row {α : Type} {d : Kd α} {e : Nat} {W W2 : World} {base b2 : Nat} {ok ok' P : Nat → Prop} {v : Value} {xs : List α} {E2 : List Nat} (h : d.R e W base ok v xs) (hE : d.E = []) (hk : Kept W W2 (fun k => P k ∧ b2 ≤ k ∧ k < W.heap.size ∧ ∃ q, q ∈ E2 ∧ ∃ cells, W.heap[k]? = some (.cells cells q (0, 0)))) (hf : e ∉ E2 ∨ ∀ k, some k = v.ownBlock → ¬ P k) (hok : ∀ k, v.ownBlock = some k → ok' k) : d.R e W2 base ok' v xs := by
  refine Kd.R_reok hE (Kd.R_kept (Kd.R_bound (Kd.R_tight hE h)) hk (fun k hk hp => ?_)) hok
  rcases hf with hf | hf
  · obtain ⟨_, _, _, q1, hq1, c1, hc1⟩ := hk
    obtain ⟨_, _, _, q2, hq2, c2, hc2⟩ := hp
    have he := hc1.symm.trans hc2
    injection he with he
    injection he with _ he
    subst he
    rw [hE] at hq1
    rw [List.mem_singleton.1 hq1] at hq2
    exact hf hq2
  · exact hf k hk.1 hp.1
theorem kept_blk {W W2 : World} {b2 g t : Nat} {cs : Array Value} {P : Nat → Prop} {E2 : List Nat} (h : W.heap[g]? = some (.cells cs t (0, 0))) (hk : Kept W W2 (fun k => P k ∧ b2 ≤ k ∧ k < W.heap.size ∧ ∃ q, q ∈ E2 ∧ ∃ cells, W.heap[k]? = some (.cells cells q (0, 0)))) (hf : t ∉ E2) : W2.heap[g]? = some (.cells cs t (0, 0)) := by
  refine blk_kept h hk (fun hp => ?_)
  obtain ⟨_, _, _, q, hq, c, hc⟩ := hp
  have he := hc.symm.trans h
  injection he with he
  injection he with _ he
  subst he
  exact hf hq
def laws_markPartS.cnt (l : List S94) : Nat := (l.map (fun x => 6 + x.f1.f1.length)).sum
def laws_markPartS.f (l0 : List (S94)) (a1 : Int) : Option (Int) := some (bump (laws_markPartS.cnt l0) a1)
theorem laws_markPartS.elem {P : Nat → Prop} {w0 w : World} {A : Option Addr} {n c : Nat} {l0 : List (S94)} (h : Kd.R k94 94 w w0.heap.size P (.slice A n c) l0) (i : Nat) (hi : i < l0.length) : ∃ g, A = some ⟨g, 0, none⟩ ∧ P g ∧ w0.heap.size ≤ g ∧ (∃ a, w.cell? ⟨g, i * 7, none⟩ = some (.int .i64 a)) ∧ (∃ a, w.cell? ⟨g, i * 7 + 1, none⟩ = some (.int .i64 a)) ∧ (∃ a, w.cell? ⟨g, i * 7 + 3, none⟩ = some (.int .i64 a)) ∧ (∃ a, w.cell? ⟨g, i * 7 + 4, none⟩ = some (.int .i64 a)) ∧ (∃ a, w.cell? ⟨g, i * 7 + 5, none⟩ = some (.int .i64 a)) ∧ (∃ a, w.cell? ⟨g, i * 7 + 6, none⟩ = some (.int .i64 a)) ∧ (∃ A5 c5, w.cell? ⟨g, i * 7 + 2, none⟩ = some (.slice A5 (l0[i]).f1.f1.length c5) ∧ IntRow P w0 w A5 (l0[i]).f1.f1.length) ∧ ∀ j, w.frozen? ⟨g, i * 7 + j, none⟩ = false := by
  obtain ⟨hn, _, _⟩ := Kd.R_reads' h
  obtain ⟨g, cap, e, hg, _, _⟩ := Kd.R_form h (by omega)
  injection e with eA eN eC
  subst eA
  obtain ⟨cs, hcl, hM, hcc, hf⟩ := Kd.R_elem h z94 (i : Int) (by omega) (by omega)
  rw [List.getD_eq_getElem?_getD, show ((i : Nat) : Int).toNat = i from rfl, List.getElem?_eq_getElem hi] at hM
  obtain ⟨v5, rfl, hR⟩ := k94_openM hM
  obtain ⟨A5, c5, rfl, hrow⟩ := IntRow.of_R (P := P) hR (fun k hk => hk.1)
  exact ⟨g, rfl, h.1 g rfl, hg, ⟨_, hcc 0 _ rfl⟩, ⟨_, hcc 1 _ rfl⟩, ⟨_, hcc 3 _ rfl⟩, ⟨_, hcc 4 _ rfl⟩, ⟨_, hcc 5 _ rfl⟩, ⟨_, hcc 6 _ rfl⟩, ⟨A5, c5, hcc 2 _ rfl, hrow⟩, hf⟩
set_option maxHeartbeats 8000000 in
set_option maxRecDepth 100000 in
theorem laws_markPartS.calls (P : Nat → Prop) (A : Option Addr) (c : Nat) (l0 : List (S94)) (a1 : Int) (r : Int) (w0 w : World) (hB : Below w0.heap.size w0 w) (ho : Kd.R k94 94 w w0.heap.size P (.slice A l0.length c) l0) (h : laws_markPartS.f l0 a1 = some r) :
    Calls Try.prog 33 #[.slice A l0.length c, .int .i64 a1] w fun e w' => e = .returned (.int .i64 r) ∧ Below w0.heap.size w0 w' ∧ Kept w w' P := by
  have hu94 := Try.underlying94
  have hu39 := Try.underlying39
  have hu37 := Try.underlying37
  obtain rfl := Option.some.inj h
  clear h
  have HE := Aside0.mk (fun i hi => laws_markPartS.elem ho i hi)
  have HN := Aside0.mk (Kd.R_reads' ho).2.2.2.1
  have HB := Aside0.mk hB
  have HS := Aside0.mk (Soft.refl P w)
  clear hB ho
  go_enter Try.func33, Try.ntmps33
  go_wp2
  go_loopg [1, 5] (l0.length + 1) (fun kq v1 v5 w' => ∃ (x1_1 : Int) (x5_1 : Int), v1 = .int .i64 x1_1 ∧ v5 = .int .i64 x5_1 ∧ Aside0 (∃ i : Nat, x5_1 = (i : Int) ∧ i ≤ l0.length ∧ l0.length + 1 ≤ i + kq ∧ bump (laws_markPartS.cnt (l0.drop i)) x1_1 = bump (laws_markPartS.cnt l0) a1) ∧ Aside0 (Below w0.heap.size w0 w') ∧ Aside0 (Soft P w w'))
  case atStart => exact ⟨a1, 0, (by first | rfl | (simp; done)), (by first | rfl | (simp; done)), ⟨0, rfl, Nat.zero_le _, by omega, rfl⟩, ⟨by repeat (first | exact HB.out | apply below_alloc | apply pw_below_drewN | apply below_drew1)⟩, ⟨HS.out⟩⟩
  case round =>
    clear HS HB
    try clear p2
    obtain ⟨x1_1, x5_1, rfl, rfl, HI, HB, HS⟩ := hrel
    obtain ⟨i, rfl, hin, hk, hb⟩ := HI.out
    clear HI
    by_cases c3 : (i : Int) < (l0.length : Int)
    · have c3b0 : decide ((i : Int) < (l0.length : Int)) = true := decide_eq_true c3
      have hin' : i < l0.length := by omega
      obtain ⟨g, rfl, hP0, hg0, ⟨q0, hq0⟩, ⟨q1, hq1⟩, ⟨q3, hq3⟩, ⟨q4, hq4⟩, ⟨q5, hq5⟩, ⟨q6, hq6⟩, ⟨A5, c5, hs5, hrow0⟩, hf0⟩ := HE.out i hin'
      have HP := Aside0.mk hP0
      have HG := Aside0.mk hg0
      have HF := Aside0.mk hf0
      have HR5 := Aside0.mk hrow0
      have HS5 := Aside0.mk hs5
      have HQ0 := Aside0.mk hq0
      have HQ1 := Aside0.mk hq1
      have HQ3 := Aside0.mk hq3
      have HQ4 := Aside0.mk hq4
      have HQ5 := Aside0.mk hq5
      have HQ6 := Aside0.mk hq6
      clear hP0 hg0 hf0 hrow0 hs5 hq0 hq1 hq3 hq4 hq5 hq6
      have p5 : 0 ≤ ((i : Nat) : Int) := by omega
      have q5 : ((i : Nat) : Int) < ((l0.length : Nat) : Int) := c3
      replace p5 := eq_true p5
      replace q5 := eq_true q5
      generalize hLn : (l0[i]).f1.f1.length = Ln at HS5 HR5
      obtain ⟨y0, hy0⟩ := HS.out.int HQ0.out
      have hfr0 := (show wr.frozen? ⟨g, i * 7, none⟩ = false from (HS.out.frozen _).trans (HF.out 0))
      go_wp2_with (first | ((with_reducible refine gate_store (t := 3) (p := 16) rfl ?_); refine store_event (t := 3) (p := 16) (v := ?vo_0) (w1 := (wr.setCell ⟨g, i * 7, none⟩ (.int .i64 (x1_1)))) ?hg_0 ?ho_0 ?hn_0 ?hr_0 ?_; (case ho_0 => rfl); (case hg_0 => rfl); (case hn_0 => rfl); (case hr_0 => first | (go_simp; done) | (go_simp; rfl)); intro wn0 hw; have n0_ := Aside0.mk (show Soft P w wn0 by rw [hw]; exact HS.out.set hy0 HP.out _); have n1_ := Aside0.mk (show Below w0.heap.size w0 wn0 by rw [hw]; exact below_set HB.out HG.out); clear HS HB hy0 hfr0 hw; have HS := n0_; have HB := n1_; clear n0_ n1_; obtain ⟨y1, hy1⟩ := HS.out.int HQ1.out; have hfr1 := (show wn0.frozen? ⟨g, i * 7 + 1, none⟩ = false from (HS.out.frozen _).trans (HF.out 1))) | ((with_reducible refine gate_store (t := 3) (p := 24) rfl ?_); refine store_event (t := 3) (p := 24) (v := ?vo_1) (w1 := (wn0.setCell ⟨g, i * 7 + 1, none⟩ (.int .i64 (wrap64 (x1_1 + 1))))) ?hg_1 ?ho_1 ?hn_1 ?hr_1 ?_; (case ho_1 => rfl); (case hg_1 => rfl); (case hn_1 => rfl); (case hr_1 => first | (go_simp; done) | (go_simp; rfl)); intro wn1 hw; have n0_ := Aside0.mk (show Soft P w wn1 by rw [hw]; exact HS.out.set hy1 HP.out _); have n1_ := Aside0.mk (show Below w0.heap.size w0 wn1 by rw [hw]; exact below_set HB.out HG.out); clear HS HB hy1 hfr1 hw; have HS := n0_; have HB := n1_; clear n0_ n1_; have hsl := HS.out.slice HS5.out) | (go_at_call 58; refine (soft_markIntS P A5 Ln c5 (wrap64 ((wrap64 (x1_1 + 1)) + 1)) w0 _ (HR5.out.soft HS.out) HB.out).mono ?_; rintro e wn2 ⟨rfl, hb9, hs9⟩; have n0_ := Aside0.mk (HS.out.trans hs9); have n1_ := Aside0.mk hb9; clear HS HB hb9 hs9 hsl; have HS := n0_; have HB := n1_; clear n0_ n1_; obtain ⟨y3, hy3⟩ := HS.out.int HQ3.out; have hfr3 := (show wn2.frozen? ⟨g, i * 7 + 3, none⟩ = false from (HS.out.frozen _).trans (HF.out 3))) | ((with_reducible refine gate_store (t := 3) (p := 41) rfl ?_); refine store_event (t := 3) (p := 41) (v := ?vo_3) (w1 := (wn2.setCell ⟨g, i * 7 + 3, none⟩ (.int .i64 (bump Ln (wrap64 ((wrap64 (x1_1 + 1)) + 1)))))) ?hg_3 ?ho_3 ?hn_3 ?hr_3 ?_; (case ho_3 => rfl); (case hg_3 => rfl); (case hn_3 => rfl); (case hr_3 => first | (go_simp; done) | (go_simp; rfl)); intro wn3 hw; have n0_ := Aside0.mk (show Soft P w wn3 by rw [hw]; exact HS.out.set hy3 HP.out _); have n1_ := Aside0.mk (show Below w0.heap.size w0 wn3 by rw [hw]; exact below_set HB.out HG.out); clear HS HB hy3 hfr3 hw; have HS := n0_; have HB := n1_; clear n0_ n1_; obtain ⟨y4, hy4⟩ := HS.out.int HQ4.out; have hfr4 := (show wn3.frozen? ⟨g, i * 7 + 4, none⟩ = false from (HS.out.frozen _).trans (HF.out 4))) | ((with_reducible refine gate_store (t := 3) (p := 50) rfl ?_); refine store_event (t := 3) (p := 50) (v := ?vo_4) (w1 := (wn3.setCell ⟨g, i * 7 + 4, none⟩ (.int .i64 (wrap64 ((bump Ln (wrap64 ((wrap64 (x1_1 + 1)) + 1))) + 1))))) ?hg_4 ?ho_4 ?hn_4 ?hr_4 ?_; (case ho_4 => rfl); (case hg_4 => rfl); (case hn_4 => rfl); (case hr_4 => first | (go_simp; done) | (go_simp; rfl)); intro wn4 hw; have n0_ := Aside0.mk (show Soft P w wn4 by rw [hw]; exact HS.out.set hy4 HP.out _); have n1_ := Aside0.mk (show Below w0.heap.size w0 wn4 by rw [hw]; exact below_set HB.out HG.out); clear HS HB hy4 hfr4 hw; have HS := n0_; have HB := n1_; clear n0_ n1_; obtain ⟨y5, hy5⟩ := HS.out.int HQ5.out; have hfr5 := (show wn4.frozen? ⟨g, i * 7 + 5, none⟩ = false from (HS.out.frozen _).trans (HF.out 5))) | ((with_reducible refine gate_store (t := 3) (p := 59) rfl ?_); refine store_event (t := 3) (p := 59) (v := ?vo_5) (w1 := (wn4.setCell ⟨g, i * 7 + 5, none⟩ (.int .i64 (wrap64 ((wrap64 ((bump Ln (wrap64 ((wrap64 (x1_1 + 1)) + 1))) + 1)) + 1))))) ?hg_5 ?ho_5 ?hn_5 ?hr_5 ?_; (case ho_5 => rfl); (case hg_5 => rfl); (case hn_5 => rfl); (case hr_5 => first | (go_simp; done) | (go_simp; rfl)); intro wn5 hw; have n0_ := Aside0.mk (show Soft P w wn5 by rw [hw]; exact HS.out.set hy5 HP.out _); have n1_ := Aside0.mk (show Below w0.heap.size w0 wn5 by rw [hw]; exact below_set HB.out HG.out); clear HS HB hy5 hfr5 hw; have HS := n0_; have HB := n1_; clear n0_ n1_; obtain ⟨y6, hy6⟩ := HS.out.int HQ6.out; have hfr6 := (show wn5.frozen? ⟨g, i * 7 + 6, none⟩ = false from (HS.out.frozen _).trans (HF.out 6))) | ((with_reducible refine gate_store (t := 3) (p := 66) rfl ?_); refine store_event (t := 3) (p := 66) (v := ?vo_6) (w1 := (wn5.setCell ⟨g, i * 7 + 6, none⟩ (.int .i64 (wrap64 ((wrap64 ((wrap64 ((bump Ln (wrap64 ((wrap64 (x1_1 + 1)) + 1))) + 1)) + 1)) + 1))))) ?hg_6 ?ho_6 ?hn_6 ?hr_6 ?_; (case ho_6 => rfl); (case hg_6 => rfl); (case hn_6 => rfl); (case hr_6 => first | (go_simp; done) | (go_simp; rfl)); intro wn6 hw; have n0_ := Aside0.mk (show Soft P w wn6 by rw [hw]; exact HS.out.set hy6 HP.out _); have n1_ := Aside0.mk (show Below w0.heap.size w0 wn6 by rw [hw]; exact below_set HB.out HG.out); clear HS HB hy6 hfr6 hw; have HS := n0_; have HB := n1_; clear n0_ n1_))
      obtain ⟨k1, rfl⟩ : ∃ k1, gk = k1 + 1 := ⟨gk - 1, by omega⟩
      go_roundg k1
      case measure => omega
      case rel =>
        have ei : wrap64 ((i : Int) + 1) = ((i + 1 : Nat) : Int) := by have := HN.out; rw [wrap_id (by omega) (by omega)]; rfl
        refine ⟨wrap64 ((wrap64 ((wrap64 ((wrap64 ((bump Ln (wrap64 ((wrap64 (x1_1 + 1)) + 1))) + 1)) + 1)) + 1)) + 1), wrap64 ((i : Int) + 1), (by first | rfl | (simp; done)), (by first | rfl | (simp; done)), ⟨i + 1, ei, by omega, by omega, ?_⟩, HB, HS⟩
        rw [← hb, List.drop_eq_getElem_cons hin']
        unfold laws_markPartS.cnt
        rw [List.map_cons, List.sum_cons, ← bump_add, hLn]
        congr 1
        first | rfl | (rw [show 6 + Ln = 2 + (Ln + 4) by omega, ← bump_add, ← bump_add]; rfl)
    · have c3b0 : decide ((i : Int) < (l0.length : Int)) = false := decide_eq_false c3
      obtain rfl : i = l0.length := by omega
      have e : x1_1 = bump (laws_markPartS.cnt l0) a1 := by rw [← hb, List.drop_length]; rfl
      go_wp2
      go_ret
      exact ⟨by first | rfl | rw [e], HB.out, HS.out.kept⟩


end Go.Proofs.Ytgcidlnhgpjdpad.QFnExactGetPart
