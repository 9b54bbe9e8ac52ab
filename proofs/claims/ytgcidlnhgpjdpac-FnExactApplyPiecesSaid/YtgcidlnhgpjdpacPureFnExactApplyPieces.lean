/- The pure statement behind the law FnExactApplyPieces: over numbers and lists the law answers true, at every input that the row's bounds let in. -/
import Derived.Test.YtgcidlnhgpjdpacQFnExactApplyPiecesx4
import Derived.Test.YtgcidlnhgpjdpacQFnExactApplyPiecesg
namespace Go.Proofs.Ytgcidlnhgpjdpac.Pure
open Go Go.RowKit Go.Proofs.Ytgcidlnhgpjdpac.QFnExactApplyPieces Go.Proofs.YtgcidlnhgpjdpacW.PrintWords Go.Proofs.YtgcidlnhgpjdpacW.PrintLast Go.Proofs.YtgcidlnhgpjdpacW.PrintMore
set_option linter.unusedVariables false
set_option linter.unusedSimpArgs false
set_option maxRecDepth 100000

theorem w64 {x : Int} (h0 : -9223372036854775808 ≤ x) (h1 : x ≤ 9223372036854775807) : wrap64 x = x := by unfold wrap64; omega
theorem wf64 {x : Int} (h : (Lit.int .i64 x).wf = true) : -9223372036854775808 ≤ x ∧ x ≤ 9223372036854775807 := by
  simp [Lit.wf, IntKind.min, IntKind.max, IntKind.signed, IntKind.bits] at h
  omega
theorem ev_pos {α : Type} {c : Prop} [Decidable c] {g f : Nat → Option α} {r : α} (h : c) (k : Ev g r) : Ev (fun n => if c then g n else f n) r := by
  obtain ⟨K, hK⟩ := k
  exact ⟨K, fun n hn => (if_pos h).trans (hK n hn)⟩
theorem ev_neg {α : Type} {c : Prop} [Decidable c] {g f : Nat → Option α} {r : α} (h : ¬ c) (k : Ev f r) : Ev (fun n => if c then g n else f n) r := by
  obtain ⟨K, hK⟩ := k
  exact ⟨K, fun n hn => (if_neg h).trans (hK n hn)⟩
theorem ev_bind0 {α β : Type} {o : Option α} {f : Nat → α → Option β} {a : α} {r : β} (h : o = some a) (k : Ev (fun n => f n a) r) : Ev (fun n => o.bind (f n)) r := by
  subst h
  exact k
theorem ev_of {α : Type} {o : Option α} {r : α} (h : o = some r) : Ev (fun _ => o) r := ⟨0, fun _ _ => h⟩
theorem rd_at (xs : List Int) (i : Nat) (h : i < xs.length) : rd xs (i : Int) = xs[i] := by
  unfold rd
  rw [Int.toNat_natCast, List.getD_eq_getElem?_getD, List.getElem?_eq_getElem h]
  rfl
theorem set_take {out xs : List Int} {i : Nat} (h : out.take i = xs.take i) (hl : out.length = xs.length) (hi : i < xs.length) : (out.set ((i : Int)).toNat (rd xs i)).take (i + 1) = xs.take (i + 1) := by
  rw [rd_at xs i hi, Int.toNat_natCast, List.take_succ_eq_append_getElem hi, List.take_succ_eq_append_getElem (by rw [List.length_set]; omega)]
  rw [List.take_set_of_le (Nat.le_refl _), h]
  simp
def seqFrom (m : Int) (n : Nat) : List Int := (List.range n).map fun (j : Nat) => m + (j : Int)
theorem seqFrom_length (m : Int) (n : Nat) : (seqFrom m n).length = n := by simp [seqFrom]
theorem seqFrom_get (m : Int) (n i : Nat) (h : i < n) : (seqFrom m n)[i]'(by rw [seqFrom_length]; exact h) = m + (i : Int) := by simp [seqFrom]
theorem seq_set {x ys : List Int} {i : Nat} (h : x.take i = ys.take i) (hl : x.length = ys.length) (hi : i < ys.length) {v : Int} (hv : ys[i] = v) : (x.set ((i : Int)).toNat v).take (i + 1) = ys.take (i + 1) := by
  subst hv
  rw [Int.toNat_natCast, List.take_succ_eq_append_getElem hi, List.take_succ_eq_append_getElem (by rw [List.length_set]; omega)]
  rw [List.take_set_of_le (Nat.le_refl _), h]
  simp
theorem toIntS_l0 (xs : List Int) (hn : xs.length ≤ 35184372088832) : ∀ (d i : Nat) (out : List Int), i + d = xs.length → out.length = xs.length → out.take i = xs.take i → Ev (fun k => laws_toIntS.l0 k xs out (i : Int)) xs := by
  intro d
  induction d with
  | zero =>
    intro i out hd hl ht
    refine Ev.step (fun _ => laws_toIntS.l0.eq_2 ..) (ev_neg (by omega) (ev_of ?_))
    rw [List.take_of_length_le (by omega), List.take_of_length_le (by omega)] at ht
    rw [ht]
  | succ d ih =>
    intro i out hd hl ht
    refine Ev.step (fun _ => laws_toIntS.l0.eq_2 ..) (ev_pos (by omega) (ev_pos (by omega) (ev_pos (by omega) ?_)))
    rw [w64 (by omega) (by omega)]
    exact ih (i + 1) _ (by omega) (by rw [List.length_set]; exact hl) (set_take ht hl (by omega))
theorem toIntS_ev (xs : List Int) (hn : xs.length ≤ 35184372088832) : Ev (fun k => laws_toIntS.f k xs) xs := by
  unfold laws_toIntS.f
  refine ev_pos (by omega) (ev_pos (by omega) ?_)
  exact toIntS_l0 xs hn xs.length 0 _ (by omega) (by simp) (by simp)
theorem eqIntS_l0 (xs : List Int) (hn : xs.length ≤ 9223372036854775807) : ∀ (d i : Nat), i + d = xs.length → Ev (fun k => laws_eqIntS.l0 k xs xs (i : Int)) true := by
  intro d
  induction d with
  | zero =>
    intro i hd
    exact Ev.step (fun _ => laws_eqIntS.l0.eq_2 ..) (ev_neg (by omega) (Ev.now true))
  | succ d ih =>
    intro i hd
    refine Ev.step (fun _ => laws_eqIntS.l0.eq_2 ..) (ev_pos (by omega) (ev_pos (by omega) (ev_pos (by omega) (ev_pos rfl ?_))))
    rw [w64 (by omega) (by omega)]
    exact ih (i + 1) (by omega)
theorem eqIntS_same (xs : List Int) (hn : xs.length ≤ 9223372036854775807) : Ev (fun k => laws_eqIntS.f k xs xs) true := by
  unfold laws_eqIntS.f
  exact ev_pos rfl (eqIntS_l0 xs hn xs.length 0 (by omega))
theorem markIntS_l0 : ∀ (d i : Nat) (m : Int) (x : List Int) (s : Int) (n : Nat), n = x.length → i + d = n → m = s + (i : Int) → 0 ≤ s → s + (n : Int) ≤ 4611686018427387904 → x.take i = (seqFrom s n).take i → Ev (fun k => laws_markIntS.l0 k x m (i : Int)) (s + (n : Int), seqFrom s n) := by
  intro d
  induction d with
  | zero =>
    intro i m x s n hn hd hm hs hb ht
    refine Ev.step (fun _ => laws_markIntS.l0.eq_2 ..) (ev_neg (by omega) (ev_of ?_))
    rw [List.take_of_length_le (by omega), List.take_of_length_le (by rw [seqFrom_length]; omega)] at ht
    rw [ht, show m = s + (n : Int) by omega]
  | succ d ih =>
    intro i m x s n hn hd hm hs hb ht
    refine Ev.step (fun _ => laws_markIntS.l0.eq_2 ..) (ev_pos (by omega) (ev_pos (by omega) ?_))
    rw [w64 (x := m + 1) (by omega) (by omega), w64 (x := (i : Int) + 1) (by omega) (by omega)]
    exact ih (i + 1) (m + 1) _ s n (by rw [List.length_set]; exact hn) (by omega) (by omega) hs hb (seq_set ht (by rw [seqFrom_length]; omega) (by rw [seqFrom_length]; omega) (by rw [seqFrom_get _ _ _ (by omega)]; omega))
theorem markIntS_ev (x : List Int) (s : Int) (hs : 0 ≤ s) (hb : s + (x.length : Int) ≤ 4611686018427387904) : Ev (fun k => laws_markIntS.f k x s) (s + (x.length : Int), seqFrom s x.length) := by
  unfold laws_markIntS.f
  exact markIntS_l0 x.length 0 s x s x.length rfl (by omega) (by omega) hs hb rfl
theorem heldIntS_l0 (s : Int) (n : Nat) (hs : 0 ≤ s) (hb : s + (n : Int) ≤ 4611686018427387904) : ∀ (d i : Nat) (m : Int), i + d = n → m = s + (i : Int) → Ev (fun k => laws_heldIntS.l0 k (seqFrom s n) m (i : Int)) (s + (n : Int)) := by
  intro d
  induction d with
  | zero =>
    intro i m hd hm
    refine Ev.step (fun _ => laws_heldIntS.l0.eq_2 ..) (ev_neg (by rw [seqFrom_length]; omega) (ev_of ?_))
    rw [show m = s + (n : Int) by omega]
  | succ d ih =>
    intro i m hd hm
    refine Ev.step (fun _ => laws_heldIntS.l0.eq_2 ..) (ev_pos (by rw [seqFrom_length]; omega) (ev_pos (by omega) (ev_pos ?_ ?_)))
    · rw [rd_at _ i (by rw [seqFrom_length]; omega), seqFrom_get _ _ _ (by omega)]
      omega
    · rw [w64 (x := m + 1) (by omega) (by omega), w64 (x := (i : Int) + 1) (by omega) (by omega)]
      exact ih (i + 1) (m + 1) (by omega) (by omega)
theorem heldIntS_ev (s : Int) (n : Nat) (hs : 0 ≤ s) (hb : s + (n : Int) ≤ 4611686018427387904) : Ev (fun k => laws_heldIntS.f k (seqFrom s n) s) (s + (n : Int)) := by
  unfold laws_heldIntS.f
  exact heldIntS_l0 s n hs hb n 0 s (by omega) (by omega)
def szR (a : Int) (n : Nat) : Int := if a - (n : Int) < 0 then -1 else a - (n : Int)
theorem szR_zero (a : Int) (h : 0 ≤ a) : szR a 0 = a := by unfold szR; rw [if_neg (by omega)]; omega
theorem szR_neg (a : Int) (n m : Nat) (h : szR a n < 0) : szR a (n + m) = -1 := by
  unfold szR at h ⊢
  by_cases c : a - (n : Int) < 0
  · rw [if_pos (by omega)]
  · rw [if_neg c] at h
    omega
theorem szR_neg1 (a : Int) (n : Nat) (h : szR a n < 0) : szR a n = -1 := by
  have := szR_neg a n 0 h
  rwa [Nat.add_zero] at this
theorem szR_add (a : Int) (n m : Nat) (h : ¬ szR a n < 0) : szR (szR a n) m = szR a (n + m) := by
  unfold szR at h ⊢
  by_cases c : a - (n : Int) < 0
  · rw [if_pos c] at h
    omega
  · rw [if_neg c]
    by_cases d : a - (n : Int) - (m : Int) < 0
    · rw [if_pos d, if_pos (by omega)]
    · rw [if_neg d, if_neg (by omega)]
      omega
theorem szR_le (a : Int) (n : Nat) (h : ¬ szR a n < 0) : (n : Int) ≤ a := by
  unfold szR at h
  by_cases c : a - (n : Int) < 0
  · rw [if_pos c] at h
    omega
  · omega
theorem szR_range (a : Int) (n : Nat) (h : ¬ szR a n < 0) : 0 ≤ szR a n ∧ szR a n ≤ a := by
  have := szR_le a n h
  unfold szR at h ⊢
  rw [if_neg (by omega)]
  omega
theorem szIntS_val (l : List Int) (a : Int) (h0 : 0 ≤ a) (h1 : a ≤ 9223372036854775807) (hl : l.length ≤ 9223372036854775807) : laws_szIntS.f l a = some (szR a l.length) := by
  unfold laws_szIntS.f szR
  rw [w64 (by omega) (by omega)]
  split <;> rfl
theorem some_neg {a : Int} (h : a < 0 → a = -1) : (if a < 0 then some (-1) else some a) = some a := by
  split
  · rw [h (by assumption)]
  · rfl
theorem getD_at {α : Type} (xs : List α) (z : α) (i : Nat) (h : i < xs.length) : xs.getD ((i : Int)).toNat z = xs[i] := by
  rw [Int.toNat_natCast, List.getD_eq_getElem?_getD, List.getElem?_eq_getElem h]
  rfl
theorem set_takeG {α : Type} {out ys : List α} {i : Nat} (h : out.take i = ys.take i) (hl : out.length = ys.length) (hi : i < ys.length) {v : α} (hv : ys[i] = v) : (out.set ((i : Int)).toNat v).take (i + 1) = ys.take (i + 1) := by
  subst hv
  rw [Int.toNat_natCast, List.take_succ_eq_append_getElem hi, List.take_succ_eq_append_getElem (by rw [List.length_set]; omega)]
  rw [List.take_set_of_le (Nat.le_refl _), h]
  simp
def sumLen {α : Type} (f : α → List Int) (xs : List α) : Nat := (xs.map fun x => (f x).length).sum
theorem sumLen_cons {α : Type} (f : α → List Int) (x : α) (xs : List α) : sumLen f (x :: xs) = (f x).length + sumLen f xs := by simp [sumLen]
theorem sumLen_mem {α : Type} (f : α → List Int) : ∀ (xs : List α) (x : α), x ∈ xs → (f x).length ≤ sumLen f xs
  | y :: xs, x, h => by
    rw [sumLen_cons]
    rcases List.mem_cons.1 h with rfl | h
    · omega
    · have := sumLen_mem f xs x h
      omega
theorem rd0Piece (xs : List S107) (i : Nat) (h : i < xs.length) : rd_T107 xs (i : Int) = xs[i] := getD_at xs z107 i h
theorem rd1Piece (xs : List S70) (i : Nat) (h : i < xs.length) : rd_T70 xs (i : Int) = xs[i] := getD_at xs z70 i h
def ls0Piece (x : S107) : List Int := x.f2
def ls1Piece (x : S70) : List Int := x.f2
def convPiece (x : S107) : S70 := ⟨x.f0, x.f1, x.f2⟩
theorem szPiece_val (x : S107) (a : Int) (h0 : 0 ≤ a) (h1 : a ≤ 9223372036854775807) (hl : (ls0Piece x).length ≤ 9223372036854775807) : laws_szPiece.f x.f0 x.f1 x.f2 a = some (szR a (ls0Piece x).length) := by
  unfold laws_szPiece.f
  refine (congrArg (fun o => Option.bind o _) (szIntS_val _ a h0 h1 hl)).trans ?_
  exact some_neg (szR_neg1 a _)
theorem szPieceS_l0 (xs : List S107) (hi : ∀ x ∈ xs, (ls0Piece x).length ≤ 9223372036854775807) (hn : xs.length ≤ 9223372036854775806) : ∀ (d i : Nat) (a : Int), i + d = xs.length → 0 ≤ a → a ≤ 9223372036854775807 → Ev (fun k => laws_szPieceS.l0 k xs a (i : Int)) (szR a (sumLen ls0Piece (xs.drop i))) := by
  intro d
  induction d with
  | zero =>
    intro i a hd h0 h1
    refine Ev.step (fun _ => laws_szPieceS.l0.eq_2 ..) (ev_neg (by omega) (ev_of ?_))
    rw [List.drop_eq_nil_of_le (by omega)]
    exact congrArg some (szR_zero a h0).symm
  | succ d ih =>
    intro i a hd h0 h1
    refine Ev.step (fun _ => laws_szPieceS.l0.eq_2 ..) (ev_pos (by omega) (ev_pos (by omega) ?_))
    have hlt : i < xs.length := by omega
    rw [rd0Piece xs i hlt, List.drop_eq_getElem_cons hlt, sumLen_cons]
    refine ev_bind0 (szPiece_val _ a h0 h1 (hi _ (List.getElem_mem hlt))) ?_
    by_cases c : szR a (ls0Piece (xs[i]'hlt)).length < 0
    · refine ev_pos c (ev_of ?_)
      rw [szR_neg _ _ _ c]
    · refine ev_neg c ?_
      have hr := szR_range _ _ c
      rw [w64 (x := (i : Int) + 1) (by omega) (by omega), ← szR_add _ _ _ c]
      exact ih (i + 1) _ (by omega) (by omega) (by omega)
theorem szPieceS_ev (xs : List S107) (a : Int) (h0 : 0 ≤ a) (h1 : a ≤ 9223372036854775806) (hl : xs.length ≤ 9223372036854775807) (hi : ∀ x ∈ xs, (ls0Piece x).length ≤ 9223372036854775807) : Ev (fun k => laws_szPieceS.f k xs a) (szR a (xs.length + sumLen ls0Piece xs)) := by
  unfold laws_szPieceS.f
  rw [w64 (by omega) (by omega)]
  by_cases c : a - (xs.length : Int) < 0
  · refine ev_pos c (ev_of ?_)
    rw [szR_neg _ _ _ (by unfold szR; rw [if_pos c]; omega)]
  · refine ev_neg c ?_
    have e : szR a xs.length = a - (xs.length : Int) := by unfold szR; rw [if_neg c]
    have h := szPieceS_l0 xs hi (by omega) xs.length 0 (a - (xs.length : Int)) (by omega) (by omega) (by omega)
    rw [List.drop_zero, ← e, szR_add _ _ _ (by rw [e]; exact c), e] at h
    exact h
theorem toPiece_ev (x : S107) (hn : (ls0Piece x).length ≤ 35184372088832) : Ev (fun k => laws_toPiece.f k x.f0 x.f1 x.f2) (x.f0, x.f1, x.f2) := by
  unfold laws_toPiece.f
  exact Ev.bind (toIntS_ev _ hn) (Ev.now _)
theorem toPieceS_l0 (xs : List S107) (hn : xs.length ≤ 1048576) (hi : ∀ x ∈ xs, (ls0Piece x).length ≤ 35184372088832) : ∀ (d i : Nat) (out : List S70), i + d = xs.length → out.length = xs.length → out.take i = (xs.map convPiece).take i → Ev (fun k => laws_toPieceS.l0 k xs out (i : Int)) (xs.map convPiece) := by
  intro d
  induction d with
  | zero =>
    intro i out hd hl ht
    refine Ev.step (fun _ => laws_toPieceS.l0.eq_2 ..) (ev_neg (by omega) (ev_of ?_))
    rw [List.take_of_length_le (by omega), List.take_of_length_le (by rw [List.length_map]; omega)] at ht
    rw [ht]
  | succ d ih =>
    intro i out hd hl ht
    have hlt : i < xs.length := by omega
    refine Ev.step (fun _ => laws_toPieceS.l0.eq_2 ..) (ev_pos (by omega) (ev_pos (by omega) ?_))
    rw [rd0Piece xs i hlt]
    refine Ev.bind (toPiece_ev _ (hi _ (List.getElem_mem hlt))) (ev_pos (by omega) ?_)
    rw [w64 (by omega) (by omega)]
    exact ih (i + 1) _ (by omega) (by rw [List.length_set]; exact hl) (set_takeG ht (by rw [List.length_map]; exact hl) (by rw [List.length_map]; exact hlt) (by rw [List.getElem_map]; rfl))
theorem toPieceS_ev (xs : List S107) (hn : xs.length ≤ 1048576) (hi : ∀ x ∈ xs, (ls0Piece x).length ≤ 35184372088832) : Ev (fun k => laws_toPieceS.f k xs) (xs.map convPiece) := by
  unfold laws_toPieceS.f
  refine ev_pos (by omega) (ev_pos (by omega) ?_)
  exact toPieceS_l0 xs hn hi xs.length 0 _ (by omega) (by simp) (by simp)
theorem eqPiece_same (x : S70) (hn : (ls1Piece x).length ≤ 9223372036854775807) : Ev (fun k => laws_eqPiece.f k x.f0 x.f1 x.f2 x.f0 x.f1 x.f2) true := by
  unfold laws_eqPiece.f
  exact ev_pos rfl (ev_pos rfl (Ev.bind (eqIntS_same _ hn) (ev_pos rfl (Ev.now _))))
theorem eqPieceS_l0 (xs : List S70) (hn : xs.length ≤ 9223372036854775806) (hi : ∀ x ∈ xs, (ls1Piece x).length ≤ 9223372036854775807) : ∀ (d i : Nat), i + d = xs.length → Ev (fun k => laws_eqPieceS.l0 k xs xs (i : Int)) true := by
  intro d
  induction d with
  | zero =>
    intro i hd
    exact Ev.step (fun _ => laws_eqPieceS.l0.eq_2 ..) (ev_neg (by omega) (Ev.now true))
  | succ d ih =>
    intro i hd
    have hlt : i < xs.length := by omega
    refine Ev.step (fun _ => laws_eqPieceS.l0.eq_2 ..) (ev_pos (by omega) (ev_pos (by omega) (ev_pos (by omega) ?_)))
    rw [rd1Piece xs i hlt]
    refine Ev.bind (eqPiece_same _ (hi _ (List.getElem_mem hlt))) (ev_pos rfl ?_)
    rw [w64 (by omega) (by omega)]
    exact ih (i + 1) (by omega)
theorem eqPieceS_same (xs : List S70) (hn : xs.length ≤ 9223372036854775806) (hi : ∀ x ∈ xs, (ls1Piece x).length ≤ 9223372036854775807) : Ev (fun k => laws_eqPieceS.f k xs xs) true := by
  unfold laws_eqPieceS.f
  exact ev_pos rfl (eqPieceS_l0 xs hn hi xs.length 0 (by omega))
theorem l1In_val (a b c : Int) : spec_l1In.f a b c = some (decide (b ≤ a ∧ a ≤ c)) := by
  unfold spec_l1In.f
  by_cases h : a ≥ b
  · rw [if_pos h]; simp [h]
  · rw [if_neg h]; simp [h]
def apSeg (x : List Int) (p : S70) : List Int := (x.take (p.f0 + p.f1 : Int).toNat).drop (p.f0 : Int).toNat
def apAll (x : List Int) : List S70 → List Int → List Int × Bool
  | [], out => (out, true)
  | p :: ps, out => if 0 ≤ p.f0 ∧ 0 ≤ p.f1 ∧ p.f0 + p.f1 ≤ (x.length : Int) ∧ (out.length : Int) + p.f1 + (p.f2.length : Int) ≤ 1000 then apAll x ps (out ++ apSeg x p ++ p.f2) else ([], false)
theorem apAll_yes (x : List Int) (p : S70) (ps : List S70) (out : List Int) (h : 0 ≤ p.f0 ∧ 0 ≤ p.f1 ∧ p.f0 + p.f1 ≤ (x.length : Int) ∧ (out.length : Int) + p.f1 + (p.f2.length : Int) ≤ 1000) : apAll x (p :: ps) out = apAll x ps (out ++ apSeg x p ++ p.f2) := if_pos h
theorem apAll_no (x : List Int) (p : S70) (ps : List S70) (out : List Int) (h : ¬ (0 ≤ p.f0 ∧ 0 ≤ p.f1 ∧ p.f0 + p.f1 ≤ (x.length : Int) ∧ (out.length : Int) + p.f1 + (p.f2.length : Int) ≤ 1000)) : apAll x (p :: ps) out = ([], false) := if_neg h
theorem apSeg_len (x : List Int) (p : S70) (h0 : 0 ≤ p.f0) (h1 : 0 ≤ p.f1) (h2 : p.f0 + p.f1 ≤ (x.length : Int)) : ((apSeg x p).length : Int) = p.f1 := by
  unfold apSeg
  rw [List.length_drop, List.length_take]
  omega
theorem apAll_len (x : List Int) (ps : List S70) : ∀ (out : List Int), out.length ≤ 1000 → (apAll x ps out).1.length ≤ 1000 := by
  induction ps with
  | nil => exact fun out h => h
  | cons p ps ih =>
    intro out h
    by_cases c : 0 ≤ p.f0 ∧ 0 ≤ p.f1 ∧ p.f0 + p.f1 ≤ (x.length : Int) ∧ (out.length : Int) + p.f1 + (p.f2.length : Int) ≤ 1000
    · rw [apAll_yes _ _ _ _ c]
      have := apSeg_len x p c.1 c.2.1 c.2.2.1
      exact ih _ (by rw [List.length_append, List.length_append]; omega)
    · rw [apAll_no _ _ _ _ c]
      exact Nat.zero_le _
theorem spec_ApplyPieces_l0 (x : List Int) (ps : List S70) (hx : x.length ≤ 1048576) (hn : ps.length ≤ 1048576) (hi : ∀ p ∈ ps, (ls1Piece p).length ≤ 1048576 ∧ -9223372036854775808 ≤ p.f0 ∧ p.f0 ≤ 9223372036854775807 ∧ -9223372036854775808 ≤ p.f1 ∧ p.f1 ≤ 9223372036854775807) : ∀ (d i : Nat) (out : List Int), i + d = ps.length → out.length ≤ 1000 → Ev (fun k => spec_ApplyPieces.l0 k x ps out (i : Int)) (apAll x (ps.drop i) out) := by
  intro d
  induction d with
  | zero =>
    intro i out hd ho
    refine Ev.step (fun _ => spec_ApplyPieces.l0.eq_2 ..) (ev_neg (by omega) (ev_of ?_))
    rw [List.drop_eq_nil_of_le (by omega)]
    rfl
  | succ d ih =>
    intro i out hd ho
    have hlt : i < ps.length := by omega
    refine Ev.step (fun _ => spec_ApplyPieces.l0.eq_2 ..) (ev_pos (by omega) (ev_pos (by omega) ?_))
    have hp := hi _ (List.getElem_mem hlt)
    have hih := ih (i + 1)
    rw [rd1Piece ps i hlt, List.drop_eq_getElem_cons hlt, w64 (x := (i : Int) + 1) (by omega) (by omega)]
    generalize ps[i] = p at hp ⊢
    have hl : (ls1Piece p).length = p.f2.length := rfl
    by_cases h1 : p.f0 < 0
    · rw [apAll_no _ _ _ _ (by omega)]
      exact ev_pos h1 (Ev.now _)
    refine ev_neg h1 (ev_bind0 (l1In_val ..) ?_)
    by_cases h2 : (0 : Int) ≤ p.f1 ∧ p.f1 ≤ (x.length : Int)
    · refine ev_pos (decide_eq_true h2) ?_
      rw [w64 (x := (x.length : Int) - p.f1) (by omega) (by omega), w64 (x := (out.length : Int) + p.f1) (by omega) (by omega), w64 (x := (out.length : Int) + p.f1 + (p.f2.length : Int)) (by omega) (by omega)]
      by_cases h3 : p.f0 > (x.length : Int) - p.f1
      · rw [apAll_no _ _ _ _ (by omega)]
        exact ev_pos h3 (Ev.now _)
      refine ev_neg h3 ?_
      by_cases h4 : (out.length : Int) + p.f1 + (p.f2.length : Int) > 1000
      · rw [apAll_no _ _ _ _ (by omega)]
        exact ev_pos h4 (Ev.now _)
      refine ev_neg h4 ?_
      rw [w64 (x := p.f0 + p.f1) (by omega) (by omega), apAll_yes _ _ _ _ ⟨by omega, h2.1, by omega, by omega⟩]
      have hs := apSeg_len x p (by omega) h2.1 (by omega)
      have e : (x.take (p.f0 + p.f1 : Int).toNat).drop (p.f0 : Int).toNat = apSeg x p := rfl
      rw [e]
      exact ev_pos (by omega) (ev_pos (by omega) (ev_pos (by omega) (ev_pos (by omega) (ev_bind0 rfl (ev_pos (by rw [List.length_append]; omega) (hih _ (by omega) (by rw [List.length_append, List.length_append]; omega)))))))
    · rw [apAll_no _ _ _ _ (by omega)]
      exact ev_neg (fun w => h2 (of_decide_eq_true w)) (Ev.now _)
theorem impl_ApplyPieces_l0 (x : List Int) (ps : List S70) (hx : x.length ≤ 1048576) (hn : ps.length ≤ 1048576) (hi : ∀ p ∈ ps, (ls1Piece p).length ≤ 1048576 ∧ -9223372036854775808 ≤ p.f0 ∧ p.f0 ≤ 9223372036854775807 ∧ -9223372036854775808 ≤ p.f1 ∧ p.f1 ≤ 9223372036854775807) : ∀ (d i : Nat) (out : List Int), i + d = ps.length → out.length ≤ 1000 → Ev (fun k => impl_ApplyPieces.l0 k x out ps (ps.length : Int) (i : Int)) (apAll x (ps.drop i) out) := by
  intro d
  induction d with
  | zero =>
    intro i out hd ho
    refine Ev.step (fun _ => impl_ApplyPieces.l0.eq_2 ..) (ev_neg (by omega) (ev_of ?_))
    rw [List.drop_eq_nil_of_le (by omega)]
    rfl
  | succ d ih =>
    intro i out hd ho
    have hlt : i < ps.length := by omega
    refine Ev.step (fun _ => impl_ApplyPieces.l0.eq_2 ..) (ev_pos (by omega) (ev_pos (by omega) (ev_pos (by omega) ?_)))
    have hp := hi _ (List.getElem_mem hlt)
    have hih := ih (i + 1)
    rw [rd1Piece ps i hlt, List.drop_eq_getElem_cons hlt]
    generalize ps[i] = p at hp ⊢
    have hl : (ls1Piece p).length = p.f2.length := rfl
    have bad : ∀ (b : Bool), b = true → ¬ (0 ≤ p.f0 ∧ 0 ≤ p.f1 ∧ p.f0 + p.f1 ≤ (x.length : Int) ∧ (out.length : Int) + p.f1 + (p.f2.length : Int) ≤ 1000) → Ev (fun k => impl_ApplyPieces.j1 k x out ps (ps.length : Int) (i : Int) b p.f0 p.f1 p.f2) (apAll x (p :: ps.drop (i + 1)) out) := by
      intro b hb hbad
      rw [apAll_no _ _ _ _ hbad]
      exact Ev.step (fun _ => impl_ApplyPieces.j1.eq_2 ..) (ev_pos hb (Ev.now _))
    by_cases h1 : p.f0 < 0
    · exact ev_pos h1 (bad true rfl (by omega))
    refine ev_neg h1 ?_
    by_cases h2 : p.f1 < 0
    · exact ev_pos h2 (bad true rfl (by omega))
    refine ev_neg h2 ?_
    by_cases h3 : p.f0 > (x.length : Int)
    · exact ev_pos h3 (bad true rfl (by omega))
    refine ev_neg h3 ?_
    rw [w64 (x := (x.length : Int) - p.f0) (by omega) (by omega)]
    by_cases h4 : p.f1 > (x.length : Int) - p.f0
    · exact bad _ (decide_eq_true h4) (by omega)
    refine Ev.step (fun _ => impl_ApplyPieces.j1.eq_2 ..) (ev_neg (fun w => h4 (of_decide_eq_true w)) ?_)
    have hs := apSeg_len x p (by omega) (by omega) (by omega)
    rw [w64 (x := p.f0 + p.f1) (by omega) (by omega), w64 (x := (i : Int) + 1) (by omega) (by omega)]
    have e : (x.take (p.f0 + p.f1 : Int).toNat).drop (p.f0 : Int).toNat = apSeg x p := rfl
    rw [e]
    refine ev_pos (by omega) (ev_pos (by omega) (ev_pos (by omega) (ev_pos (by omega) (ev_bind0 rfl (ev_pos (by rw [List.length_append]; omega) (ev_bind0 rfl ?_))))))
    by_cases h5 : ((out ++ apSeg x p ++ p.f2).length : Int) > 1000
    · rw [apAll_no _ _ _ _ (by rw [List.length_append, List.length_append] at h5; omega)]
      exact ev_pos h5 (Ev.now _)
    · rw [apAll_yes _ _ _ _ (by rw [List.length_append, List.length_append] at h5; omega)]
      exact ev_neg h5 (hih _ (by omega) (by omega))
theorem spec_ApplyPieces_ev (x : List Int) (ps : List S70) (hx : x.length ≤ 1048576) (hn : ps.length ≤ 1048576) (hi : ∀ p ∈ ps, (ls1Piece p).length ≤ 1048576 ∧ -9223372036854775808 ≤ p.f0 ∧ p.f0 ≤ 9223372036854775807 ∧ -9223372036854775808 ≤ p.f1 ∧ p.f1 ≤ 9223372036854775807) : Ev (fun k => spec_ApplyPieces.f k x ps) (apAll x ps []) := by
  unfold spec_ApplyPieces.f
  exact spec_ApplyPieces_l0 x ps hx hn hi ps.length 0 [] (by omega) (Nat.zero_le _)
theorem impl_ApplyPieces_ev (x : List Int) (ps : List S70) (hx : x.length ≤ 1048576) (hn : ps.length ≤ 1048576) (hi : ∀ p ∈ ps, (ls1Piece p).length ≤ 1048576 ∧ -9223372036854775808 ≤ p.f0 ∧ p.f0 ≤ 9223372036854775807 ∧ -9223372036854775808 ≤ p.f1 ∧ p.f1 ≤ 9223372036854775807) : Ev (fun k => impl_ApplyPieces.f k x ps) (apAll x ps []) := by
  unfold impl_ApplyPieces.f
  exact impl_ApplyPieces_l0 x ps hx hn hi ps.length 0 [] (by omega) (Nat.zero_le _)
theorem bump_val : ∀ (n : Nat) (a : Int), 0 ≤ a → a + (n : Int) ≤ 4611686018427387904 → bump n a = a + (n : Int) := by
  intro n
  induction n with
  | zero => intro a _ _; show a = _; omega
  | succ n ih =>
    intro a h0 h1
    show bump n (wrap64 (a + 1)) = _
    rw [w64 (by omega) (by omega), ih (a + 1) (by omega) (by omega)]
    omega
theorem markPiece_cnt (l : List S70) : laws_markPieceS.cnt l = 2 * l.length + sumLen ls1Piece l := by
  induction l with
  | nil => rfl
  | cons x l ih =>
    unfold laws_markPieceS.cnt at ih ⊢
    rw [List.map_cons, List.sum_cons, ih, sumLen_cons, List.length_cons]
    show 2 + (ls1Piece x).length + _ = _
    omega
theorem markPiece_val (l : List S70) (s : Int) (hs : 0 ≤ s) (hs2 : s ≤ 1073741824) (h : laws_markPieceS.cnt l ≤ 1073741824) : ∃ m, laws_markPieceS.f l s = some m ∧ 0 ≤ m := by
  refine ⟨_, rfl, ?_⟩
  rw [bump_val _ s hs (by omega)]
  omega
theorem sumLen_convPiece (l : List S107) : sumLen ls1Piece (l.map convPiece) = sumLen ls0Piece l := by
  induction l with
  | nil => rfl
  | cons x l ih => rw [List.map_cons, sumLen_cons, sumLen_cons, ih]; rfl
theorem FnExactApplyPieces : ∀ (x0 : List Int) (x1 : List (S107)), (x0.length ≤ 9223372036854775807 ∧ ∀ y ∈ x0, (Lit.int .i64 y).wf = true) → (x1.length ≤ 9223372036854775807 ∧ ∀ y ∈ x1, g107 y) → ∃ k, laws_FnExactApplyPieces.f k x0 x1 = some true := by
  intro x xs hx hg
  obtain ⟨hl, hy⟩ := hg
  have hi : ∀ p ∈ xs, (ls0Piece p).length ≤ 9223372036854775807 := fun p hp => (hy p hp).2.2.1
  refine Ev.rounds (g := fun k => laws_FnExactApplyPieces.f k x xs) ?_
  unfold laws_FnExactApplyPieces.f
  by_cases h0 : (x.length : Int) > 1048576
  · exact ev_pos h0 (Ev.now true)
  refine ev_neg h0 (Ev.bind (szPieceS_ev xs 1048576 (by omega) (by omega) hl hi) ?_)
  by_cases hb : szR 1048576 (xs.length + sumLen ls0Piece xs) < 0
  · exact ev_pos hb (Ev.now true)
  refine ev_neg hb ?_
  have hle := szR_le _ _ hb
  have hi2 : ∀ p ∈ xs, (ls0Piece p).length ≤ 1048576 := fun p hp => by have := sumLen_mem ls0Piece xs p hp; omega
  have hto := toPieceS_ev xs (by omega) (fun p hp => by have := hi2 p hp; omega)
  have hxi := toIntS_ev x (by omega)
  have hlen : (xs.map convPiece).length = xs.length := List.length_map ..
  have hc : ∀ p ∈ xs.map convPiece, (ls1Piece p).length ≤ 1048576 ∧ -9223372036854775808 ≤ p.f0 ∧ p.f0 ≤ 9223372036854775807 ∧ -9223372036854775808 ≤ p.f1 ∧ p.f1 ≤ 9223372036854775807 := by
    intro p hp
    obtain ⟨q, hq, rfl⟩ := List.mem_map.1 hp
    have w0 := wf64 (hy q hq).1
    have w1 := wf64 (hy q hq).2.1
    exact ⟨hi2 q hq, w0.1, w0.2, w1.1, w1.2⟩
  obtain ⟨m, hm, hm0⟩ := markPiece_val (xs.map convPiece) (1 + (x.length : Int)) (by omega) (by omega) (by rw [markPiece_cnt, sumLen_convPiece, hlen]; omega)
  have e1 := spec_ApplyPieces_ev x (xs.map convPiece) (by omega) (by omega) hc
  have e2 := impl_ApplyPieces_ev x (xs.map convPiece) (by omega) (by omega) hc
  have hr : (apAll x (xs.map convPiece) []).1.length ≤ 1000 := apAll_len x _ [] (Nat.zero_le _)
  generalize apAll x (xs.map convPiece) [] = r at e1 e2 hr
  have hq := eqIntS_same r.1 (by omega)
  have hqx := eqIntS_same x (by omega)
  have hp := eqPieceS_same (xs.map convPiece) (by omega) (fun p hp => by have := (hc p hp).1; omega)
  have hne : ¬ ((r.2 != r.2) = true) := by simp
  have hmk := markIntS_ev x 1 (by omega) (by omega)
  have hmr := markIntS_ev r.1 1 (by omega) (by omega)
  have hhr := heldIntS_ev 1 r.1.length (by omega) (by omega)
  refine Ev.bind hxi (Ev.bind hto (Ev.bind e1 (Ev.bind hxi (Ev.bind hto (Ev.bind e2 (Ev.bind hq (ev_pos rfl ?_)))))))
  refine Ev.step (fun _ => laws_FnExactApplyPieces.j0.eq_2 ..) (ev_neg hne ?_)
  refine Ev.bind hxi (Ev.bind hqx (ev_pos rfl (Ev.bind hto (Ev.bind hp (ev_pos rfl (Ev.bind hmk (ev_bind0 hm (ev_neg (by omega) (Ev.bind hq (ev_pos rfl ?_))))))))))
  refine Ev.step (fun _ => laws_FnExactApplyPieces.j1.eq_2 ..) (ev_neg hne ?_)
  refine Ev.bind hmr (Ev.bind hhr (ev_neg (by omega) (ev_pos rfl (Ev.bind hxi (Ev.bind hto (Ev.bind e2 (Ev.bind hq (ev_pos rfl ?_))))))))
  refine Ev.step (fun _ => laws_FnExactApplyPieces.j2.eq_2 ..) (ev_neg hne ?_)
  exact Ev.bind hhr (ev_neg (by omega) (ev_pos rfl (Ev.now true)))

end Go.Proofs.Ytgcidlnhgpjdpac.Pure
