/- The pure statement behind the law FnExactCostOf: over numbers and lists the law answers true, at every input that the row's bounds let in. -/
import Derived.Test.YtgcidlnhgpjdpabQFnExactCostOfx2
import Derived.Test.YtgcidlnhgpjdpabQFnExactCostOfg
namespace Go.Proofs.Ytgcidlnhgpjdpab.Pure
open Go Go.RowKit Go.Proofs.Ytgcidlnhgpjdpab.QFnExactCostOf Go.Proofs.YtgcidlnhgpjdpabW.PrintWords Go.Proofs.YtgcidlnhgpjdpabW.PrintLast Go.Proofs.YtgcidlnhgpjdpabW.PrintMore
set_option linter.unusedVariables false
set_option linter.unusedSimpArgs false
set_option maxRecDepth 100000

theorem w64 {x : Int} (h0 : -9223372036854775808 ≤ x) (h1 : x ≤ 9223372036854775807) : wrap64 x = x := by unfold wrap64; omega
theorem wf64 {x : Int} (h : (Lit.int .i64 x).wf = true) : -9223372036854775808 ≤ x ∧ x ≤ 9223372036854775807 := by
  simp [Lit.wf, IntKind.min, IntKind.max, IntKind.signed, IntKind.bits] at h
  omega
theorem wf8 {x : Int} (h : (Lit.int .u8 x).wf = true) : 0 ≤ x ∧ x ≤ 255 := by
  simp [Lit.wf, IntKind.min, IntKind.max, IntKind.signed, IntKind.bits] at h
  omega
theorem ev_pos {α : Type} {c : Prop} [Decidable c] {g f : Nat → Option α} {r : α} (h : c) (k : Ev g r) : Ev (fun n => if c then g n else f n) r := by
  obtain ⟨K, hK⟩ := k
  exact ⟨K, fun n hn => (if_pos h).trans (hK n hn)⟩
theorem ev_neg {α : Type} {c : Prop} [Decidable c] {g f : Nat → Option α} {r : α} (h : ¬ c) (k : Ev f r) : Ev (fun n => if c then g n else f n) r := by
  obtain ⟨K, hK⟩ := k
  exact ⟨K, fun n hn => (if_neg h).trans (hK n hn)⟩
theorem ev_bind0 {α β : Type} {o : Option α} {f : Nat → α → Option β} {a : α} {r : β} (h : o = some a) (k : Ev (fun n => f n a) r) : Ev (fun n => o.bind (f n)) r := by
  subst h
  exact k
theorem ev_of {α : Type} {o : Option α} {r : α} (h : o = some r) : Ev (fun _ => o) r := ⟨0, fun _ _ => h⟩
theorem rd_at (xs : List Int) (i : Nat) (h : i < xs.length) : rd xs (i : Int) = xs[i] := by
  unfold rd
  rw [Int.toNat_natCast, List.getD_eq_getElem?_getD, List.getElem?_eq_getElem h]
  rfl
theorem set_take {out xs : List Int} {i : Nat} (h : out.take i = xs.take i) (hl : out.length = xs.length) (hi : i < xs.length) : (out.set ((i : Int)).toNat (rd xs i)).take (i + 1) = xs.take (i + 1) := by
  rw [rd_at xs i hi, Int.toNat_natCast, List.take_succ_eq_append_getElem hi, List.take_succ_eq_append_getElem (by rw [List.length_set]; omega)]
  rw [List.take_set_of_le (Nat.le_refl _), h]
  simp
def seqFrom (m : Int) (n : Nat) : List Int := (List.range n).map fun (j : Nat) => m + (j : Int)
theorem seqFrom_length (m : Int) (n : Nat) : (seqFrom m n).length = n := by simp [seqFrom]
theorem seqFrom_get (m : Int) (n i : Nat) (h : i < n) : (seqFrom m n)[i]'(by rw [seqFrom_length]; exact h) = m + (i : Int) := by simp [seqFrom]
theorem seq_set {x ys : List Int} {i : Nat} (h : x.take i = ys.take i) (hl : x.length = ys.length) (hi : i < ys.length) {v : Int} (hv : ys[i] = v) : (x.set ((i : Int)).toNat v).take (i + 1) = ys.take (i + 1) := by
  subst hv
  rw [Int.toNat_natCast, List.take_succ_eq_append_getElem hi, List.take_succ_eq_append_getElem (by rw [List.length_set]; omega)]
  rw [List.take_set_of_le (Nat.le_refl _), h]
  simp
theorem toIntS_l0 (xs : List Int) (hn : xs.length ≤ 35184372088832) : ∀ (d i : Nat) (out : List Int), i + d = xs.length → out.length = xs.length → out.take i = xs.take i → Ev (fun k => laws_toIntS.l0 k xs out (i : Int)) xs := by
  intro d
  induction d with
  | zero =>
    intro i out hd hl ht
    refine Ev.step (fun _ => laws_toIntS.l0.eq_2 ..) (ev_neg (by omega) (ev_of ?_))
    rw [List.take_of_length_le (by omega), List.take_of_length_le (by omega)] at ht
    rw [ht]
  | succ d ih =>
    intro i out hd hl ht
    refine Ev.step (fun _ => laws_toIntS.l0.eq_2 ..) (ev_pos (by omega) (ev_pos (by omega) (ev_pos (by omega) ?_)))
    rw [w64 (by omega) (by omega)]
    exact ih (i + 1) _ (by omega) (by rw [List.length_set]; exact hl) (set_take ht hl (by omega))
theorem toIntS_ev (xs : List Int) (hn : xs.length ≤ 35184372088832) : Ev (fun k => laws_toIntS.f k xs) xs := by
  unfold laws_toIntS.f
  refine ev_pos (by omega) (ev_pos (by omega) ?_)
  exact toIntS_l0 xs hn xs.length 0 _ (by omega) (by simp) (by simp)
theorem eqIntS_l0 (xs : List Int) (hn : xs.length ≤ 9223372036854775807) : ∀ (d i : Nat), i + d = xs.length → Ev (fun k => laws_eqIntS.l0 k xs xs (i : Int)) true := by
  intro d
  induction d with
  | zero =>
    intro i hd
    exact Ev.step (fun _ => laws_eqIntS.l0.eq_2 ..) (ev_neg (by omega) (Ev.now true))
  | succ d ih =>
    intro i hd
    refine Ev.step (fun _ => laws_eqIntS.l0.eq_2 ..) (ev_pos (by omega) (ev_pos (by omega) (ev_pos (by omega) (ev_pos rfl ?_))))
    rw [w64 (by omega) (by omega)]
    exact ih (i + 1) (by omega)
theorem eqIntS_same (xs : List Int) (hn : xs.length ≤ 9223372036854775807) : Ev (fun k => laws_eqIntS.f k xs xs) true := by
  unfold laws_eqIntS.f
  exact ev_pos rfl (eqIntS_l0 xs hn xs.length 0 (by omega))
def szR (a : Int) (n : Nat) : Int := if a - (n : Int) < 0 then -1 else a - (n : Int)
theorem szR_zero (a : Int) (h : 0 ≤ a) : szR a 0 = a := by unfold szR; rw [if_neg (by omega)]; omega
theorem szR_neg (a : Int) (n m : Nat) (h : szR a n < 0) : szR a (n + m) = -1 := by
  unfold szR at h ⊢
  by_cases c : a - (n : Int) < 0
  · rw [if_pos (by omega)]
  · rw [if_neg c] at h
    omega
theorem szR_neg1 (a : Int) (n : Nat) (h : szR a n < 0) : szR a n = -1 := by
  have := szR_neg a n 0 h
  rwa [Nat.add_zero] at this
theorem szR_add (a : Int) (n m : Nat) (h : ¬ szR a n < 0) : szR (szR a n) m = szR a (n + m) := by
  unfold szR at h ⊢
  by_cases c : a - (n : Int) < 0
  · rw [if_pos c] at h
    omega
  · rw [if_neg c]
    by_cases d : a - (n : Int) - (m : Int) < 0
    · rw [if_pos d, if_pos (by omega)]
    · rw [if_neg d, if_neg (by omega)]
      omega
theorem szR_le (a : Int) (n : Nat) (h : ¬ szR a n < 0) : (n : Int) ≤ a := by
  unfold szR at h
  by_cases c : a - (n : Int) < 0
  · rw [if_pos c] at h
    omega
  · omega
theorem szR_range (a : Int) (n : Nat) (h : ¬ szR a n < 0) : 0 ≤ szR a n ∧ szR a n ≤ a := by
  have := szR_le a n h
  unfold szR at h ⊢
  rw [if_neg (by omega)]
  omega
theorem szIntS_val (l : List Int) (a : Int) (h0 : 0 ≤ a) (h1 : a ≤ 9223372036854775807) (hl : l.length ≤ 9223372036854775807) : laws_szIntS.f l a = some (szR a l.length) := by
  unfold laws_szIntS.f szR
  rw [w64 (by omega) (by omega)]
  split <;> rfl
theorem some_neg {a : Int} (h : a < 0 → a = -1) : (if a < 0 then some (-1) else some a) = some a := by
  split
  · rw [h (by assumption)]
  · rfl
theorem getD_at {α : Type} (xs : List α) (z : α) (i : Nat) (h : i < xs.length) : xs.getD ((i : Int)).toNat z = xs[i] := by
  rw [Int.toNat_natCast, List.getD_eq_getElem?_getD, List.getElem?_eq_getElem h]
  rfl
theorem set_takeG {α : Type} {out ys : List α} {i : Nat} (h : out.take i = ys.take i) (hl : out.length = ys.length) (hi : i < ys.length) {v : α} (hv : ys[i] = v) : (out.set ((i : Int)).toNat v).take (i + 1) = ys.take (i + 1) := by
  subst hv
  rw [Int.toNat_natCast, List.take_succ_eq_append_getElem hi, List.take_succ_eq_append_getElem (by rw [List.length_set]; omega)]
  rw [List.take_set_of_le (Nat.le_refl _), h]
  simp
def sumLen {α : Type} (f : α → List Int) (xs : List α) : Nat := (xs.map fun x => (f x).length).sum
theorem sumLen_cons {α : Type} (f : α → List Int) (x : α) (xs : List α) : sumLen f (x :: xs) = (f x).length + sumLen f xs := by simp [sumLen]
theorem sumLen_mem {α : Type} (f : α → List Int) : ∀ (xs : List α) (x : α), x ∈ xs → (f x).length ≤ sumLen f xs
  | y :: xs, x, h => by
    rw [sumLen_cons]
    rcases List.mem_cons.1 h with rfl | h
    · omega
    · have := sumLen_mem f xs x h
      omega
theorem rd0Piece (xs : List S80) (i : Nat) (h : i < xs.length) : rd_T80 xs (i : Int) = xs[i] := getD_at xs z80 i h
theorem rd1Piece (xs : List S81) (i : Nat) (h : i < xs.length) : rd_T81 xs (i : Int) = xs[i] := getD_at xs z81 i h
def ls0Piece (x : S80) : List Int := x.f2
def ls1Piece (x : S81) : List Int := x.f2
def convPiece (x : S80) : S81 := ⟨x.f0, x.f1, x.f2⟩
theorem szPiece_val (x : S80) (a : Int) (h0 : 0 ≤ a) (h1 : a ≤ 9223372036854775807) (hl : (ls0Piece x).length ≤ 9223372036854775807) : laws_szPiece.f x.f0 x.f1 x.f2 a = some (szR a (ls0Piece x).length) := by
  unfold laws_szPiece.f
  refine (congrArg (fun o => Option.bind o _) (szIntS_val _ a h0 h1 hl)).trans ?_
  exact some_neg (szR_neg1 a _)
theorem szPieceS_l0 (xs : List S80) (hi : ∀ x ∈ xs, (ls0Piece x).length ≤ 9223372036854775807) (hn : xs.length ≤ 9223372036854775806) : ∀ (d i : Nat) (a : Int), i + d = xs.length → 0 ≤ a → a ≤ 9223372036854775807 → Ev (fun k => laws_szPieceS.l0 k xs a (i : Int)) (szR a (sumLen ls0Piece (xs.drop i))) := by
  intro d
  induction d with
  | zero =>
    intro i a hd h0 h1
    refine Ev.step (fun _ => laws_szPieceS.l0.eq_2 ..) (ev_neg (by omega) (ev_of ?_))
    rw [List.drop_eq_nil_of_le (by omega)]
    exact congrArg some (szR_zero a h0).symm
  | succ d ih =>
    intro i a hd h0 h1
    refine Ev.step (fun _ => laws_szPieceS.l0.eq_2 ..) (ev_pos (by omega) (ev_pos (by omega) ?_))
    have hlt : i < xs.length := by omega
    rw [rd0Piece xs i hlt, List.drop_eq_getElem_cons hlt, sumLen_cons]
    refine ev_bind0 (szPiece_val _ a h0 h1 (hi _ (List.getElem_mem hlt))) ?_
    by_cases c : szR a (ls0Piece (xs[i]'hlt)).length < 0
    · refine ev_pos c (ev_of ?_)
      rw [szR_neg _ _ _ c]
    · refine ev_neg c ?_
      have hr := szR_range _ _ c
      rw [w64 (x := (i : Int) + 1) (by omega) (by omega), ← szR_add _ _ _ c]
      exact ih (i + 1) _ (by omega) (by omega) (by omega)
theorem szPieceS_ev (xs : List S80) (a : Int) (h0 : 0 ≤ a) (h1 : a ≤ 9223372036854775806) (hl : xs.length ≤ 9223372036854775807) (hi : ∀ x ∈ xs, (ls0Piece x).length ≤ 9223372036854775807) : Ev (fun k => laws_szPieceS.f k xs a) (szR a (xs.length + sumLen ls0Piece xs)) := by
  unfold laws_szPieceS.f
  rw [w64 (by omega) (by omega)]
  by_cases c : a - (xs.length : Int) < 0
  · refine ev_pos c (ev_of ?_)
    rw [szR_neg _ _ _ (by unfold szR; rw [if_pos c]; omega)]
  · refine ev_neg c ?_
    have e : szR a xs.length = a - (xs.length : Int) := by unfold szR; rw [if_neg c]
    have h := szPieceS_l0 xs hi (by omega) xs.length 0 (a - (xs.length : Int)) (by omega) (by omega) (by omega)
    rw [List.drop_zero, ← e, szR_add _ _ _ (by rw [e]; exact c), e] at h
    exact h
theorem toPiece_ev (x : S80) (hn : (ls0Piece x).length ≤ 35184372088832) : Ev (fun k => laws_toPiece.f k x.f0 x.f1 x.f2) (x.f0, x.f1, x.f2) := by
  unfold laws_toPiece.f
  exact Ev.bind (toIntS_ev _ hn) (Ev.now _)
theorem toPieceS_l0 (xs : List S80) (hn : xs.length ≤ 1048576) (hi : ∀ x ∈ xs, (ls0Piece x).length ≤ 35184372088832) : ∀ (d i : Nat) (out : List S81), i + d = xs.length → out.length = xs.length → out.take i = (xs.map convPiece).take i → Ev (fun k => laws_toPieceS.l0 k xs out (i : Int)) (xs.map convPiece) := by
  intro d
  induction d with
  | zero =>
    intro i out hd hl ht
    refine Ev.step (fun _ => laws_toPieceS.l0.eq_2 ..) (ev_neg (by omega) (ev_of ?_))
    rw [List.take_of_length_le (by omega), List.take_of_length_le (by rw [List.length_map]; omega)] at ht
    rw [ht]
  | succ d ih =>
    intro i out hd hl ht
    have hlt : i < xs.length := by omega
    refine Ev.step (fun _ => laws_toPieceS.l0.eq_2 ..) (ev_pos (by omega) (ev_pos (by omega) ?_))
    rw [rd0Piece xs i hlt]
    refine Ev.bind (toPiece_ev _ (hi _ (List.getElem_mem hlt))) (ev_pos (by omega) ?_)
    rw [w64 (by omega) (by omega)]
    exact ih (i + 1) _ (by omega) (by rw [List.length_set]; exact hl) (set_takeG ht (by rw [List.length_map]; exact hl) (by rw [List.length_map]; exact hlt) (by rw [List.getElem_map]; rfl))
theorem toPieceS_ev (xs : List S80) (hn : xs.length ≤ 1048576) (hi : ∀ x ∈ xs, (ls0Piece x).length ≤ 35184372088832) : Ev (fun k => laws_toPieceS.f k xs) (xs.map convPiece) := by
  unfold laws_toPieceS.f
  refine ev_pos (by omega) (ev_pos (by omega) ?_)
  exact toPieceS_l0 xs hn hi xs.length 0 _ (by omega) (by simp) (by simp)
theorem eqPiece_same (x : S81) (hn : (ls1Piece x).length ≤ 9223372036854775807) : Ev (fun k => laws_eqPiece.f k x.f0 x.f1 x.f2 x.f0 x.f1 x.f2) true := by
  unfold laws_eqPiece.f
  exact ev_pos rfl (ev_pos rfl (Ev.bind (eqIntS_same _ hn) (ev_pos rfl (Ev.now _))))
theorem eqPieceS_l0 (xs : List S81) (hn : xs.length ≤ 9223372036854775806) (hi : ∀ x ∈ xs, (ls1Piece x).length ≤ 9223372036854775807) : ∀ (d i : Nat), i + d = xs.length → Ev (fun k => laws_eqPieceS.l0 k xs xs (i : Int)) true := by
  intro d
  induction d with
  | zero =>
    intro i hd
    exact Ev.step (fun _ => laws_eqPieceS.l0.eq_2 ..) (ev_neg (by omega) (Ev.now true))
  | succ d ih =>
    intro i hd
    have hlt : i < xs.length := by omega
    refine Ev.step (fun _ => laws_eqPieceS.l0.eq_2 ..) (ev_pos (by omega) (ev_pos (by omega) (ev_pos (by omega) ?_)))
    rw [rd1Piece xs i hlt]
    refine Ev.bind (eqPiece_same _ (hi _ (List.getElem_mem hlt))) (ev_pos rfl ?_)
    rw [w64 (by omega) (by omega)]
    exact ih (i + 1) (by omega)
theorem eqPieceS_same (xs : List S81) (hn : xs.length ≤ 9223372036854775806) (hi : ∀ x ∈ xs, (ls1Piece x).length ≤ 9223372036854775807) : Ev (fun k => laws_eqPieceS.f k xs xs) true := by
  unfold laws_eqPieceS.f
  exact ev_pos rfl (eqPieceS_l0 xs hn hi xs.length 0 (by omega))
def costW (xs : List S81) (n : Int) : Int := xs.foldl (fun n x => wrap64 (n + (x.f2.length : Int))) n
theorem spec_CostOf_l0 (xs : List S81) (hn : xs.length ≤ 1048576) : ∀ (d i : Nat) (n : Int), i + d = xs.length → Ev (fun k => spec_CostOf.l0 k xs n (i : Int)) (costW (xs.drop i) n) := by
  intro d
  induction d with
  | zero =>
    intro i n hd
    refine Ev.step (fun _ => spec_CostOf.l0.eq_2 ..) (ev_neg (by omega) (ev_of ?_))
    rw [List.drop_eq_nil_of_le (by omega)]
    rfl
  | succ d ih =>
    intro i n hd
    have hlt : i < xs.length := by omega
    refine Ev.step (fun _ => spec_CostOf.l0.eq_2 ..) (ev_pos (by omega) (ev_pos (by omega) ?_))
    rw [rd1Piece xs i hlt, List.drop_eq_getElem_cons hlt, w64 (x := (i : Int) + 1) (by omega) (by omega)]
    exact ih (i + 1) _ (by omega)
theorem impl_CostOf_l0 (xs : List S81) (hn : xs.length ≤ 1048576) : ∀ (d i : Nat) (n : Int), i + d = xs.length → Ev (fun k => impl_CostOf.l0 k n xs (xs.length : Int) (i : Int)) (costW (xs.drop i) n) := by
  intro d
  induction d with
  | zero =>
    intro i n hd
    refine Ev.step (fun _ => impl_CostOf.l0.eq_2 ..) (ev_neg (by omega) (ev_of ?_))
    rw [List.drop_eq_nil_of_le (by omega)]
    rfl
  | succ d ih =>
    intro i n hd
    have hlt : i < xs.length := by omega
    refine Ev.step (fun _ => impl_CostOf.l0.eq_2 ..) (ev_pos (by omega) (ev_pos (by omega) (ev_pos (by omega) ?_)))
    rw [rd1Piece xs i hlt, List.drop_eq_getElem_cons hlt, w64 (x := (i : Int) + 1) (by omega) (by omega)]
    exact ih (i + 1) _ (by omega)
theorem FnExactCostOf : ∀ (x0 : List (S80)), (x0.length ≤ 9223372036854775807 ∧ ∀ y ∈ x0, g80 y) → ∃ k, laws_FnExactCostOf.f k x0 = some true := by
  intro xs hg
  obtain ⟨hl, hy⟩ := hg
  have hi : ∀ x ∈ xs, (ls0Piece x).length ≤ 9223372036854775807 := fun x hx => (hy x hx).2.2.1
  refine Ev.rounds (g := fun k => laws_FnExactCostOf.f k xs) ?_
  unfold laws_FnExactCostOf.f
  refine Ev.bind (szPieceS_ev xs 1048576 (by omega) (by omega) hl hi) ?_
  by_cases hb : szR 1048576 (xs.length + sumLen ls0Piece xs) < 0
  · exact ev_pos hb (Ev.now true)
  refine ev_neg hb ?_
  have hle := szR_le _ _ hb
  have hi2 : ∀ x ∈ xs, (ls0Piece x).length ≤ 1048576 := fun x hx => by have := sumLen_mem ls0Piece xs x hx; omega
  have hto := toPieceS_ev xs (by omega) (fun x hx => by have := hi2 x hx; omega)
  have hlen : (xs.map convPiece).length = xs.length := List.length_map ..
  refine Ev.bind hto ?_
  have h1 := spec_CostOf_l0 (xs.map convPiece) (by omega) _ 0 (((xs.map convPiece).length : Nat) : Int) (Nat.zero_add _)
  refine Ev.bind h1 ?_
  refine Ev.bind hto ?_
  have h2 := impl_CostOf_l0 (xs.map convPiece) (by omega) _ 0 (((xs.map convPiece).length : Nat) : Int) (Nat.zero_add _)
  refine Ev.bind h2 (ev_pos rfl ?_)
  refine Ev.bind hto ?_
  refine Ev.bind (eqPieceS_same _ (by omega) ?_) (ev_pos rfl (Ev.now true))
  intro x hx
  obtain ⟨y, hy', rfl⟩ := List.mem_map.1 hx
  exact hi y hy'

end Go.Proofs.Ytgcidlnhgpjdpab.Pure
