/- The pure statement behind the law FnExactEqualStores: over numbers and lists the law answers true, at every input that the row's bounds let in. -/
import Derived.Test.YtgcidlnhgpjdpacQFnExactEqualStoresx5
import Derived.Test.YtgcidlnhgpjdpacQFnExactEqualStoresg
namespace Go.Proofs.Ytgcidlnhgpjdpac.Pure
open Go Go.RowKit Go.Proofs.Ytgcidlnhgpjdpac.QFnExactEqualStores Go.Proofs.YtgcidlnhgpjdpacW.PrintWords Go.Proofs.YtgcidlnhgpjdpacW.PrintLast Go.Proofs.YtgcidlnhgpjdpacW.PrintMore
set_option linter.unusedVariables false
set_option linter.unusedSimpArgs false
set_option maxRecDepth 100000

theorem w64 {x : Int} (h0 : -9223372036854775808 ≤ x) (h1 : x ≤ 9223372036854775807) : wrap64 x = x := by unfold wrap64; omega
theorem ev_pos {α : Type} {c : Prop} [Decidable c] {g f : Nat → Option α} {r : α} (h : c) (k : Ev g r) : Ev (fun n => if c then g n else f n) r := by
  obtain ⟨K, hK⟩ := k
  exact ⟨K, fun n hn => (if_pos h).trans (hK n hn)⟩
theorem ev_neg {α : Type} {c : Prop} [Decidable c] {g f : Nat → Option α} {r : α} (h : ¬ c) (k : Ev f r) : Ev (fun n => if c then g n else f n) r := by
  obtain ⟨K, hK⟩ := k
  exact ⟨K, fun n hn => (if_neg h).trans (hK n hn)⟩
theorem ev_bind0 {α β : Type} {o : Option α} {f : Nat → α → Option β} {a : α} {r : β} (h : o = some a) (k : Ev (fun n => f n a) r) : Ev (fun n => o.bind (f n)) r := by
  subst h
  exact k
theorem ev_of {α : Type} {o : Option α} {r : α} (h : o = some r) : Ev (fun _ => o) r := ⟨0, fun _ _ => h⟩
theorem rd_at (xs : List Int) (i : Nat) (h : i < xs.length) : rd xs (i : Int) = xs[i] := by
  unfold rd
  rw [Int.toNat_natCast, List.getD_eq_getElem?_getD, List.getElem?_eq_getElem h]
  rfl
theorem set_take {out xs : List Int} {i : Nat} (h : out.take i = xs.take i) (hl : out.length = xs.length) (hi : i < xs.length) : (out.set ((i : Int)).toNat (rd xs i)).take (i + 1) = xs.take (i + 1) := by
  rw [rd_at xs i hi, Int.toNat_natCast, List.take_succ_eq_append_getElem hi, List.take_succ_eq_append_getElem (by rw [List.length_set]; omega)]
  rw [List.take_set_of_le (Nat.le_refl _), h]
  simp
theorem toIntS_l0 (xs : List Int) (hn : xs.length ≤ 35184372088832) : ∀ (d i : Nat) (out : List Int), i + d = xs.length → out.length = xs.length → out.take i = xs.take i → Ev (fun k => laws_toIntS.l0 k xs out (i : Int)) xs := by
  intro d
  induction d with
  | zero =>
    intro i out hd hl ht
    refine Ev.step (fun _ => laws_toIntS.l0.eq_2 ..) (ev_neg (by omega) (ev_of ?_))
    rw [List.take_of_length_le (by omega), List.take_of_length_le (by omega)] at ht
    rw [ht]
  | succ d ih =>
    intro i out hd hl ht
    refine Ev.step (fun _ => laws_toIntS.l0.eq_2 ..) (ev_pos (by omega) (ev_pos (by omega) (ev_pos (by omega) ?_)))
    rw [w64 (by omega) (by omega)]
    exact ih (i + 1) _ (by omega) (by rw [List.length_set]; exact hl) (set_take ht hl (by omega))
theorem toIntS_ev (xs : List Int) (hn : xs.length ≤ 35184372088832) : Ev (fun k => laws_toIntS.f k xs) xs := by
  unfold laws_toIntS.f
  refine ev_pos (by omega) (ev_pos (by omega) ?_)
  exact toIntS_l0 xs hn xs.length 0 _ (by omega) (by simp) (by simp)
theorem eqIntS_l0 (xs : List Int) (hn : xs.length ≤ 9223372036854775807) : ∀ (d i : Nat), i + d = xs.length → Ev (fun k => laws_eqIntS.l0 k xs xs (i : Int)) true := by
  intro d
  induction d with
  | zero =>
    intro i hd
    exact Ev.step (fun _ => laws_eqIntS.l0.eq_2 ..) (ev_neg (by omega) (Ev.now true))
  | succ d ih =>
    intro i hd
    refine Ev.step (fun _ => laws_eqIntS.l0.eq_2 ..) (ev_pos (by omega) (ev_pos (by omega) (ev_pos (by omega) (ev_pos rfl ?_))))
    rw [w64 (by omega) (by omega)]
    exact ih (i + 1) (by omega)
theorem eqIntS_same (xs : List Int) (hn : xs.length ≤ 9223372036854775807) : Ev (fun k => laws_eqIntS.f k xs xs) true := by
  unfold laws_eqIntS.f
  exact ev_pos rfl (eqIntS_l0 xs hn xs.length 0 (by omega))
def szR (a : Int) (n : Nat) : Int := if a - (n : Int) < 0 then -1 else a - (n : Int)
theorem szR_zero (a : Int) (h : 0 ≤ a) : szR a 0 = a := by unfold szR; rw [if_neg (by omega)]; omega
theorem szR_neg (a : Int) (n m : Nat) (h : szR a n < 0) : szR a (n + m) = -1 := by
  unfold szR at h ⊢
  by_cases c : a - (n : Int) < 0
  · rw [if_pos (by omega)]
  · rw [if_neg c] at h
    omega
theorem szR_neg1 (a : Int) (n : Nat) (h : szR a n < 0) : szR a n = -1 := by
  have := szR_neg a n 0 h
  rwa [Nat.add_zero] at this
theorem szR_add (a : Int) (n m : Nat) (h : ¬ szR a n < 0) : szR (szR a n) m = szR a (n + m) := by
  unfold szR at h ⊢
  by_cases c : a - (n : Int) < 0
  · rw [if_pos c] at h
    omega
  · rw [if_neg c]
    by_cases d : a - (n : Int) - (m : Int) < 0
    · rw [if_pos d, if_pos (by omega)]
    · rw [if_neg d, if_neg (by omega)]
      omega
theorem szR_le (a : Int) (n : Nat) (h : ¬ szR a n < 0) : (n : Int) ≤ a := by
  unfold szR at h
  by_cases c : a - (n : Int) < 0
  · rw [if_pos c] at h
    omega
  · omega
theorem szR_range (a : Int) (n : Nat) (h : ¬ szR a n < 0) : 0 ≤ szR a n ∧ szR a n ≤ a := by
  have := szR_le a n h
  unfold szR at h ⊢
  rw [if_neg (by omega)]
  omega
theorem szIntS_val (l : List Int) (a : Int) (h0 : 0 ≤ a) (h1 : a ≤ 9223372036854775807) (hl : l.length ≤ 9223372036854775807) : laws_szIntS.f l a = some (szR a l.length) := by
  unfold laws_szIntS.f szR
  rw [w64 (by omega) (by omega)]
  split <;> rfl
theorem some_neg {a : Int} (h : a < 0 → a = -1) : (if a < 0 then some (-1) else some a) = some a := by
  split
  · rw [h (by assumption)]
  · rfl
theorem getD_at {α : Type} (xs : List α) (z : α) (i : Nat) (h : i < xs.length) : xs.getD ((i : Int)).toNat z = xs[i] := by
  rw [Int.toNat_natCast, List.getD_eq_getElem?_getD, List.getElem?_eq_getElem h]
  rfl
theorem set_takeG {α : Type} {out ys : List α} {i : Nat} (h : out.take i = ys.take i) (hl : out.length = ys.length) (hi : i < ys.length) {v : α} (hv : ys[i] = v) : (out.set ((i : Int)).toNat v).take (i + 1) = ys.take (i + 1) := by
  subst hv
  rw [Int.toNat_natCast, List.take_succ_eq_append_getElem hi, List.take_succ_eq_append_getElem (by rw [List.length_set]; omega)]
  rw [List.take_set_of_le (Nat.le_refl _), h]
  simp
def sumLen {α : Type} (f : α → List Int) (xs : List α) : Nat := (xs.map fun x => (f x).length).sum
theorem sumLen_cons {α : Type} (f : α → List Int) (x : α) (xs : List α) : sumLen f (x :: xs) = (f x).length + sumLen f xs := by simp [sumLen]
theorem sumLen_mem {α : Type} (f : α → List Int) : ∀ (xs : List α) (x : α), x ∈ xs → (f x).length ≤ sumLen f xs
  | y :: xs, x, h => by
    rw [sumLen_cons]
    rcases List.mem_cons.1 h with rfl | h
    · omega
    · have := sumLen_mem f xs x h
      omega
theorem szResource_val (a0 : Int) (l : List Int) (a2 a3 a4 a : Int) (h0 : 0 ≤ a) (h1 : a ≤ 9223372036854775807) (hl : l.length ≤ 9223372036854775807) : laws_szResource.f a0 l a2 a3 a4 a = some (szR a l.length) := by
  unfold laws_szResource.f
  rw [szIntS_val l a h0 h1 hl, Option.bind_some]
  exact some_neg (szR_neg1 a _)
theorem toResource_ev (a0 : Int) (l : List Int) (a2 a3 a4 : Int) (hn : l.length ≤ 35184372088832) : Ev (fun k => laws_toResource.f k a0 l a2 a3 a4) (a0, l, a2, a3, a4) := by
  unfold laws_toResource.f laws_toAddress.f
  exact Ev.bind (toIntS_ev l hn) (Ev.now _)
theorem eqAddress_same (a b c : Int) : laws_eqAddress.f a b c a b c = some true := by
  unfold laws_eqAddress.f
  rw [if_pos rfl, if_pos rfl, if_pos rfl]
theorem eqResource_same (a0 : Int) (l : List Int) (a2 a3 a4 : Int) (hn : l.length ≤ 9223372036854775807) : Ev (fun k => laws_eqResource.f k a0 l a2 a3 a4 a0 l a2 a3 a4) true := by
  unfold laws_eqResource.f
  refine ev_pos rfl (Ev.bind (eqIntS_same l hn) (ev_pos rfl (ev_bind0 (eqAddress_same _ _ _) (ev_pos rfl (Ev.now _)))))
theorem rd0Part (xs : List S118) (i : Nat) (h : i < xs.length) : rd_T118 xs (i : Int) = xs[i] := getD_at xs z118 i h
theorem rd1Part (xs : List S120) (i : Nat) (h : i < xs.length) : rd_T120 xs (i : Int) = xs[i] := getD_at xs z120 i h
def ls0Part (x : S118) : List Int := x.f1.f1
def ls1Part (x : S120) : List Int := x.f1.f1
def convPart (x : S118) : S120 := ⟨x.f0, ⟨x.f1.f0, x.f1.f1, ⟨x.f1.f2.f0, x.f1.f2.f1, x.f1.f2.f2⟩⟩, x.f2⟩
theorem szPart_val (x : S118) (a : Int) (h0 : 0 ≤ a) (h1 : a ≤ 9223372036854775807) (hl : (ls0Part x).length ≤ 9223372036854775807) : laws_szPart.f x.f0 x.f1.f0 x.f1.f1 x.f1.f2.f0 x.f1.f2.f1 x.f1.f2.f2 x.f2 a = some (szR a (ls0Part x).length) := by
  unfold laws_szPart.f
  refine (congrArg (fun o => Option.bind o _) (szResource_val _ _ _ _ _ a h0 h1 hl)).trans ?_
  exact some_neg (szR_neg1 a _)
theorem szPartS_l0 (xs : List S118) (hi : ∀ x ∈ xs, (ls0Part x).length ≤ 9223372036854775807) (hn : xs.length ≤ 9223372036854775806) : ∀ (d i : Nat) (a : Int), i + d = xs.length → 0 ≤ a → a ≤ 9223372036854775807 → Ev (fun k => laws_szPartS.l0 k xs a (i : Int)) (szR a (sumLen ls0Part (xs.drop i))) := by
  intro d
  induction d with
  | zero =>
    intro i a hd h0 h1
    refine Ev.step (fun _ => laws_szPartS.l0.eq_2 ..) (ev_neg (by omega) (ev_of ?_))
    rw [List.drop_eq_nil_of_le (by omega)]
    exact congrArg some (szR_zero a h0).symm
  | succ d ih =>
    intro i a hd h0 h1
    refine Ev.step (fun _ => laws_szPartS.l0.eq_2 ..) (ev_pos (by omega) (ev_pos (by omega) ?_))
    have hlt : i < xs.length := by omega
    rw [rd0Part xs i hlt, List.drop_eq_getElem_cons hlt, sumLen_cons]
    refine ev_bind0 (szPart_val _ a h0 h1 (hi _ (List.getElem_mem hlt))) ?_
    by_cases c : szR a (ls0Part (xs[i]'hlt)).length < 0
    · refine ev_pos c (ev_of ?_)
      rw [szR_neg _ _ _ c]
    · refine ev_neg c ?_
      have hr := szR_range _ _ c
      rw [w64 (x := (i : Int) + 1) (by omega) (by omega), ← szR_add _ _ _ c]
      exact ih (i + 1) _ (by omega) (by omega) (by omega)
theorem szPartS_ev (xs : List S118) (a : Int) (h0 : 0 ≤ a) (h1 : a ≤ 9223372036854775806) (hl : xs.length ≤ 9223372036854775807) (hi : ∀ x ∈ xs, (ls0Part x).length ≤ 9223372036854775807) : Ev (fun k => laws_szPartS.f k xs a) (szR a (xs.length + sumLen ls0Part xs)) := by
  unfold laws_szPartS.f
  rw [w64 (by omega) (by omega)]
  by_cases c : a - (xs.length : Int) < 0
  · refine ev_pos c (ev_of ?_)
    rw [szR_neg _ _ _ (by unfold szR; rw [if_pos c]; omega)]
  · refine ev_neg c ?_
    have e : szR a xs.length = a - (xs.length : Int) := by unfold szR; rw [if_neg c]
    have h := szPartS_l0 xs hi (by omega) xs.length 0 (a - (xs.length : Int)) (by omega) (by omega) (by omega)
    rw [List.drop_zero, ← e, szR_add _ _ _ (by rw [e]; exact c), e] at h
    exact h
theorem toPart_ev (x : S118) (hn : (ls0Part x).length ≤ 35184372088832) : Ev (fun k => laws_toPart.f k x.f0 x.f1.f0 x.f1.f1 x.f1.f2.f0 x.f1.f2.f1 x.f1.f2.f2 x.f2) (x.f0, x.f1.f0, x.f1.f1, x.f1.f2.f0, x.f1.f2.f1, x.f1.f2.f2, x.f2) := by
  unfold laws_toPart.f
  exact Ev.bind (toResource_ev _ _ _ _ _ hn) (Ev.now _)
theorem toPartS_l0 (xs : List S118) (hn : xs.length ≤ 1048576) (hi : ∀ x ∈ xs, (ls0Part x).length ≤ 35184372088832) : ∀ (d i : Nat) (out : List S120), i + d = xs.length → out.length = xs.length → out.take i = (xs.map convPart).take i → Ev (fun k => laws_toPartS.l0 k xs out (i : Int)) (xs.map convPart) := by
  intro d
  induction d with
  | zero =>
    intro i out hd hl ht
    refine Ev.step (fun _ => laws_toPartS.l0.eq_2 ..) (ev_neg (by omega) (ev_of ?_))
    rw [List.take_of_length_le (by omega), List.take_of_length_le (by rw [List.length_map]; omega)] at ht
    rw [ht]
  | succ d ih =>
    intro i out hd hl ht
    have hlt : i < xs.length := by omega
    refine Ev.step (fun _ => laws_toPartS.l0.eq_2 ..) (ev_pos (by omega) (ev_pos (by omega) ?_))
    rw [rd0Part xs i hlt]
    refine Ev.bind (toPart_ev _ (hi _ (List.getElem_mem hlt))) (ev_pos (by omega) ?_)
    rw [w64 (by omega) (by omega)]
    exact ih (i + 1) _ (by omega) (by rw [List.length_set]; exact hl) (set_takeG ht (by rw [List.length_map]; exact hl) (by rw [List.length_map]; exact hlt) (by rw [List.getElem_map]; rfl))
theorem toPartS_ev (xs : List S118) (hn : xs.length ≤ 1048576) (hi : ∀ x ∈ xs, (ls0Part x).length ≤ 35184372088832) : Ev (fun k => laws_toPartS.f k xs) (xs.map convPart) := by
  unfold laws_toPartS.f
  refine ev_pos (by omega) (ev_pos (by omega) ?_)
  exact toPartS_l0 xs hn hi xs.length 0 _ (by omega) (by simp) (by simp)
theorem eqPart_same (x : S120) (hn : (ls1Part x).length ≤ 9223372036854775807) : Ev (fun k => laws_eqPart.f k x.f0 x.f1.f0 x.f1.f1 x.f1.f2.f0 x.f1.f2.f1 x.f1.f2.f2 x.f2 x.f0 x.f1.f0 x.f1.f1 x.f1.f2.f0 x.f1.f2.f1 x.f1.f2.f2 x.f2) true := by
  unfold laws_eqPart.f
  exact ev_pos rfl (Ev.bind (eqResource_same _ _ _ _ _ hn) (ev_pos rfl (ev_pos rfl (Ev.now _))))
theorem eqPartS_l0 (xs : List S120) (hn : xs.length ≤ 9223372036854775806) (hi : ∀ x ∈ xs, (ls1Part x).length ≤ 9223372036854775807) : ∀ (d i : Nat), i + d = xs.length → Ev (fun k => laws_eqPartS.l0 k xs xs (i : Int)) true := by
  intro d
  induction d with
  | zero =>
    intro i hd
    exact Ev.step (fun _ => laws_eqPartS.l0.eq_2 ..) (ev_neg (by omega) (Ev.now true))
  | succ d ih =>
    intro i hd
    have hlt : i < xs.length := by omega
    refine Ev.step (fun _ => laws_eqPartS.l0.eq_2 ..) (ev_pos (by omega) (ev_pos (by omega) (ev_pos (by omega) ?_)))
    rw [rd1Part xs i hlt]
    refine Ev.bind (eqPart_same _ (hi _ (List.getElem_mem hlt))) (ev_pos rfl ?_)
    rw [w64 (by omega) (by omega)]
    exact ih (i + 1) (by omega)
theorem eqPartS_same (xs : List S120) (hn : xs.length ≤ 9223372036854775806) (hi : ∀ x ∈ xs, (ls1Part x).length ≤ 9223372036854775807) : Ev (fun k => laws_eqPartS.f k xs xs) true := by
  unfold laws_eqPartS.f
  exact ev_pos rfl (eqPartS_l0 xs hn hi xs.length 0 (by omega))
theorem slices_Equal_int_int_l0 (xs ys : List Int) (hl : xs.length = ys.length) (hn : xs.length ≤ 9223372036854775807) : ∀ (d i : Nat), i + d = xs.length → Ev (fun k => slices_Equal_int_int.l0 k xs ys (xs.length : Int) (i : Int)) (decide (xs.drop i = ys.drop i)) := by
  intro d
  induction d with
  | zero =>
    intro i hd
    refine Ev.step (fun _ => slices_Equal_int_int.l0.eq_2 ..) (ev_neg (by omega) (ev_of ?_))
    rw [List.drop_eq_nil_of_le (by omega), List.drop_eq_nil_of_le (by omega)]
    rfl
  | succ d ih =>
    intro i hd
    refine Ev.step (fun _ => slices_Equal_int_int.l0.eq_2 ..) (ev_pos (by omega) (ev_pos (by omega) (ev_pos (by omega) (ev_pos (by omega) ?_))))
    rw [rd_at xs i (by omega), rd_at ys i (by omega), List.drop_eq_getElem_cons (show i < xs.length by omega), List.drop_eq_getElem_cons (show i < ys.length by omega)]
    by_cases he : xs[i]'(by omega) = ys[i]'(by omega)
    · refine ev_pos he ?_
      rw [w64 (by omega) (by omega)]
      have h := ih (i + 1) (by omega)
      simp only [he, List.cons.injEq, true_and]
      exact h
    · exact ev_neg he (ev_of (congrArg some (decide_eq_false (fun h => he (List.cons.inj h).1)).symm))
theorem slices_Equal_int_int_ev (xs ys : List Int) (hn : xs.length ≤ 9223372036854775807) : Ev (fun k => slices_Equal_int_int.f k xs ys) (decide (xs = ys)) := by
  unfold slices_Equal_int_int.f
  by_cases hl : xs.length = ys.length
  · exact ev_pos (by omega) (slices_Equal_int_int_l0 xs ys hl hn xs.length 0 (by omega))
  · refine ev_neg (by omega) (ev_of ?_)
    rw [decide_eq_false (fun h => hl (by rw [h]))]
theorem spec_EqualInts_l0 (xs ys : List Int) (hl : xs.length = ys.length) (hn : xs.length ≤ 9223372036854775807) : ∀ (d i : Nat), i + d = xs.length → Ev (fun k => spec_EqualInts.l0 k xs ys (i : Int)) (decide (xs.drop i = ys.drop i)) := by
  intro d
  induction d with
  | zero =>
    intro i hd
    refine Ev.step (fun _ => spec_EqualInts.l0.eq_2 ..) (ev_neg (by omega) (ev_of ?_))
    rw [List.drop_eq_nil_of_le (by omega), List.drop_eq_nil_of_le (by omega)]
    rfl
  | succ d ih =>
    intro i hd
    refine Ev.step (fun _ => spec_EqualInts.l0.eq_2 ..) (ev_pos (by omega) (ev_pos (by omega) (ev_pos (by omega) ?_)))
    rw [rd_at xs i (by omega), rd_at ys i (by omega), List.drop_eq_getElem_cons (show i < xs.length by omega), List.drop_eq_getElem_cons (show i < ys.length by omega)]
    by_cases he : xs[i]'(by omega) = ys[i]'(by omega)
    · refine ev_pos he ?_
      rw [w64 (by omega) (by omega)]
      have h := ih (i + 1) (by omega)
      simp only [he, List.cons.injEq, true_and]
      exact h
    · exact ev_neg he (ev_of (congrArg some (decide_eq_false (fun h => he (List.cons.inj h).1)).symm))
theorem spec_EqualInts_ev (xs ys : List Int) (hn : xs.length ≤ 9223372036854775807) : Ev (fun k => spec_EqualInts.f k xs ys) (decide (xs = ys)) := by
  unfold spec_EqualInts.f
  by_cases hl : xs.length = ys.length
  · exact ev_pos (by omega) (spec_EqualInts_l0 xs ys hl hn xs.length 0 (by omega))
  · refine ev_neg (by omega) (ev_of ?_)
    rw [decide_eq_false (fun h => hl (by rw [h]))]
def eqR (a0 : Int) (l : List Int) (a2 a3 a4 : Int) (b0 : Int) (m : List Int) (b2 b3 b4 : Int) : Bool := decide (a0 = b0 ∧ (a2 == b2 && (a3 == b3 && (a4 == b4))) = true ∧ l = m)
theorem spec_EqualResources_ev (a0 : Int) (l : List Int) (a2 a3 a4 : Int) (b0 : Int) (m : List Int) (b2 b3 b4 : Int) (hl : l.length ≤ 9223372036854775807) : Ev (fun k => spec_EqualResources.f k a0 l a2 a3 a4 b0 m b2 b3 b4) (eqR a0 l a2 a3 a4 b0 m b2 b3 b4) := by
  unfold spec_EqualResources.f
  by_cases h : a0 = b0
  · refine ev_pos h ?_
    by_cases h2 : (a2 == b2 && (a3 == b3 && (a4 == b4))) = true
    · refine ev_pos h2 ?_
      have e : eqR a0 l a2 a3 a4 b0 m b2 b3 b4 = decide (l = m) := by unfold eqR; exact decide_eq_decide.2 ⟨fun w => w.2.2, fun w => ⟨h, h2, w⟩⟩
      rw [e]
      exact Ev.bind (spec_EqualInts_ev l m hl) (Ev.now _)
    · exact ev_neg h2 (ev_of (congrArg some (decide_eq_false (fun w => h2 w.2.1)).symm))
  · exact ev_neg h (ev_of (congrArg some (decide_eq_false (fun w => h w.1)).symm))
theorem impl_EqualResources_ev (a0 : Int) (l : List Int) (a2 a3 a4 : Int) (b0 : Int) (m : List Int) (b2 b3 b4 : Int) (hl : l.length ≤ 9223372036854775807) : Ev (fun k => impl_EqualResources.f k a0 l a2 a3 a4 b0 m b2 b3 b4) (eqR a0 l a2 a3 a4 b0 m b2 b3 b4) := by
  unfold impl_EqualResources.f
  by_cases h : a0 = b0
  · refine ev_pos h ?_
    by_cases h2 : (a2 == b2 && (a3 == b3 && (a4 == b4))) = true
    · refine ev_pos h2 ?_
      have e : eqR a0 l a2 a3 a4 b0 m b2 b3 b4 = decide (l = m) := by unfold eqR; exact decide_eq_decide.2 ⟨fun w => w.2.2, fun w => ⟨h, h2, w⟩⟩
      rw [e]
      exact Ev.bind (slices_Equal_int_int_ev l m hl) (Ev.now _)
    · exact ev_neg h2 (ev_of (congrArg some (decide_eq_false (fun w => h2 w.2.1)).symm))
  · exact ev_neg h (ev_of (congrArg some (decide_eq_false (fun w => h w.1)).symm))
theorem stores_l0 (xs ys : List S120) (he : xs.length = ys.length) (hn : xs.length ≤ 1048576) (hi : ∀ x ∈ xs, (ls1Part x).length ≤ 1048576) : ∀ (d i : Nat), i + d = xs.length → ∃ b : Bool, Ev (fun k => spec_EqualStores.l0 k xs ys (i : Int)) b ∧ Ev (fun k => impl_EqualStores.l0 k ys xs (xs.length : Int) (i : Int)) b := by
  intro d
  induction d with
  | zero =>
    intro i hd
    exact ⟨true, Ev.step (fun _ => spec_EqualStores.l0.eq_2 ..) (ev_neg (by omega) (Ev.now _)), Ev.step (fun _ => impl_EqualStores.l0.eq_2 ..) (ev_neg (by omega) (Ev.now _))⟩
  | succ d ih =>
    intro i hd
    have hx : i < xs.length := by omega
    have hy : i < ys.length := by omega
    have hl : (xs[i]).f1.f1.length ≤ 1048576 := hi _ (List.getElem_mem hx)
    obtain ⟨b, s1, s2⟩ := ih (i + 1) (by omega)
    have sp : ∀ c : Bool, Ev (fun k => if (xs[i]).f0 = (ys[i]).f0 then (if (xs[i]).f2 = (ys[i]).f2 then ((spec_EqualResources.f k (xs[i]).f1.f0 (xs[i]).f1.f1 (xs[i]).f1.f2.f0 (xs[i]).f1.f2.f1 (xs[i]).f1.f2.f2 (ys[i]).f1.f0 (ys[i]).f1.f1 (ys[i]).f1.f2.f0 (ys[i]).f1.f2.f1 (ys[i]).f1.f2.f2).bind fun t => (if t = true then (spec_EqualStores.l0 k xs ys ((i + 1 : Nat) : Int)) else (some false))) else (some false)) else (some false)) c → Ev (fun k => spec_EqualStores.l0 k xs ys (i : Int)) c := by
      intro c h
      refine Ev.step (fun _ => spec_EqualStores.l0.eq_2 ..) (ev_pos (by omega) (ev_pos (by omega) (ev_pos (by omega) ?_)))
      rw [rd1Part xs i hx, rd1Part ys i hy, w64 (x := (i : Int) + 1) (by omega) (by omega)]
      exact h
    have im : ∀ c t : Bool, Ev (fun k => impl_EqualStores_c1.f k (xs[i]).f0 (xs[i]).f1.f0 (xs[i]).f1.f1 (xs[i]).f1.f2.f0 (xs[i]).f1.f2.f1 (xs[i]).f1.f2.f2 (xs[i]).f2 (ys[i]).f0 (ys[i]).f1.f0 (ys[i]).f1.f1 (ys[i]).f1.f2.f0 (ys[i]).f1.f2.f1 (ys[i]).f1.f2.f2 (ys[i]).f2) t → Ev (fun k => if t = true then (impl_EqualStores.l0 k ys xs (xs.length : Int) ((i + 1 : Nat) : Int)) else (some false)) c → Ev (fun k => impl_EqualStores.l0 k ys xs (xs.length : Int) (i : Int)) c := by
      intro c t h1 h2
      refine Ev.step (fun _ => impl_EqualStores.l0.eq_2 ..) (ev_pos (by omega) (ev_pos (by omega) (ev_pos (by omega) (ev_pos (by omega) ?_))))
      rw [rd1Part xs i hx, rd1Part ys i hy, w64 (x := (i : Int) + 1) (by omega) (by omega)]
      exact Ev.bind h1 h2
    by_cases h0 : (xs[i]).f0 = (ys[i]).f0
    · by_cases h2 : (xs[i]).f2 = (ys[i]).f2
      · have e1 := spec_EqualResources_ev (xs[i]).f1.f0 (xs[i]).f1.f1 (xs[i]).f1.f2.f0 (xs[i]).f1.f2.f1 (xs[i]).f1.f2.f2 (ys[i]).f1.f0 (ys[i]).f1.f1 (ys[i]).f1.f2.f0 (ys[i]).f1.f2.f1 (ys[i]).f1.f2.f2 (by omega)
        have e2 := impl_EqualResources_ev (xs[i]).f1.f0 (xs[i]).f1.f1 (xs[i]).f1.f2.f0 (xs[i]).f1.f2.f1 (xs[i]).f1.f2.f2 (ys[i]).f1.f0 (ys[i]).f1.f1 (ys[i]).f1.f2.f0 (ys[i]).f1.f2.f1 (ys[i]).f1.f2.f2 (by omega)
        generalize eqR (xs[i]).f1.f0 (xs[i]).f1.f1 (xs[i]).f1.f2.f0 (xs[i]).f1.f2.f1 (xs[i]).f1.f2.f2 (ys[i]).f1.f0 (ys[i]).f1.f1 (ys[i]).f1.f2.f0 (ys[i]).f1.f2.f1 (ys[i]).f1.f2.f2 = q at e1 e2
        have ec : Ev (fun k => impl_EqualStores_c1.f k (xs[i]).f0 (xs[i]).f1.f0 (xs[i]).f1.f1 (xs[i]).f1.f2.f0 (xs[i]).f1.f2.f1 (xs[i]).f1.f2.f2 (xs[i]).f2 (ys[i]).f0 (ys[i]).f1.f0 (ys[i]).f1.f1 (ys[i]).f1.f2.f0 (ys[i]).f1.f2.f1 (ys[i]).f1.f2.f2 (ys[i]).f2) q := by
          unfold impl_EqualStores_c1.f
          exact ev_pos h0 (ev_pos h2 (Ev.bind e2 (Ev.now _)))
        cases q with
        | true => exact ⟨b, sp _ (ev_pos h0 (ev_pos h2 (Ev.bind e1 (ev_pos rfl s1)))), im _ _ ec (ev_pos rfl s2)⟩
        | false => exact ⟨false, sp _ (ev_pos h0 (ev_pos h2 (Ev.bind e1 (ev_neg (by decide) (Ev.now _))))), im _ _ ec (ev_neg (by decide) (Ev.now _))⟩
      · refine ⟨false, sp _ (ev_pos h0 (ev_neg h2 (Ev.now _))), im _ false ?_ (ev_neg (by decide) (Ev.now _))⟩
        unfold impl_EqualStores_c1.f
        exact ev_pos h0 (ev_neg h2 (Ev.now _))
    · refine ⟨false, sp _ (ev_neg h0 (Ev.now _)), im _ false ?_ (ev_neg (by decide) (Ev.now _))⟩
      unfold impl_EqualStores_c1.f
      exact ev_neg h0 (Ev.now _)
theorem stores_ev (xs ys : List S120) (hn : xs.length ≤ 1048576) (hi : ∀ x ∈ xs, (ls1Part x).length ≤ 1048576) : ∃ b : Bool, Ev (fun k => spec_EqualStores.f k xs ys) b ∧ Ev (fun k => impl_EqualStores.f k xs ys) b := by
  unfold spec_EqualStores.f impl_EqualStores.f
  by_cases he : (xs.length : Int) = (ys.length : Int)
  · obtain ⟨b, s1, s2⟩ := stores_l0 xs ys (by omega) hn hi xs.length 0 (by omega)
    exact ⟨b, ev_pos he s1, ev_pos he s2⟩
  · exact ⟨false, ev_neg he (Ev.now _), ev_neg he (Ev.now _)⟩
theorem FnExactEqualStores : ∀ (x0 : List (S118)) (x1 : List (S118)), (x0.length ≤ 9223372036854775807 ∧ ∀ y ∈ x0, g118 y) → (x1.length ≤ 9223372036854775807 ∧ ∀ y ∈ x1, g118 y) → ∃ k, laws_FnExactEqualStores.f k x0 x1 = some true := by
  intro xs ys hgx hgy
  have hi : ∀ x ∈ xs, (ls0Part x).length ≤ 9223372036854775807 := fun x hx => (hgx.2 x hx).2.1.2.1.1
  have hj : ∀ x ∈ ys, (ls0Part x).length ≤ 9223372036854775807 := fun x hx => (hgy.2 x hx).2.1.2.1.1
  refine Ev.rounds (g := fun k => laws_FnExactEqualStores.f k xs ys) ?_
  unfold laws_FnExactEqualStores.f
  refine Ev.bind (szPartS_ev xs 1048576 (by omega) (by omega) hgx.1 hi) ?_
  by_cases hb : szR 1048576 (xs.length + sumLen ls0Part xs) < 0
  · exact ev_pos hb (Ev.now true)
  have hle := szR_le _ _ hb
  have hr := szR_range _ _ hb
  refine ev_neg hb (Ev.bind (szPartS_ev ys _ hr.1 (by omega) hgy.1 hj) ?_)
  by_cases hb2 : szR (szR 1048576 (xs.length + sumLen ls0Part xs)) (ys.length + sumLen ls0Part ys) < 0
  · exact ev_pos hb2 (Ev.now true)
  have hle2 := szR_le _ _ hb2
  refine ev_neg hb2 ?_
  have hi2 : ∀ x ∈ xs, (ls0Part x).length ≤ 1048576 := fun x hx => by have := sumLen_mem ls0Part xs x hx; omega
  have hj2 : ∀ x ∈ ys, (ls0Part x).length ≤ 1048576 := fun x hx => by have := sumLen_mem ls0Part ys x hx; omega
  have tx := toPartS_ev xs (by omega) (fun x hx => by have := hi2 x hx; omega)
  have ty := toPartS_ev ys (by omega) (fun x hx => by have := hj2 x hx; omega)
  have lx : (xs.map convPart).length = xs.length := List.length_map ..
  have ly : (ys.map convPart).length = ys.length := List.length_map ..
  have cx : ∀ x ∈ xs.map convPart, (ls1Part x).length ≤ 1048576 := by
    intro x hx
    obtain ⟨y, hy', rfl⟩ := List.mem_map.1 hx
    exact hi2 y hy'
  have cy : ∀ x ∈ ys.map convPart, (ls1Part x).length ≤ 1048576 := by
    intro x hx
    obtain ⟨y, hy', rfl⟩ := List.mem_map.1 hx
    exact hj2 y hy'
  obtain ⟨b, e1, e2⟩ := stores_ev (xs.map convPart) (ys.map convPart) (by omega) cx
  have qx := eqPartS_same (xs.map convPart) (by omega) (fun x hx => by have := cx x hx; omega)
  have qy := eqPartS_same (ys.map convPart) (by omega) (fun x hx => by have := cy x hx; omega)
  exact Ev.bind tx (Ev.bind ty (Ev.bind e1 (Ev.bind tx (Ev.bind ty (Ev.bind e2 (ev_neg (by simp) (Ev.bind tx (Ev.bind qx (ev_pos rfl (Ev.bind ty (Ev.bind qy (ev_pos rfl (Ev.now true)))))))))))))

end Go.Proofs.Ytgcidlnhgpjdpac.Pure
