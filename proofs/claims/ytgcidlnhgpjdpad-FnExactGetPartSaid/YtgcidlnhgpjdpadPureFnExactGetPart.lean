/- The pure statement behind the law FnExactGetPart: over numbers and lists the law answers true, at every input that the row's bounds let in. -/
import Derived.Test.YtgcidlnhgpjdpadQFnExactGetPartx5
import Derived.Test.YtgcidlnhgpjdpadQFnExactGetPartg
namespace Go.Proofs.Ytgcidlnhgpjdpad.Pure
open Go Go.RowKit Go.Proofs.Ytgcidlnhgpjdpad.QFnExactGetPart Go.Proofs.YtgcidlnhgpjdpadW.PrintWords Go.Proofs.YtgcidlnhgpjdpadW.PrintLast Go.Proofs.YtgcidlnhgpjdpadW.PrintMore
set_option linter.unusedVariables false
set_option linter.unusedSimpArgs false
set_option maxRecDepth 100000

theorem w64 {x : Int} (h0 : -9223372036854775808 ≤ x) (h1 : x ≤ 9223372036854775807) : wrap64 x = x := by unfold wrap64; omega
theorem ev_pos {α : Type} {c : Prop} [Decidable c] {g f : Nat → Option α} {r : α} (h : c) (k : Ev g r) : Ev (fun n => if c then g n else f n) r := by
  obtain ⟨K, hK⟩ := k
  exact ⟨K, fun n hn => (if_pos h).trans (hK n hn)⟩
theorem ev_neg {α : Type} {c : Prop} [Decidable c] {g f : Nat → Option α} {r : α} (h : ¬ c) (k : Ev f r) : Ev (fun n => if c then g n else f n) r := by
  obtain ⟨K, hK⟩ := k
  exact ⟨K, fun n hn => (if_neg h).trans (hK n hn)⟩
theorem ev_bind0 {α β : Type} {o : Option α} {f : Nat → α → Option β} {a : α} {r : β} (h : o = some a) (k : Ev (fun n => f n a) r) : Ev (fun n => o.bind (f n)) r := by
  subst h
  exact k
theorem ev_of {α : Type} {o : Option α} {r : α} (h : o = some r) : Ev (fun _ => o) r := ⟨0, fun _ _ => h⟩
theorem rd_at (xs : List Int) (i : Nat) (h : i < xs.length) : rd xs (i : Int) = xs[i] := by
  unfold rd
  rw [Int.toNat_natCast, List.getD_eq_getElem?_getD, List.getElem?_eq_getElem h]
  rfl
theorem set_take {out xs : List Int} {i : Nat} (h : out.take i = xs.take i) (hl : out.length = xs.length) (hi : i < xs.length) : (out.set ((i : Int)).toNat (rd xs i)).take (i + 1) = xs.take (i + 1) := by
  rw [rd_at xs i hi, Int.toNat_natCast, List.take_succ_eq_append_getElem hi, List.take_succ_eq_append_getElem (by rw [List.length_set]; omega)]
  rw [List.take_set_of_le (Nat.le_refl _), h]
  simp
def seqFrom (m : Int) (n : Nat) : List Int := (List.range n).map fun (j : Nat) => m + (j : Int)
theorem seqFrom_length (m : Int) (n : Nat) : (seqFrom m n).length = n := by simp [seqFrom]
theorem seqFrom_get (m : Int) (n i : Nat) (h : i < n) : (seqFrom m n)[i]'(by rw [seqFrom_length]; exact h) = m + (i : Int) := by simp [seqFrom]
theorem seq_set {x ys : List Int} {i : Nat} (h : x.take i = ys.take i) (hl : x.length = ys.length) (hi : i < ys.length) {v : Int} (hv : ys[i] = v) : (x.set ((i : Int)).toNat v).take (i + 1) = ys.take (i + 1) := by
  subst hv
  rw [Int.toNat_natCast, List.take_succ_eq_append_getElem hi, List.take_succ_eq_append_getElem (by rw [List.length_set]; omega)]
  rw [List.take_set_of_le (Nat.le_refl _), h]
  simp
theorem toIntS_l0 (xs : List Int) (hn : xs.length ≤ 35184372088832) : ∀ (d i : Nat) (out : List Int), i + d = xs.length → out.length = xs.length → out.take i = xs.take i → Ev (fun k => laws_toIntS.l0 k xs out (i : Int)) xs := by
  intro d
  induction d with
  | zero =>
    intro i out hd hl ht
    refine Ev.step (fun _ => laws_toIntS.l0.eq_2 ..) (ev_neg (by omega) (ev_of ?_))
    rw [List.take_of_length_le (by omega), List.take_of_length_le (by omega)] at ht
    rw [ht]
  | succ d ih =>
    intro i out hd hl ht
    refine Ev.step (fun _ => laws_toIntS.l0.eq_2 ..) (ev_pos (by omega) (ev_pos (by omega) (ev_pos (by omega) ?_)))
    rw [w64 (by omega) (by omega)]
    exact ih (i + 1) _ (by omega) (by rw [List.length_set]; exact hl) (set_take ht hl (by omega))
theorem toIntS_ev (xs : List Int) (hn : xs.length ≤ 35184372088832) : Ev (fun k => laws_toIntS.f k xs) xs := by
  unfold laws_toIntS.f
  refine ev_pos (by omega) (ev_pos (by omega) ?_)
  exact toIntS_l0 xs hn xs.length 0 _ (by omega) (by simp) (by simp)
theorem eqIntS_l0 (xs : List Int) (hn : xs.length ≤ 9223372036854775807) : ∀ (d i : Nat), i + d = xs.length → Ev (fun k => laws_eqIntS.l0 k xs xs (i : Int)) true := by
  intro d
  induction d with
  | zero =>
    intro i hd
    exact Ev.step (fun _ => laws_eqIntS.l0.eq_2 ..) (ev_neg (by omega) (Ev.now true))
  | succ d ih =>
    intro i hd
    refine Ev.step (fun _ => laws_eqIntS.l0.eq_2 ..) (ev_pos (by omega) (ev_pos (by omega) (ev_pos (by omega) (ev_pos rfl ?_))))
    rw [w64 (by omega) (by omega)]
    exact ih (i + 1) (by omega)
theorem eqIntS_same (xs : List Int) (hn : xs.length ≤ 9223372036854775807) : Ev (fun k => laws_eqIntS.f k xs xs) true := by
  unfold laws_eqIntS.f
  exact ev_pos rfl (eqIntS_l0 xs hn xs.length 0 (by omega))
theorem markIntS_l0 : ∀ (d i : Nat) (m : Int) (x : List Int) (s : Int) (n : Nat), n = x.length → i + d = n → m = s + (i : Int) → 0 ≤ s → s + (n : Int) ≤ 4611686018427387904 → x.take i = (seqFrom s n).take i → Ev (fun k => laws_markIntS.l0 k x m (i : Int)) (s + (n : Int), seqFrom s n) := by
  intro d
  induction d with
  | zero =>
    intro i m x s n hn hd hm hs hb ht
    refine Ev.step (fun _ => laws_markIntS.l0.eq_2 ..) (ev_neg (by omega) (ev_of ?_))
    rw [List.take_of_length_le (by omega), List.take_of_length_le (by rw [seqFrom_length]; omega)] at ht
    rw [ht, show m = s + (n : Int) by omega]
  | succ d ih =>
    intro i m x s n hn hd hm hs hb ht
    refine Ev.step (fun _ => laws_markIntS.l0.eq_2 ..) (ev_pos (by omega) (ev_pos (by omega) ?_))
    rw [w64 (x := m + 1) (by omega) (by omega), w64 (x := (i : Int) + 1) (by omega) (by omega)]
    exact ih (i + 1) (m + 1) _ s n (by rw [List.length_set]; exact hn) (by omega) (by omega) hs hb (seq_set ht (by rw [seqFrom_length]; omega) (by rw [seqFrom_length]; omega) (by rw [seqFrom_get _ _ _ (by omega)]; omega))
theorem markIntS_ev (x : List Int) (s : Int) (hs : 0 ≤ s) (hb : s + (x.length : Int) ≤ 4611686018427387904) : Ev (fun k => laws_markIntS.f k x s) (s + (x.length : Int), seqFrom s x.length) := by
  unfold laws_markIntS.f
  exact markIntS_l0 x.length 0 s x s x.length rfl (by omega) (by omega) hs hb rfl
theorem heldIntS_l0 (s : Int) (n : Nat) (hs : 0 ≤ s) (hb : s + (n : Int) ≤ 4611686018427387904) : ∀ (d i : Nat) (m : Int), i + d = n → m = s + (i : Int) → Ev (fun k => laws_heldIntS.l0 k (seqFrom s n) m (i : Int)) (s + (n : Int)) := by
  intro d
  induction d with
  | zero =>
    intro i m hd hm
    refine Ev.step (fun _ => laws_heldIntS.l0.eq_2 ..) (ev_neg (by rw [seqFrom_length]; omega) (ev_of ?_))
    rw [show m = s + (n : Int) by omega]
  | succ d ih =>
    intro i m hd hm
    refine Ev.step (fun _ => laws_heldIntS.l0.eq_2 ..) (ev_pos (by rw [seqFrom_length]; omega) (ev_pos (by omega) (ev_pos ?_ ?_)))
    · rw [rd_at _ i (by rw [seqFrom_length]; omega), seqFrom_get _ _ _ (by omega)]
      omega
    · rw [w64 (x := m + 1) (by omega) (by omega), w64 (x := (i : Int) + 1) (by omega) (by omega)]
      exact ih (i + 1) (m + 1) (by omega) (by omega)
theorem heldIntS_ev (s : Int) (n : Nat) (hs : 0 ≤ s) (hb : s + (n : Int) ≤ 4611686018427387904) : Ev (fun k => laws_heldIntS.f k (seqFrom s n) s) (s + (n : Int)) := by
  unfold laws_heldIntS.f
  exact heldIntS_l0 s n hs hb n 0 s (by omega) (by omega)
theorem markResource_ev (a0 : Int) (l : List Int) (a2 a3 a4 s : Int) (hs : 0 ≤ s) (hb : s + (l.length : Int) ≤ 4611686018427387904) : Ev (fun k => laws_markResource.f k a0 l a2 a3 a4 s) (s + (l.length : Int), seqFrom s l.length) := by
  unfold laws_markResource.f
  exact Ev.bind (markIntS_ev l s hs hb) (Ev.now _)
theorem heldResource_ev (a0 : Int) (n : Nat) (a2 a3 a4 s : Int) (hs : 0 ≤ s) (hb : s + (n : Int) ≤ 4611686018427387904) : Ev (fun k => laws_heldResource.f k a0 (seqFrom s n) a2 a3 a4 s) (s + (n : Int)) := by
  unfold laws_heldResource.f
  exact Ev.bind (heldIntS_ev s n hs hb) (ev_neg (by omega) (Ev.now _))
def szR (a : Int) (n : Nat) : Int := if a - (n : Int) < 0 then -1 else a - (n : Int)
theorem szR_zero (a : Int) (h : 0 ≤ a) : szR a 0 = a := by unfold szR; rw [if_neg (by omega)]; omega
theorem szR_neg (a : Int) (n m : Nat) (h : szR a n < 0) : szR a (n + m) = -1 := by
  unfold szR at h ⊢
  by_cases c : a - (n : Int) < 0
  · rw [if_pos (by omega)]
  · rw [if_neg c] at h
    omega
theorem szR_neg1 (a : Int) (n : Nat) (h : szR a n < 0) : szR a n = -1 := by
  have := szR_neg a n 0 h
  rwa [Nat.add_zero] at this
theorem szR_add (a : Int) (n m : Nat) (h : ¬ szR a n < 0) : szR (szR a n) m = szR a (n + m) := by
  unfold szR at h ⊢
  by_cases c : a - (n : Int) < 0
  · rw [if_pos c] at h
    omega
  · rw [if_neg c]
    by_cases d : a - (n : Int) - (m : Int) < 0
    · rw [if_pos d, if_pos (by omega)]
    · rw [if_neg d, if_neg (by omega)]
      omega
theorem szR_le (a : Int) (n : Nat) (h : ¬ szR a n < 0) : (n : Int) ≤ a := by
  unfold szR at h
  by_cases c : a - (n : Int) < 0
  · rw [if_pos c] at h
    omega
  · omega
theorem szR_range (a : Int) (n : Nat) (h : ¬ szR a n < 0) : 0 ≤ szR a n ∧ szR a n ≤ a := by
  have := szR_le a n h
  unfold szR at h ⊢
  rw [if_neg (by omega)]
  omega
theorem szIntS_val (l : List Int) (a : Int) (h0 : 0 ≤ a) (h1 : a ≤ 9223372036854775807) (hl : l.length ≤ 9223372036854775807) : laws_szIntS.f l a = some (szR a l.length) := by
  unfold laws_szIntS.f szR
  rw [w64 (by omega) (by omega)]
  split <;> rfl
theorem some_neg {a : Int} (h : a < 0 → a = -1) : (if a < 0 then some (-1) else some a) = some a := by
  split
  · rw [h (by assumption)]
  · rfl
theorem getD_at {α : Type} (xs : List α) (z : α) (i : Nat) (h : i < xs.length) : xs.getD ((i : Int)).toNat z = xs[i] := by
  rw [Int.toNat_natCast, List.getD_eq_getElem?_getD, List.getElem?_eq_getElem h]
  rfl
theorem set_takeG {α : Type} {out ys : List α} {i : Nat} (h : out.take i = ys.take i) (hl : out.length = ys.length) (hi : i < ys.length) {v : α} (hv : ys[i] = v) : (out.set ((i : Int)).toNat v).take (i + 1) = ys.take (i + 1) := by
  subst hv
  rw [Int.toNat_natCast, List.take_succ_eq_append_getElem hi, List.take_succ_eq_append_getElem (by rw [List.length_set]; omega)]
  rw [List.take_set_of_le (Nat.le_refl _), h]
  simp
def sumLen {α : Type} (f : α → List Int) (xs : List α) : Nat := (xs.map fun x => (f x).length).sum
theorem sumLen_cons {α : Type} (f : α → List Int) (x : α) (xs : List α) : sumLen f (x :: xs) = (f x).length + sumLen f xs := by simp [sumLen]
theorem sumLen_mem {α : Type} (f : α → List Int) : ∀ (xs : List α) (x : α), x ∈ xs → (f x).length ≤ sumLen f xs
  | y :: xs, x, h => by
    rw [sumLen_cons]
    rcases List.mem_cons.1 h with rfl | h
    · omega
    · have := sumLen_mem f xs x h
      omega
theorem szResource_val (a0 : Int) (l : List Int) (a2 a3 a4 a : Int) (h0 : 0 ≤ a) (h1 : a ≤ 9223372036854775807) (hl : l.length ≤ 9223372036854775807) : laws_szResource.f a0 l a2 a3 a4 a = some (szR a l.length) := by
  unfold laws_szResource.f
  rw [szIntS_val l a h0 h1 hl, Option.bind_some]
  exact some_neg (szR_neg1 a _)
theorem toResource_ev (a0 : Int) (l : List Int) (a2 a3 a4 : Int) (hn : l.length ≤ 35184372088832) : Ev (fun k => laws_toResource.f k a0 l a2 a3 a4) (a0, l, a2, a3, a4) := by
  unfold laws_toResource.f laws_toAddress.f
  exact Ev.bind (toIntS_ev l hn) (Ev.now _)
theorem eqAddress_same (a b c : Int) : laws_eqAddress.f a b c a b c = some true := by
  unfold laws_eqAddress.f
  rw [if_pos rfl, if_pos rfl, if_pos rfl]
theorem eqResource_same (a0 : Int) (l : List Int) (a2 a3 a4 : Int) (hn : l.length ≤ 9223372036854775807) : Ev (fun k => laws_eqResource.f k a0 l a2 a3 a4 a0 l a2 a3 a4) true := by
  unfold laws_eqResource.f
  refine ev_pos rfl (Ev.bind (eqIntS_same l hn) (ev_pos rfl (ev_bind0 (eqAddress_same _ _ _) (ev_pos rfl (Ev.now _)))))
theorem rd0Part (xs : List S92) (i : Nat) (h : i < xs.length) : rd_T92 xs (i : Int) = xs[i] := getD_at xs z92 i h
theorem rd1Part (xs : List S94) (i : Nat) (h : i < xs.length) : rd_T94 xs (i : Int) = xs[i] := getD_at xs z94 i h
def ls0Part (x : S92) : List Int := x.f1.f1
def ls1Part (x : S94) : List Int := x.f1.f1
def convPart (x : S92) : S94 := ⟨x.f0, ⟨x.f1.f0, x.f1.f1, ⟨x.f1.f2.f0, x.f1.f2.f1, x.f1.f2.f2⟩⟩, x.f2⟩
theorem szPart_val (x : S92) (a : Int) (h0 : 0 ≤ a) (h1 : a ≤ 9223372036854775807) (hl : (ls0Part x).length ≤ 9223372036854775807) : laws_szPart.f x.f0 x.f1.f0 x.f1.f1 x.f1.f2.f0 x.f1.f2.f1 x.f1.f2.f2 x.f2 a = some (szR a (ls0Part x).length) := by
  unfold laws_szPart.f
  refine (congrArg (fun o => Option.bind o _) (szResource_val _ _ _ _ _ a h0 h1 hl)).trans ?_
  exact some_neg (szR_neg1 a _)
theorem szPartS_l0 (xs : List S92) (hi : ∀ x ∈ xs, (ls0Part x).length ≤ 9223372036854775807) (hn : xs.length ≤ 9223372036854775806) : ∀ (d i : Nat) (a : Int), i + d = xs.length → 0 ≤ a → a ≤ 9223372036854775807 → Ev (fun k => laws_szPartS.l0 k xs a (i : Int)) (szR a (sumLen ls0Part (xs.drop i))) := by
  intro d
  induction d with
  | zero =>
    intro i a hd h0 h1
    refine Ev.step (fun _ => laws_szPartS.l0.eq_2 ..) (ev_neg (by omega) (ev_of ?_))
    rw [List.drop_eq_nil_of_le (by omega)]
    exact congrArg some (szR_zero a h0).symm
  | succ d ih =>
    intro i a hd h0 h1
    refine Ev.step (fun _ => laws_szPartS.l0.eq_2 ..) (ev_pos (by omega) (ev_pos (by omega) ?_))
    have hlt : i < xs.length := by omega
    rw [rd0Part xs i hlt, List.drop_eq_getElem_cons hlt, sumLen_cons]
    refine ev_bind0 (szPart_val _ a h0 h1 (hi _ (List.getElem_mem hlt))) ?_
    by_cases c : szR a (ls0Part (xs[i]'hlt)).length < 0
    · refine ev_pos c (ev_of ?_)
      rw [szR_neg _ _ _ c]
    · refine ev_neg c ?_
      have hr := szR_range _ _ c
      rw [w64 (x := (i : Int) + 1) (by omega) (by omega), ← szR_add _ _ _ c]
      exact ih (i + 1) _ (by omega) (by omega) (by omega)
theorem szPartS_ev (xs : List S92) (a : Int) (h0 : 0 ≤ a) (h1 : a ≤ 9223372036854775806) (hl : xs.length ≤ 9223372036854775807) (hi : ∀ x ∈ xs, (ls0Part x).length ≤ 9223372036854775807) : Ev (fun k => laws_szPartS.f k xs a) (szR a (xs.length + sumLen ls0Part xs)) := by
  unfold laws_szPartS.f
  rw [w64 (by omega) (by omega)]
  by_cases c : a - (xs.length : Int) < 0
  · refine ev_pos c (ev_of ?_)
    rw [szR_neg _ _ _ (by unfold szR; rw [if_pos c]; omega)]
  · refine ev_neg c ?_
    have e : szR a xs.length = a - (xs.length : Int) := by unfold szR; rw [if_neg c]
    have h := szPartS_l0 xs hi (by omega) xs.length 0 (a - (xs.length : Int)) (by omega) (by omega) (by omega)
    rw [List.drop_zero, ← e, szR_add _ _ _ (by rw [e]; exact c), e] at h
    exact h
theorem toPart_ev (x : S92) (hn : (ls0Part x).length ≤ 35184372088832) : Ev (fun k => laws_toPart.f k x.f0 x.f1.f0 x.f1.f1 x.f1.f2.f0 x.f1.f2.f1 x.f1.f2.f2 x.f2) (x.f0, x.f1.f0, x.f1.f1, x.f1.f2.f0, x.f1.f2.f1, x.f1.f2.f2, x.f2) := by
  unfold laws_toPart.f
  exact Ev.bind (toResource_ev _ _ _ _ _ hn) (Ev.now _)
theorem toPartS_l0 (xs : List S92) (hn : xs.length ≤ 1048576) (hi : ∀ x ∈ xs, (ls0Part x).length ≤ 35184372088832) : ∀ (d i : Nat) (out : List S94), i + d = xs.length → out.length = xs.length → out.take i = (xs.map convPart).take i → Ev (fun k => laws_toPartS.l0 k xs out (i : Int)) (xs.map convPart) := by
  intro d
  induction d with
  | zero =>
    intro i out hd hl ht
    refine Ev.step (fun _ => laws_toPartS.l0.eq_2 ..) (ev_neg (by omega) (ev_of ?_))
    rw [List.take_of_length_le (by omega), List.take_of_length_le (by rw [List.length_map]; omega)] at ht
    rw [ht]
  | succ d ih =>
    intro i out hd hl ht
    have hlt : i < xs.length := by omega
    refine Ev.step (fun _ => laws_toPartS.l0.eq_2 ..) (ev_pos (by omega) (ev_pos (by omega) ?_))
    rw [rd0Part xs i hlt]
    refine Ev.bind (toPart_ev _ (hi _ (List.getElem_mem hlt))) (ev_pos (by omega) ?_)
    rw [w64 (by omega) (by omega)]
    exact ih (i + 1) _ (by omega) (by rw [List.length_set]; exact hl) (set_takeG ht (by rw [List.length_map]; exact hl) (by rw [List.length_map]; exact hlt) (by rw [List.getElem_map]; rfl))
theorem toPartS_ev (xs : List S92) (hn : xs.length ≤ 1048576) (hi : ∀ x ∈ xs, (ls0Part x).length ≤ 35184372088832) : Ev (fun k => laws_toPartS.f k xs) (xs.map convPart) := by
  unfold laws_toPartS.f
  refine ev_pos (by omega) (ev_pos (by omega) ?_)
  exact toPartS_l0 xs hn hi xs.length 0 _ (by omega) (by simp) (by simp)
theorem eqPart_same (x : S94) (hn : (ls1Part x).length ≤ 9223372036854775807) : Ev (fun k => laws_eqPart.f k x.f0 x.f1.f0 x.f1.f1 x.f1.f2.f0 x.f1.f2.f1 x.f1.f2.f2 x.f2 x.f0 x.f1.f0 x.f1.f1 x.f1.f2.f0 x.f1.f2.f1 x.f1.f2.f2 x.f2) true := by
  unfold laws_eqPart.f
  exact ev_pos rfl (Ev.bind (eqResource_same _ _ _ _ _ hn) (ev_pos rfl (ev_pos rfl (Ev.now _))))
theorem eqPartS_l0 (xs : List S94) (hn : xs.length ≤ 9223372036854775806) (hi : ∀ x ∈ xs, (ls1Part x).length ≤ 9223372036854775807) : ∀ (d i : Nat), i + d = xs.length → Ev (fun k => laws_eqPartS.l0 k xs xs (i : Int)) true := by
  intro d
  induction d with
  | zero =>
    intro i hd
    exact Ev.step (fun _ => laws_eqPartS.l0.eq_2 ..) (ev_neg (by omega) (Ev.now true))
  | succ d ih =>
    intro i hd
    have hlt : i < xs.length := by omega
    refine Ev.step (fun _ => laws_eqPartS.l0.eq_2 ..) (ev_pos (by omega) (ev_pos (by omega) (ev_pos (by omega) ?_)))
    rw [rd1Part xs i hlt]
    refine Ev.bind (eqPart_same _ (hi _ (List.getElem_mem hlt))) (ev_pos rfl ?_)
    rw [w64 (by omega) (by omega)]
    exact ih (i + 1) (by omega)
theorem eqPartS_same (xs : List S94) (hn : xs.length ≤ 9223372036854775806) (hi : ∀ x ∈ xs, (ls1Part x).length ≤ 9223372036854775807) : Ev (fun k => laws_eqPartS.f k xs xs) true := by
  unfold laws_eqPartS.f
  exact ev_pos rfl (eqPartS_l0 xs hn hi xs.length 0 (by omega))
theorem l5Copy_val (a : Int) (l : List Int) (b c d : Int) (hl : l.length ≤ 1048576) : spec_l5Copy.f a l b c d = some (a, l, b, c, d) := by
  unfold spec_l5Copy.f
  rw [Option.bind_some, if_pos (by simp; omega), List.nil_append]
theorem copyResource_val (a : Int) (l : List Int) (b c d : Int) (hl : l.length ≤ 1048576) : impl_copyResource.f a l b c d = some (a, l, b, c, d) := by
  unfold impl_copyResource.f slices_Clone_int_int.f
  rw [Option.bind_some, if_pos (by simp; omega), List.nil_append, Option.bind_some]
theorem find_l0 (xs : List S94) (a : Int) (hn : xs.length ≤ 1048576) : ∀ (d i : Nat), i + d = xs.length → ∃ t : Int, Ev (fun k => spec_l7Find.l0 k xs a (i : Int)) t ∧ Ev (fun k => impl_partAt.l0 k xs a (i : Int)) t ∧ (t = -1 ∨ ∃ j : Nat, t = (j : Int) ∧ j < xs.length) := by
  intro d
  induction d with
  | zero =>
    intro i hd
    exact ⟨-1, Ev.step (fun _ => spec_l7Find.l0.eq_2 ..) (ev_neg (by omega) (Ev.now _)), Ev.step (fun _ => impl_partAt.l0.eq_2 ..) (ev_neg (by omega) (Ev.now _)), .inl rfl⟩
  | succ d ih =>
    intro i hd
    have hlt : i < xs.length := by omega
    by_cases h : (xs[i]).f0 = a
    · refine ⟨(i : Int), Ev.step (fun _ => spec_l7Find.l0.eq_2 ..) (ev_pos (by omega) (ev_pos (by omega) ?_)), Ev.step (fun _ => impl_partAt.l0.eq_2 ..) (ev_pos (by omega) (ev_pos (by omega) ?_)), .inr ⟨i, rfl, hlt⟩⟩
      · rw [rd1Part xs i hlt]
        exact ev_pos h (Ev.now _)
      · rw [rd1Part xs i hlt]
        exact ev_pos h (Ev.now _)
    · obtain ⟨t, e1, e2, ht⟩ := ih (i + 1) (by omega)
      refine ⟨t, Ev.step (fun _ => spec_l7Find.l0.eq_2 ..) (ev_pos (by omega) (ev_pos (by omega) ?_)), Ev.step (fun _ => impl_partAt.l0.eq_2 ..) (ev_pos (by omega) (ev_pos (by omega) ?_)), ht⟩
      · rw [rd1Part xs i hlt, w64 (x := (i : Int) + 1) (by omega) (by omega)]
        exact ev_neg h e1
      · rw [rd1Part xs i hlt, w64 (x := (i : Int) + 1) (by omega) (by omega)]
        exact ev_neg h e2
theorem bump_val : ∀ (n : Nat) (a : Int), 0 ≤ a → a + (n : Int) ≤ 4611686018427387904 → bump n a = a + (n : Int) := by
  intro n
  induction n with
  | zero => intro a _ _; show a = _; omega
  | succ n ih =>
    intro a h0 h1
    show bump n (wrap64 (a + 1)) = _
    rw [w64 (by omega) (by omega), ih (a + 1) (by omega) (by omega)]
    omega
theorem markPart_cnt (l : List S94) : laws_markPartS.cnt l = 6 * l.length + sumLen ls1Part l := by
  induction l with
  | nil => rfl
  | cons x l ih =>
    unfold laws_markPartS.cnt at ih ⊢
    rw [List.map_cons, List.sum_cons, ih, sumLen_cons, List.length_cons]
    show 6 + (ls1Part x).length + _ = _
    omega
theorem markPart_val (l : List S94) (h : laws_markPartS.cnt l ≤ 1073741824) : ∃ m, laws_markPartS.f l 1 = some m ∧ 0 ≤ m := by
  refine ⟨_, rfl, ?_⟩
  rw [bump_val _ 1 (by omega) (by omega)]
  omega
theorem sumLen_convPart (l : List S92) : sumLen ls1Part (l.map convPart) = sumLen ls0Part l := by
  induction l with
  | nil => rfl
  | cons x l ih => rw [List.map_cons, sumLen_cons, sumLen_cons, ih]; rfl
abbrev Get6 := Int × List Int × Int × Int × Int × Bool
theorem get_ev (xs : List S94) (a : Int) (hn : xs.length ≤ 1048576) (hi : ∀ x ∈ xs, (ls1Part x).length ≤ 1048576) : ∃ R : Get6, Ev (fun k => spec_GetPart.f k xs a) R ∧ Ev (fun k => impl_GetPart.f k xs a) R ∧ R.2.1.length ≤ 1048576 := by
  obtain ⟨t, e1, e2, ht⟩ := find_l0 xs a hn xs.length 0 (Nat.zero_add _)
  unfold spec_GetPart.f impl_GetPart.f spec_l7Find.f impl_partAt.f
  rcases ht with ht | ⟨j, ht, hj⟩
  · exact ⟨(0, [], 0, 0, 0, false), Ev.bind e1 (ev_pos (by omega) (Ev.now _)), Ev.bind e2 (ev_pos (by omega) (Ev.now _)), Nat.zero_le _⟩
  · subst ht
    have hl := hi _ (List.getElem_mem hj)
    refine ⟨((xs[j]).f1.f0, (xs[j]).f1.f1, (xs[j]).f1.f2.f0, (xs[j]).f1.f2.f1, (xs[j]).f1.f2.f2, true), Ev.bind e1 (ev_neg (by omega) (ev_pos (by omega) (ev_pos (by omega) ?_))), Ev.bind e2 (ev_neg (by omega) (ev_pos (by omega) (ev_pos (by omega) ?_))), hl⟩
    · rw [rd1Part xs j hj]
      exact ev_bind0 (l5Copy_val _ _ _ _ _ hl) (Ev.now _)
    · rw [rd1Part xs j hj]
      exact ev_bind0 (copyResource_val _ _ _ _ _ hl) (Ev.now _)
theorem FnExactGetPart : ∀ (x0 : List (S92)) (x1 : Int), (x0.length ≤ 9223372036854775807 ∧ ∀ y ∈ x0, g92 y) → ((Lit.int .i64 x1).wf = true) → ∃ k, laws_FnExactGetPart.f k x0 x1 = some true := by
  intro xs a hg _
  obtain ⟨hl, hy⟩ := hg
  have hi : ∀ x ∈ xs, (ls0Part x).length ≤ 9223372036854775807 := fun x hx => (hy x hx).2.1.2.1.1
  refine Ev.rounds (g := fun k => laws_FnExactGetPart.f k xs a) ?_
  unfold laws_FnExactGetPart.f
  refine Ev.bind (szPartS_ev xs 1048576 (by omega) (by omega) hl hi) ?_
  by_cases hb : szR 1048576 (xs.length + sumLen ls0Part xs) < 0
  · exact ev_pos hb (Ev.now true)
  refine ev_neg hb ?_
  have hle := szR_le _ _ hb
  have hi2 : ∀ x ∈ xs, (ls0Part x).length ≤ 1048576 := fun x hx => by have := sumLen_mem ls0Part xs x hx; omega
  have hto := toPartS_ev xs (by omega) (fun x hx => by have := hi2 x hx; omega)
  have hlen : (xs.map convPart).length = xs.length := List.length_map ..
  have hc : ∀ x ∈ xs.map convPart, (ls1Part x).length ≤ 1048576 := by
    intro x hx
    obtain ⟨y, hy', rfl⟩ := List.mem_map.1 hx
    exact hi2 y hy'
  obtain ⟨m, hm, hm0⟩ := markPart_val (xs.map convPart) (by rw [markPart_cnt, sumLen_convPart, hlen]; omega)
  obtain ⟨r, e1, e2, hr⟩ := get_ev (xs.map convPart) a (by omega) hc
  have hq := eqResource_same r.1 r.2.1 r.2.2.1 r.2.2.2.1 r.2.2.2.2.1 (by omega)
  have hx := eqPartS_same (xs.map convPart) (by omega) (fun x hx => by have := hc x hx; omega)
  have hne : ¬ ((r.2.2.2.2.2 != r.2.2.2.2.2) = true) := by simp
  refine Ev.bind hto (Ev.bind e1 (Ev.bind hto (Ev.bind e2 (Ev.bind hq (ev_pos rfl ?_)))))
  refine Ev.step (fun _ => laws_FnExactGetPart.j0.eq_2 ..) (ev_neg hne ?_)
  refine Ev.bind hto (Ev.bind hx (ev_pos rfl (ev_bind0 hm (ev_neg (by omega) (Ev.bind hq (ev_pos rfl ?_))))))
  refine Ev.step (fun _ => laws_FnExactGetPart.j1.eq_2 ..) (ev_neg hne ?_)
  refine Ev.bind (markResource_ev _ _ _ _ _ 1 (by omega) (by omega)) ?_
  refine Ev.bind (heldResource_ev _ _ _ _ _ 1 (by omega) (by omega)) (ev_neg (by omega) (ev_pos rfl ?_))
  refine Ev.bind hto (Ev.bind e2 (Ev.bind hq (ev_pos rfl ?_)))
  refine Ev.step (fun _ => laws_FnExactGetPart.j2.eq_2 ..) (ev_neg hne ?_)
  exact Ev.bind (heldResource_ev _ _ _ _ _ 1 (by omega) (by omega)) (ev_neg (by omega) (ev_pos rfl (Ev.now true)))

end Go.Proofs.Ytgcidlnhgpjdpad.Pure
