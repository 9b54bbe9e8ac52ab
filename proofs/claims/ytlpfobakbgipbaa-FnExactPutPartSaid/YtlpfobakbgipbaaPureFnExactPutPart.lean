/- The pure statement behind the law FnExactPutPart: over numbers and lists the law answers true, at every input that the row's bounds let in. -/
import Derived.Test.YtlpfobakbgipbaaQFnExactPutPartx11
import Derived.Test.YtlpfobakbgipbaaQFnExactPutPartg
namespace Go.Proofs.Ytlpfobakbgipbaa.Pure
open Go Go.RowKit Go.Proofs.Ytlpfobakbgipbaa.QFnExactPutPart Go.Proofs.YtlpfobakbgipbaaW.PrintWords Go.Proofs.YtlpfobakbgipbaaW.PrintLast Go.Proofs.YtlpfobakbgipbaaW.PrintMore
set_option linter.unusedVariables false
set_option linter.unusedSimpArgs false
set_option maxRecDepth 100000

theorem w64 {x : Int} (h0 : -9223372036854775808 ≤ x) (h1 : x ≤ 9223372036854775807) : wrap64 x = x := by unfold wrap64; omega
theorem ev_pos {α : Type} {c : Prop} [Decidable c] {g f : Nat → Option α} {r : α} (h : c) (k : Ev g r) : Ev (fun n => if c then g n else f n) r := by
  obtain ⟨K, hK⟩ := k
  exact ⟨K, fun n hn => (if_pos h).trans (hK n hn)⟩
theorem ev_neg {α : Type} {c : Prop} [Decidable c] {g f : Nat → Option α} {r : α} (h : ¬ c) (k : Ev f r) : Ev (fun n => if c then g n else f n) r := by
  obtain ⟨K, hK⟩ := k
  exact ⟨K, fun n hn => (if_neg h).trans (hK n hn)⟩
theorem ev_bind0 {α β : Type} {o : Option α} {f : Nat → α → Option β} {a : α} {r : β} (h : o = some a) (k : Ev (fun n => f n a) r) : Ev (fun n => o.bind (f n)) r := by
  subst h
  exact k
theorem ev_of {α : Type} {o : Option α} {r : α} (h : o = some r) : Ev (fun _ => o) r := ⟨0, fun _ _ => h⟩
theorem rd_at (xs : List Int) (i : Nat) (h : i < xs.length) : rd xs (i : Int) = xs[i] := by
  unfold rd
  rw [Int.toNat_natCast, List.getD_eq_getElem?_getD, List.getElem?_eq_getElem h]
  rfl
theorem set_take {out xs : List Int} {i : Nat} (h : out.take i = xs.take i) (hl : out.length = xs.length) (hi : i < xs.length) : (out.set ((i : Int)).toNat (rd xs i)).take (i + 1) = xs.take (i + 1) := by
  rw [rd_at xs i hi, Int.toNat_natCast, List.take_succ_eq_append_getElem hi, List.take_succ_eq_append_getElem (by rw [List.length_set]; omega)]
  rw [List.take_set_of_le (Nat.le_refl _), h]
  simp
def seqFrom (m : Int) (n : Nat) : List Int := (List.range n).map fun (j : Nat) => m + (j : Int)
theorem seqFrom_length (m : Int) (n : Nat) : (seqFrom m n).length = n := by simp [seqFrom]
theorem seqFrom_get (m : Int) (n i : Nat) (h : i < n) : (seqFrom m n)[i]'(by rw [seqFrom_length]; exact h) = m + (i : Int) := by simp [seqFrom]
theorem seq_set {x ys : List Int} {i : Nat} (h : x.take i = ys.take i) (hl : x.length = ys.length) (hi : i < ys.length) {v : Int} (hv : ys[i] = v) : (x.set ((i : Int)).toNat v).take (i + 1) = ys.take (i + 1) := by
  subst hv
  rw [Int.toNat_natCast, List.take_succ_eq_append_getElem hi, List.take_succ_eq_append_getElem (by rw [List.length_set]; omega)]
  rw [List.take_set_of_le (Nat.le_refl _), h]
  simp
theorem toIntS_l0 (xs : List Int) (hn : xs.length ≤ 35184372088832) : ∀ (d i : Nat) (out : List Int), i + d = xs.length → out.length = xs.length → out.take i = xs.take i → Ev (fun k => laws_toIntS.l0 k xs out (i : Int)) xs := by
  intro d
  induction d with
  | zero =>
    intro i out hd hl ht
    refine Ev.step (fun _ => laws_toIntS.l0.eq_2 ..) (ev_neg (by omega) (ev_of ?_))
    rw [List.take_of_length_le (by omega), List.take_of_length_le (by omega)] at ht
    rw [ht]
  | succ d ih =>
    intro i out hd hl ht
    refine Ev.step (fun _ => laws_toIntS.l0.eq_2 ..) (ev_pos (by omega) (ev_pos (by omega) (ev_pos (by omega) ?_)))
    rw [w64 (by omega) (by omega)]
    exact ih (i + 1) _ (by omega) (by rw [List.length_set]; exact hl) (set_take ht hl (by omega))
theorem toIntS_ev (xs : List Int) (hn : xs.length ≤ 35184372088832) : Ev (fun k => laws_toIntS.f k xs) xs := by
  unfold laws_toIntS.f
  refine ev_pos (by omega) (ev_pos (by omega) ?_)
  exact toIntS_l0 xs hn xs.length 0 _ (by omega) (by simp) (by simp)
theorem eqIntS_l0 (xs : List Int) (hn : xs.length ≤ 9223372036854775807) : ∀ (d i : Nat), i + d = xs.length → Ev (fun k => laws_eqIntS.l0 k xs xs (i : Int)) true := by
  intro d
  induction d with
  | zero =>
    intro i hd
    exact Ev.step (fun _ => laws_eqIntS.l0.eq_2 ..) (ev_neg (by omega) (Ev.now true))
  | succ d ih =>
    intro i hd
    refine Ev.step (fun _ => laws_eqIntS.l0.eq_2 ..) (ev_pos (by omega) (ev_pos (by omega) (ev_pos (by omega) (ev_pos rfl ?_))))
    rw [w64 (by omega) (by omega)]
    exact ih (i + 1) (by omega)
theorem eqIntS_same (xs : List Int) (hn : xs.length ≤ 9223372036854775807) : Ev (fun k => laws_eqIntS.f k xs xs) true := by
  unfold laws_eqIntS.f
  exact ev_pos rfl (eqIntS_l0 xs hn xs.length 0 (by omega))
theorem markIntS_l0 : ∀ (d i : Nat) (m : Int) (x : List Int) (s : Int) (n : Nat), n = x.length → i + d = n → m = s + (i : Int) → 0 ≤ s → s + (n : Int) ≤ 4611686018427387904 → x.take i = (seqFrom s n).take i → Ev (fun k => laws_markIntS.l0 k x m (i : Int)) (s + (n : Int), seqFrom s n) := by
  intro d
  induction d with
  | zero =>
    intro i m x s n hn hd hm hs hb ht
    refine Ev.step (fun _ => laws_markIntS.l0.eq_2 ..) (ev_neg (by omega) (ev_of ?_))
    rw [List.take_of_length_le (by omega), List.take_of_length_le (by rw [seqFrom_length]; omega)] at ht
    rw [ht, show m = s + (n : Int) by omega]
  | succ d ih =>
    intro i m x s n hn hd hm hs hb ht
    refine Ev.step (fun _ => laws_markIntS.l0.eq_2 ..) (ev_pos (by omega) (ev_pos (by omega) ?_))
    rw [w64 (x := m + 1) (by omega) (by omega), w64 (x := (i : Int) + 1) (by omega) (by omega)]
    exact ih (i + 1) (m + 1) _ s n (by rw [List.length_set]; exact hn) (by omega) (by omega) hs hb (seq_set ht (by rw [seqFrom_length]; omega) (by rw [seqFrom_length]; omega) (by rw [seqFrom_get _ _ _ (by omega)]; omega))
theorem markIntS_ev (x : List Int) (s : Int) (hs : 0 ≤ s) (hb : s + (x.length : Int) ≤ 4611686018427387904) : Ev (fun k => laws_markIntS.f k x s) (s + (x.length : Int), seqFrom s x.length) := by
  unfold laws_markIntS.f
  exact markIntS_l0 x.length 0 s x s x.length rfl (by omega) (by omega) hs hb rfl
theorem heldIntS_l0 (s : Int) (n : Nat) (hs : 0 ≤ s) (hb : s + (n : Int) ≤ 4611686018427387904) : ∀ (d i : Nat) (m : Int), i + d = n → m = s + (i : Int) → Ev (fun k => laws_heldIntS.l0 k (seqFrom s n) m (i : Int)) (s + (n : Int)) := by
  intro d
  induction d with
  | zero =>
    intro i m hd hm
    refine Ev.step (fun _ => laws_heldIntS.l0.eq_2 ..) (ev_neg (by rw [seqFrom_length]; omega) (ev_of ?_))
    rw [show m = s + (n : Int) by omega]
  | succ d ih =>
    intro i m hd hm
    refine Ev.step (fun _ => laws_heldIntS.l0.eq_2 ..) (ev_pos (by rw [seqFrom_length]; omega) (ev_pos (by omega) (ev_pos ?_ ?_)))
    · rw [rd_at _ i (by rw [seqFrom_length]; omega), seqFrom_get _ _ _ (by omega)]
      omega
    · rw [w64 (x := m + 1) (by omega) (by omega), w64 (x := (i : Int) + 1) (by omega) (by omega)]
      exact ih (i + 1) (m + 1) (by omega) (by omega)
theorem heldIntS_ev (s : Int) (n : Nat) (hs : 0 ≤ s) (hb : s + (n : Int) ≤ 4611686018427387904) : Ev (fun k => laws_heldIntS.f k (seqFrom s n) s) (s + (n : Int)) := by
  unfold laws_heldIntS.f
  exact heldIntS_l0 s n hs hb n 0 s (by omega) (by omega)
def szR (a : Int) (n : Nat) : Int := if a - (n : Int) < 0 then -1 else a - (n : Int)
theorem szR_zero (a : Int) (h : 0 ≤ a) : szR a 0 = a := by unfold szR; rw [if_neg (by omega)]; omega
theorem szR_neg (a : Int) (n m : Nat) (h : szR a n < 0) : szR a (n + m) = -1 := by
  unfold szR at h ⊢
  by_cases c : a - (n : Int) < 0
  · rw [if_pos (by omega)]
  · rw [if_neg c] at h
    omega
theorem szR_neg1 (a : Int) (n : Nat) (h : szR a n < 0) : szR a n = -1 := by
  have := szR_neg a n 0 h
  rwa [Nat.add_zero] at this
theorem szR_add (a : Int) (n m : Nat) (h : ¬ szR a n < 0) : szR (szR a n) m = szR a (n + m) := by
  unfold szR at h ⊢
  by_cases c : a - (n : Int) < 0
  · rw [if_pos c] at h
    omega
  · rw [if_neg c]
    by_cases d : a - (n : Int) - (m : Int) < 0
    · rw [if_pos d, if_pos (by omega)]
    · rw [if_neg d, if_neg (by omega)]
      omega
theorem szR_le (a : Int) (n : Nat) (h : ¬ szR a n < 0) : (n : Int) ≤ a := by
  unfold szR at h
  by_cases c : a - (n : Int) < 0
  · rw [if_pos c] at h
    omega
  · omega
theorem szR_range (a : Int) (n : Nat) (h : ¬ szR a n < 0) : 0 ≤ szR a n ∧ szR a n ≤ a := by
  have := szR_le a n h
  unfold szR at h ⊢
  rw [if_neg (by omega)]
  omega
theorem szIntS_val (l : List Int) (a : Int) (h0 : 0 ≤ a) (h1 : a ≤ 9223372036854775807) (hl : l.length ≤ 9223372036854775807) : laws_szIntS.f l a = some (szR a l.length) := by
  unfold laws_szIntS.f szR
  rw [w64 (by omega) (by omega)]
  split <;> rfl
theorem some_neg {a : Int} (h : a < 0 → a = -1) : (if a < 0 then some (-1) else some a) = some a := by
  split
  · rw [h (by assumption)]
  · rfl
theorem getD_at {α : Type} (xs : List α) (z : α) (i : Nat) (h : i < xs.length) : xs.getD ((i : Int)).toNat z = xs[i] := by
  rw [Int.toNat_natCast, List.getD_eq_getElem?_getD, List.getElem?_eq_getElem h]
  rfl
theorem set_takeG {α : Type} {out ys : List α} {i : Nat} (h : out.take i = ys.take i) (hl : out.length = ys.length) (hi : i < ys.length) {v : α} (hv : ys[i] = v) : (out.set ((i : Int)).toNat v).take (i + 1) = ys.take (i + 1) := by
  subst hv
  rw [Int.toNat_natCast, List.take_succ_eq_append_getElem hi, List.take_succ_eq_append_getElem (by rw [List.length_set]; omega)]
  rw [List.take_set_of_le (Nat.le_refl _), h]
  simp
def sumLen {α : Type} (f : α → List Int) (xs : List α) : Nat := (xs.map fun x => (f x).length).sum
theorem sumLen_cons {α : Type} (f : α → List Int) (x : α) (xs : List α) : sumLen f (x :: xs) = (f x).length + sumLen f xs := by simp [sumLen]
theorem sumLen_mem {α : Type} (f : α → List Int) : ∀ (xs : List α) (x : α), x ∈ xs → (f x).length ≤ sumLen f xs
  | y :: xs, x, h => by
    rw [sumLen_cons]
    rcases List.mem_cons.1 h with rfl | h
    · omega
    · have := sumLen_mem f xs x h
      omega
theorem szResource_val (a0 : Int) (l : List Int) (a2 a3 a4 a : Int) (h0 : 0 ≤ a) (h1 : a ≤ 9223372036854775807) (hl : l.length ≤ 9223372036854775807) : laws_szResource.f a0 l a2 a3 a4 a = some (szR a l.length) := by
  unfold laws_szResource.f
  rw [szIntS_val l a h0 h1 hl, Option.bind_some]
  exact some_neg (szR_neg1 a _)
theorem toResource_ev (a0 : Int) (l : List Int) (a2 a3 a4 : Int) (hn : l.length ≤ 35184372088832) : Ev (fun k => laws_toResource.f k a0 l a2 a3 a4) (a0, l, a2, a3, a4) := by
  unfold laws_toResource.f laws_toAddress.f
  exact Ev.bind (toIntS_ev l hn) (Ev.now _)
theorem eqAddress_same (a b c : Int) : laws_eqAddress.f a b c a b c = some true := by
  unfold laws_eqAddress.f
  rw [if_pos rfl, if_pos rfl, if_pos rfl]
theorem eqResource_same (a0 : Int) (l : List Int) (a2 a3 a4 : Int) (hn : l.length ≤ 9223372036854775807) : Ev (fun k => laws_eqResource.f k a0 l a2 a3 a4 a0 l a2 a3 a4) true := by
  unfold laws_eqResource.f
  refine ev_pos rfl (Ev.bind (eqIntS_same l hn) (ev_pos rfl (ev_bind0 (eqAddress_same _ _ _) (ev_pos rfl (Ev.now _)))))
theorem rd0Part (xs : List S59) (i : Nat) (h : i < xs.length) : rd_T59 xs (i : Int) = xs[i] := getD_at xs z59 i h
theorem rd1Part (xs : List S63) (i : Nat) (h : i < xs.length) : rd_T63 xs (i : Int) = xs[i] := getD_at xs z63 i h
def ls0Part (x : S59) : List Int := x.f1.f1
def ls1Part (x : S63) : List Int := x.f1.f1
def convPart (x : S59) : S63 := ⟨x.f0, ⟨x.f1.f0, x.f1.f1, ⟨x.f1.f2.f0, x.f1.f2.f1, x.f1.f2.f2⟩⟩, x.f2⟩
theorem szPart_val (x : S59) (a : Int) (h0 : 0 ≤ a) (h1 : a ≤ 9223372036854775807) (hl : (ls0Part x).length ≤ 9223372036854775807) : laws_szPart.f x.f0 x.f1.f0 x.f1.f1 x.f1.f2.f0 x.f1.f2.f1 x.f1.f2.f2 x.f2 a = some (szR a (ls0Part x).length) := by
  unfold laws_szPart.f
  refine (congrArg (fun o => Option.bind o _) (szResource_val _ _ _ _ _ a h0 h1 hl)).trans ?_
  exact some_neg (szR_neg1 a _)
theorem szPartS_l0 (xs : List S59) (hi : ∀ x ∈ xs, (ls0Part x).length ≤ 9223372036854775807) (hn : xs.length ≤ 9223372036854775806) : ∀ (d i : Nat) (a : Int), i + d = xs.length → 0 ≤ a → a ≤ 9223372036854775807 → Ev (fun k => laws_szPartS.l0 k xs a (i : Int)) (szR a (sumLen ls0Part (xs.drop i))) := by
  intro d
  induction d with
  | zero =>
    intro i a hd h0 h1
    refine Ev.step (fun _ => laws_szPartS.l0.eq_2 ..) (ev_neg (by omega) (ev_of ?_))
    rw [List.drop_eq_nil_of_le (by omega)]
    exact congrArg some (szR_zero a h0).symm
  | succ d ih =>
    intro i a hd h0 h1
    refine Ev.step (fun _ => laws_szPartS.l0.eq_2 ..) (ev_pos (by omega) (ev_pos (by omega) ?_))
    have hlt : i < xs.length := by omega
    rw [rd0Part xs i hlt, List.drop_eq_getElem_cons hlt, sumLen_cons]
    refine ev_bind0 (szPart_val _ a h0 h1 (hi _ (List.getElem_mem hlt))) ?_
    by_cases c : szR a (ls0Part (xs[i]'hlt)).length < 0
    · refine ev_pos c (ev_of ?_)
      rw [szR_neg _ _ _ c]
    · refine ev_neg c ?_
      have hr := szR_range _ _ c
      rw [w64 (x := (i : Int) + 1) (by omega) (by omega), ← szR_add _ _ _ c]
      exact ih (i + 1) _ (by omega) (by omega) (by omega)
theorem szPartS_ev (xs : List S59) (a : Int) (h0 : 0 ≤ a) (h1 : a ≤ 9223372036854775806) (hl : xs.length ≤ 9223372036854775807) (hi : ∀ x ∈ xs, (ls0Part x).length ≤ 9223372036854775807) : Ev (fun k => laws_szPartS.f k xs a) (szR a (xs.length + sumLen ls0Part xs)) := by
  unfold laws_szPartS.f
  rw [w64 (by omega) (by omega)]
  by_cases c : a - (xs.length : Int) < 0
  · refine ev_pos c (ev_of ?_)
    rw [szR_neg _ _ _ (by unfold szR; rw [if_pos c]; omega)]
  · refine ev_neg c ?_
    have e : szR a xs.length = a - (xs.length : Int) := by unfold szR; rw [if_neg c]
    have h := szPartS_l0 xs hi (by omega) xs.length 0 (a - (xs.length : Int)) (by omega) (by omega) (by omega)
    rw [List.drop_zero, ← e, szR_add _ _ _ (by rw [e]; exact c), e] at h
    exact h
theorem toPart_ev (x : S59) (hn : (ls0Part x).length ≤ 35184372088832) : Ev (fun k => laws_toPart.f k x.f0 x.f1.f0 x.f1.f1 x.f1.f2.f0 x.f1.f2.f1 x.f1.f2.f2 x.f2) (x.f0, x.f1.f0, x.f1.f1, x.f1.f2.f0, x.f1.f2.f1, x.f1.f2.f2, x.f2) := by
  unfold laws_toPart.f
  exact Ev.bind (toResource_ev _ _ _ _ _ hn) (Ev.now _)
theorem toPartS_l0 (xs : List S59) (hn : xs.length ≤ 1048576) (hi : ∀ x ∈ xs, (ls0Part x).length ≤ 35184372088832) : ∀ (d i : Nat) (out : List S63), i + d = xs.length → out.length = xs.length → out.take i = (xs.map convPart).take i → Ev (fun k => laws_toPartS.l0 k xs out (i : Int)) (xs.map convPart) := by
  intro d
  induction d with
  | zero =>
    intro i out hd hl ht
    refine Ev.step (fun _ => laws_toPartS.l0.eq_2 ..) (ev_neg (by omega) (ev_of ?_))
    rw [List.take_of_length_le (by omega), List.take_of_length_le (by rw [List.length_map]; omega)] at ht
    rw [ht]
  | succ d ih =>
    intro i out hd hl ht
    have hlt : i < xs.length := by omega
    refine Ev.step (fun _ => laws_toPartS.l0.eq_2 ..) (ev_pos (by omega) (ev_pos (by omega) ?_))
    rw [rd0Part xs i hlt]
    refine Ev.bind (toPart_ev _ (hi _ (List.getElem_mem hlt))) (ev_pos (by omega) ?_)
    rw [w64 (by omega) (by omega)]
    exact ih (i + 1) _ (by omega) (by rw [List.length_set]; exact hl) (set_takeG ht (by rw [List.length_map]; exact hl) (by rw [List.length_map]; exact hlt) (by rw [List.getElem_map]; rfl))
theorem toPartS_ev (xs : List S59) (hn : xs.length ≤ 1048576) (hi : ∀ x ∈ xs, (ls0Part x).length ≤ 35184372088832) : Ev (fun k => laws_toPartS.f k xs) (xs.map convPart) := by
  unfold laws_toPartS.f
  refine ev_pos (by omega) (ev_pos (by omega) ?_)
  exact toPartS_l0 xs hn hi xs.length 0 _ (by omega) (by simp) (by simp)
theorem eqPart_same (x : S63) (hn : (ls1Part x).length ≤ 9223372036854775807) : Ev (fun k => laws_eqPart.f k x.f0 x.f1.f0 x.f1.f1 x.f1.f2.f0 x.f1.f2.f1 x.f1.f2.f2 x.f2 x.f0 x.f1.f0 x.f1.f1 x.f1.f2.f0 x.f1.f2.f1 x.f1.f2.f2 x.f2) true := by
  unfold laws_eqPart.f
  exact ev_pos rfl (Ev.bind (eqResource_same _ _ _ _ _ hn) (ev_pos rfl (ev_pos rfl (Ev.now _))))
theorem eqPartS_l0 (xs : List S63) (hn : xs.length ≤ 9223372036854775806) (hi : ∀ x ∈ xs, (ls1Part x).length ≤ 9223372036854775807) : ∀ (d i : Nat), i + d = xs.length → Ev (fun k => laws_eqPartS.l0 k xs xs (i : Int)) true := by
  intro d
  induction d with
  | zero =>
    intro i hd
    exact Ev.step (fun _ => laws_eqPartS.l0.eq_2 ..) (ev_neg (by omega) (Ev.now true))
  | succ d ih =>
    intro i hd
    have hlt : i < xs.length := by omega
    refine Ev.step (fun _ => laws_eqPartS.l0.eq_2 ..) (ev_pos (by omega) (ev_pos (by omega) (ev_pos (by omega) ?_)))
    rw [rd1Part xs i hlt]
    refine Ev.bind (eqPart_same _ (hi _ (List.getElem_mem hlt))) (ev_pos rfl ?_)
    rw [w64 (by omega) (by omega)]
    exact ih (i + 1) (by omega)
theorem eqPartS_same (xs : List S63) (hn : xs.length ≤ 9223372036854775806) (hi : ∀ x ∈ xs, (ls1Part x).length ≤ 9223372036854775807) : Ev (fun k => laws_eqPartS.f k xs xs) true := by
  unfold laws_eqPartS.f
  exact ev_pos rfl (eqPartS_l0 xs hn hi xs.length 0 (by omega))
theorem l1In_val (a b c : Int) : spec_l1In.f a b c = some (decide (b ≤ a ∧ a ≤ c)) := by
  unfold spec_l1In.f
  by_cases h : a ≥ b
  · rw [if_pos h]; simp [h]
  · rw [if_neg h]; simp [h]
theorem inRange_val (a b c : Int) : impl_InRange.f a b c = some (decide (b ≤ a ∧ a ≤ c)) := by
  unfold impl_InRange.f
  by_cases h : b ≤ a
  · rw [if_pos h]; simp [h]
  · rw [if_neg h]; simp [h]
def isAddr (a b c : Int) : Bool := decide (1 ≤ a ∧ a ≤ 9) && (decide (0 ≤ b ∧ b ≤ 99) && decide (0 ≤ c ∧ c ≤ 99))
theorem spec_IsAddress_val (a b c : Int) : spec_IsAddress.f a b c = some (isAddr a b c) := by
  unfold spec_IsAddress.f isAddr
  simp only [l1In_val, Option.bind_some]
  by_cases h1 : 1 ≤ a ∧ a ≤ 9 <;> by_cases h2 : 0 ≤ b ∧ b ≤ 99 <;> simp [h1, h2]
theorem impl_IsAddress_val (a b c : Int) : impl_IsAddress.f a b c = some (isAddr a b c) := by
  unfold impl_IsAddress.f isAddr
  simp only [inRange_val, Option.bind_some]
  by_cases h1 : 1 ≤ a ∧ a ≤ 9 <;> by_cases h2 : 0 ≤ b ∧ b ≤ 99 <;> simp [h1, h2]
def okB (l : List Int) : Bool := l.all fun x => decide (0 ≤ x ∧ x ≤ 255)
theorem spec_l5Bytes_l0 (xs : List Int) (hn : xs.length ≤ 1099511627776) : ∀ (d i : Nat), i + d = xs.length → Ev (fun k => spec_l5Bytes.l0 k xs (i : Int)) (okB (xs.drop i)) := by
  intro d
  induction d with
  | zero =>
    intro i hd
    refine Ev.step (fun _ => spec_l5Bytes.l0.eq_2 ..) (ev_neg (by omega) (ev_of ?_))
    rw [List.drop_eq_nil_of_le (by omega)]
    rfl
  | succ d ih =>
    intro i hd
    have hlt : i < xs.length := by omega
    refine Ev.step (fun _ => spec_l5Bytes.l0.eq_2 ..) (ev_pos (by omega) (ev_pos (by omega) (ev_bind0 (l1In_val _ _ _) ?_)))
    rw [rd_at xs i hlt, List.drop_eq_getElem_cons hlt, okB, List.all_cons]
    by_cases h : 0 ≤ xs[i]'hlt ∧ xs[i]'hlt ≤ 255
    · refine ev_pos (decide_eq_true h) ?_
      rw [w64 (by omega) (by omega), decide_eq_true h, Bool.true_and]
      exact ih (i + 1) (by omega)
    · refine ev_neg (by simp only [decide_eq_true_eq]; exact h) (ev_of ?_)
      rw [decide_eq_false h, Bool.false_and]
theorem impl_allIn_l0 (xs : List Int) (hn : xs.length ≤ 1099511627776) : ∀ (d i : Nat), i + d = xs.length → Ev (fun k => impl_allIn.l0 k 0 255 xs (xs.length : Int) (i : Int)) (okB (xs.drop i)) := by
  intro d
  induction d with
  | zero =>
    intro i hd
    refine Ev.step (fun _ => impl_allIn.l0.eq_2 ..) (ev_neg (by omega) (ev_of ?_))
    rw [List.drop_eq_nil_of_le (by omega)]
    rfl
  | succ d ih =>
    intro i hd
    have hlt : i < xs.length := by omega
    refine Ev.step (fun _ => impl_allIn.l0.eq_2 ..) (ev_pos (by omega) (ev_pos (by omega) (ev_pos (by omega) (ev_bind0 (inRange_val _ _ _) ?_))))
    rw [rd_at xs i hlt, List.drop_eq_getElem_cons hlt, okB, List.all_cons]
    by_cases h : 0 ≤ xs[i]'hlt ∧ xs[i]'hlt ≤ 255
    · refine ev_pos (decide_eq_true h) ?_
      rw [w64 (by omega) (by omega), decide_eq_true h, Bool.true_and]
      exact ih (i + 1) (by omega)
    · refine ev_neg (by simp only [decide_eq_true_eq]; exact h) (ev_of ?_)
      rw [decide_eq_false h, Bool.false_and]
theorem spec_l5Bytes_ev (xs : List Int) (hn : xs.length ≤ 1099511627776) : Ev (fun k => spec_l5Bytes.f k xs) (okB xs) := by
  unfold spec_l5Bytes.f
  exact spec_l5Bytes_l0 xs hn xs.length 0 (by omega)
theorem impl_allIn_ev (xs : List Int) (hn : xs.length ≤ 1099511627776) : Ev (fun k => impl_allIn.f k xs 0 255) (okB xs) := by
  unfold impl_allIn.f
  exact impl_allIn_l0 xs hn xs.length 0 (by omega)
def zeroA (a b c : Int) : Bool := a == 0 && (b == 0 && (c == 0))
def isRes (k : Int) (l : List Int) (a b c : Int) : Bool :=
  if k = 1 ∨ k = 2 then decide (l.length ≤ 6) && (okB l && zeroA a b c)
  else if k = 3 then decide (l.length = 0) && isAddr a b c
  else if k = 4 then decide (l.length = 0) && zeroA a b c else false
theorem len0 (l : List Int) : ((l.length : Int) == 0) = decide (l.length = 0) := by
  rw [Bool.eq_iff_iff]
  simp
theorem okB_nil (l : List Int) (h : l.length = 0) : okB l = true := by
  rw [List.eq_nil_of_length_eq_zero h]
  rfl
theorem spec_IsResource_ev (k : Int) (l : List Int) (a b c : Int) (hn : l.length ≤ 1099511627776) : Ev (fun n => spec_IsResource.f n k l a b c) (isRes k l a b c) := by
  unfold spec_IsResource.f
  refine ev_bind0 (l1In_val _ _ _) ?_
  by_cases hk : 1 ≤ k ∧ k ≤ 4
  · refine ev_pos (decide_eq_true hk) (Ev.bind (spec_l5Bytes_ev l hn) ?_)
    by_cases ho : okB l = true
    · refine ev_pos ho (Ev.step (fun _ => spec_IsResource.j0.eq_2 ..) ?_)
      by_cases hl : l.length ≤ 6
      · refine ev_neg (by simp only [decide_eq_true_eq]; omega) ?_
        by_cases h3 : k = 3
        · refine ev_pos h3 (ev_bind0 (spec_IsAddress_val _ _ _) ?_)
          have e : isRes k l a b c = (decide (l.length = 0) && isAddr a b c) := by unfold isRes; rw [if_neg (by omega), if_pos h3]
          rw [e]
          by_cases ha : isAddr a b c = true
          · refine ev_pos ha (ev_of ?_)
            rw [len0, ha, Bool.and_true]
          · refine ev_neg ha (ev_of ?_)
            rw [Bool.eq_false_iff.2 ha, Bool.and_false]
        · refine ev_neg h3 ?_
          by_cases hz : zeroA a b c = true
          · refine ev_pos hz ?_
            by_cases h4 : k = 4
            · refine ev_pos h4 (ev_of ?_)
              unfold isRes
              rw [if_neg (by omega), if_neg h3, if_pos h4, hz, Bool.and_true, len0]
            · refine ev_neg h4 (ev_of ?_)
              unfold isRes
              rw [if_pos (by omega), hz, ho, decide_eq_true hl]
              rfl
          · refine ev_neg hz (ev_of ?_)
            unfold isRes
            have hz' := Bool.eq_false_iff.2 hz
            by_cases h4 : k = 4
            · rw [if_neg (by omega), if_neg h3, if_pos h4, hz', Bool.and_false]
            · rw [if_pos (by omega), hz', Bool.and_false, Bool.and_false]
      · refine ev_pos (decide_eq_true (by omega)) (ev_of ?_)
        unfold isRes
        rw [decide_eq_false hl, decide_eq_false (show ¬ l.length = 0 by omega)]
        simp
    · refine ev_neg ho (Ev.step (fun _ => spec_IsResource.j0.eq_2 ..) (ev_pos rfl (ev_of ?_)))
      have hne : ¬ l.length = 0 := fun h => ho (okB_nil l h)
      unfold isRes
      rw [Bool.eq_false_iff.2 ho, decide_eq_false hne]
      simp
  · refine ev_neg (by simp only [decide_eq_true_eq]; exact hk) (Ev.step (fun _ => spec_IsResource.j0.eq_2 ..) (ev_pos rfl (ev_of ?_)))
    unfold isRes
    rw [if_neg (by omega), if_neg (by omega), if_neg (by omega)]
theorem impl_IsResource_ev (k : Int) (l : List Int) (a b c : Int) (hn : l.length ≤ 1099511627776) : Ev (fun n => impl_IsResource.f n k l a b c) (isRes k l a b c) := by
  have body : ∀ q : Bool, (q = true ↔ k = 1 ∨ k = 2) → Ev (fun n => impl_IsResource.j0 n k q k l a b c) (isRes k l a b c) := by
    intro q hq
    refine Ev.step (fun _ => impl_IsResource.j0.eq_2 ..) ?_
    by_cases h : q = true
    · refine ev_pos h ?_
      have e : isRes k l a b c = (decide (l.length ≤ 6) && (okB l && zeroA a b c)) := by unfold isRes; rw [if_pos (hq.1 h)]
      rw [e]
      by_cases hl : l.length ≤ 6
      · refine ev_pos (by omega) (Ev.bind (impl_allIn_ev l hn) ?_)
        rw [decide_eq_true hl, Bool.true_and]
        by_cases ho : okB l = true
        · refine ev_pos ho (ev_of ?_)
          rw [ho, Bool.true_and]
          rfl
        · refine ev_neg ho (ev_of ?_)
          rw [Bool.eq_false_iff.2 ho, Bool.false_and]
      · refine ev_neg (by omega) (ev_of ?_)
        rw [decide_eq_false hl, Bool.false_and]
    · refine ev_neg h ?_
      have hk : ¬ (k = 1 ∨ k = 2) := fun hh => h (hq.2 hh)
      by_cases h3 : k = 3
      · have e : isRes k l a b c = (decide (l.length = 0) && isAddr a b c) := by unfold isRes; rw [if_neg hk, if_pos h3]
        rw [e]
        refine ev_pos h3 ?_
        by_cases hl : l.length = 0
        · refine ev_pos (by omega) (ev_bind0 (impl_IsAddress_val _ _ _) (ev_of ?_))
          rw [decide_eq_true hl, Bool.true_and]
        · refine ev_neg (by omega) (ev_of ?_)
          rw [decide_eq_false hl, Bool.false_and]
      · refine ev_neg h3 ?_
        by_cases h4 : k = 4
        · have e : isRes k l a b c = (decide (l.length = 0) && zeroA a b c) := by unfold isRes; rw [if_neg hk, if_neg h3, if_pos h4]
          rw [e]
          refine ev_pos h4 ?_
          by_cases hl : l.length = 0
          · refine ev_pos (by omega) (ev_of ?_)
            rw [decide_eq_true hl, Bool.true_and]
            rfl
          · refine ev_neg (by omega) (ev_of ?_)
            rw [decide_eq_false hl, Bool.false_and]
        · have e : isRes k l a b c = false := by unfold isRes; rw [if_neg hk, if_neg h3, if_neg h4]
          rw [e]
          exact ev_neg h4 (Ev.now _)
  unfold impl_IsResource.f
  by_cases h1 : k = 1
  · exact ev_pos h1 (body _ (by simp [h1]))
  · exact ev_neg h1 (body _ (by simp [h1]))
theorem tmod_twice (a b : Int) (h1 : 1 ≤ b) (h2 : b ≤ 1000000000000) : Int.tmod (wrap64 (Int.tmod a b + b)) b = a % b := by
  have hlt : Int.tmod a b < b := Int.tmod_lt_of_pos a (by omega)
  have hgt : -b < Int.tmod a b := by
    have h := Int.tmod_lt_of_pos (-a) (show 0 < b by omega)
    rw [Int.neg_tmod] at h
    omega
  rw [w64 (by omega) (by omega), Int.tmod_eq_emod_of_nonneg (by omega), Int.add_emod_right]
  have e : Int.tmod a b = a - b * (a.tdiv b) := Int.tmod_def a b
  rw [e, Int.sub_mul_emod_self_left]
theorem spec_Mod_val (a b : Int) (h1 : 1 ≤ b) (h2 : b ≤ 1000000000000) : spec_Mod.f a b = some (a % b) := by
  unfold spec_Mod.f
  rw [l1In_val]
  simp only [Option.bind_some, h1, h2, and_self, decide_true, if_true]
  rw [if_neg (by omega), tmod_twice a b h1 h2]
theorem impl_Mod_val (a b : Int) (h1 : 1 ≤ b) (h2 : b ≤ 1000000000000) : impl_Mod.f a b = some (a % b) := by
  unfold impl_Mod.f
  rw [inRange_val]
  simp only [Option.bind_some, h1, h2, and_self, decide_true, if_true]
  rw [if_neg (by omega), tmod_twice a b h1 h2]
def hstep (h v : Int) : Int := (h * 1000003 + v % 2147483647 + 13) % 2147483647
def hashOf (l : List Int) : Int := l.foldl hstep 11
theorem hstep_range (h v : Int) : 0 ≤ hstep h v ∧ hstep h v < 2147483647 := by unfold hstep; omega
theorem hstep_wrap (h v : Int) (h0 : 0 ≤ h) (h1 : h < 2147483647) : Int.tmod (wrap64 ((wrap64 ((wrap64 (h * 1000003)) + v % 2147483647)) + 13)) 2147483647 = hstep h v := by
  have e1 : wrap64 (h * 1000003) = h * 1000003 := w64 (by omega) (by omega)
  have e2 : wrap64 (h * 1000003 + v % 2147483647) = h * 1000003 + v % 2147483647 := w64 (by omega) (by omega)
  rw [e1, e2, w64 (by omega) (by omega), Int.tmod_eq_emod_of_nonneg (by omega)]
  rfl
theorem spec_Hash_l0 (xs : List Int) (hn : xs.length ≤ 4611686018427387904) : ∀ (d i : Nat) (h : Int), i + d = xs.length → 0 ≤ h → h < 2147483647 → Ev (fun k => spec_Hash.l0 k xs h (i : Int)) ((xs.drop i).foldl hstep h) := by
  intro d
  induction d with
  | zero =>
    intro i h hd h0 h1
    refine Ev.step (fun _ => spec_Hash.l0.eq_2 ..) (ev_neg (by omega) (ev_of ?_))
    rw [List.drop_eq_nil_of_le (by omega)]
    rfl
  | succ d ih =>
    intro i h hd h0 h1
    refine Ev.step (fun _ => spec_Hash.l0.eq_2 ..) (ev_pos (by omega) (ev_pos (by omega) (ev_bind0 (spec_Mod_val _ _ (by omega) (by omega)) ?_)))
    rw [hstep_wrap h _ h0 h1, w64 (by omega) (by omega), List.drop_eq_getElem_cons (show i < xs.length by omega), List.foldl_cons, ← rd_at xs i (by omega)]
    exact ih (i + 1) _ (by omega) (hstep_range _ _).1 (hstep_range _ _).2
theorem spec_Hash_ev (xs : List Int) (hn : xs.length ≤ 4611686018427387904) : Ev (fun k => spec_Hash.f k xs) (hashOf xs) := by
  unfold spec_Hash.f
  exact spec_Hash_l0 xs hn xs.length 0 11 (by omega) (by omega) (by omega)
theorem impl_Hash_l0 (xs : List Int) (hn : xs.length ≤ 4611686018427387904) : ∀ (d i : Nat) (h : Int), i + d = xs.length → 0 ≤ h → h < 2147483647 → Ev (fun k => impl_Hash.l0 k h xs (xs.length : Int) (i : Int)) ((xs.drop i).foldl hstep h) := by
  intro d
  induction d with
  | zero =>
    intro i h hd h0 h1
    refine Ev.step (fun _ => impl_Hash.l0.eq_2 ..) (ev_neg (by omega) (ev_of ?_))
    rw [List.drop_eq_nil_of_le (by omega)]
    rfl
  | succ d ih =>
    intro i h hd h0 h1
    refine Ev.step (fun _ => impl_Hash.l0.eq_2 ..) (ev_pos (by omega) (ev_pos (by omega) (ev_pos (by omega) (ev_bind0 (impl_Mod_val _ _ (by omega) (by omega)) ?_))))
    rw [hstep_wrap h _ h0 h1, w64 (by omega) (by omega), List.drop_eq_getElem_cons (show i < xs.length by omega), List.foldl_cons, ← rd_at xs i (by omega)]
    exact ih (i + 1) _ (by omega) (hstep_range _ _).1 (hstep_range _ _).2
theorem impl_Hash_ev (xs : List Int) (hn : xs.length ≤ 4611686018427387904) : Ev (fun k => impl_Hash.f k xs) (hashOf xs) := by
  unfold impl_Hash.f
  exact impl_Hash_l0 xs hn xs.length 0 11 (by omega) (by omega) (by omega)
def resInts (a0 : Int) (l : List Int) (a2 a3 a4 : Int) : List Int := [a0, a2, a3, a4, (l.length : Int)] ++ l
theorem resInts_len (a0 : Int) (l : List Int) (a2 a3 a4 : Int) : (resInts a0 l a2 a3 a4).length = l.length + 5 := by simp [resInts]
theorem spec_ResourceInts_val (a0 : Int) (l : List Int) (a2 a3 a4 : Int) (hl : l.length ≤ 1099511627776) : spec_ResourceInts.f a0 l a2 a3 a4 = some (resInts a0 l a2 a3 a4) := by
  unfold spec_ResourceInts.f
  rw [Option.bind_some, if_pos (by simp only [List.length_cons, List.length_nil]; omega)]
  rfl
theorem impl_ResourceInts_val (a0 : Int) (l : List Int) (a2 a3 a4 : Int) (hl : l.length ≤ 1099511627776) : impl_ResourceInts.f a0 l a2 a3 a4 = some (resInts a0 l a2 a3 a4) := by
  unfold impl_ResourceInts.f
  rw [Option.bind_some, if_pos (by simp only [List.length_cons, List.length_nil]; omega)]
  rfl
theorem spec_DigestOf_ev (a0 : Int) (l : List Int) (a2 a3 a4 : Int) (hl : l.length ≤ 1099511627776) : Ev (fun k => spec_DigestOf.f k a0 l a2 a3 a4) (hashOf (resInts a0 l a2 a3 a4)) := by
  unfold spec_DigestOf.f
  exact ev_bind0 (spec_ResourceInts_val a0 l a2 a3 a4 hl) (Ev.bind (spec_Hash_ev _ (by rw [resInts_len]; omega)) (Ev.now _))
theorem impl_DigestOf_ev (a0 : Int) (l : List Int) (a2 a3 a4 : Int) (hl : l.length ≤ 1099511627776) : Ev (fun k => impl_DigestOf.f k a0 l a2 a3 a4) (hashOf (resInts a0 l a2 a3 a4)) := by
  unfold impl_DigestOf.f
  exact ev_bind0 (impl_ResourceInts_val a0 l a2 a3 a4 hl) (Ev.bind (impl_Hash_ev _ (by rw [resInts_len]; omega)) (Ev.now _))
theorem chainI (A : Nat → Option Bool) (B : Nat → Option Int) (C : Option Bool) (N : Nat → Option Bool) (f h : Int) (q u b : Bool) (hA : Ev A q) (hB : Ev B h) (hC : C = some u) (hN : Ev N b) : Ev (fun k => (A k).bind fun t => (if t = true then ((B k).bind fun t1 => (if t1 = f then (C.bind fun t2 => (if t2 = true then (N k) else (some false))) else (some false))) else (some false))) ((q && (decide (h = f) && u)) && b) := by
  cases q with
  | false => exact Ev.bind hA (ev_neg (by decide) (Ev.now _))
  | true =>
    refine Ev.bind hA (ev_pos rfl (Ev.bind hB ?_))
    by_cases e : h = f
    · rw [decide_eq_true e]
      refine ev_pos e (ev_bind0 hC ?_)
      cases u with
      | false => exact ev_neg (by decide) (Ev.now _)
      | true => exact ev_pos rfl hN
    · rw [decide_eq_false e]
      exact ev_neg e (Ev.now _)
theorem chainS (A : Nat → Option Bool) (B : Nat → Option Int) (C : Option Bool) (N : Nat → Option Bool) (f h : Int) (q u b : Bool) (hA : Ev A q) (hB : Ev B h) (hC : C = some u) (hN : Ev N b) : Ev (fun k => (A k).bind fun t => (if t = true then ((B k).bind fun t1 => (if f = t1 then (C.bind fun t2 => (if t2 = true then (N k) else (some false))) else (some false))) else (some false))) ((q && (decide (h = f) && u)) && b) := by
  cases q with
  | false => exact Ev.bind hA (ev_neg (by decide) (Ev.now _))
  | true =>
    refine Ev.bind hA (ev_pos rfl (Ev.bind hB ?_))
    by_cases e : h = f
    · rw [decide_eq_true e]
      refine ev_pos e.symm (ev_bind0 hC ?_)
      cases u with
      | false => exact ev_neg (by decide) (Ev.now _)
      | true => exact ev_pos rfl hN
    · rw [decide_eq_false e]
      exact ev_neg (fun x => e x.symm) (Ev.now _)
def okPart (x : S63) : Bool := isRes x.f1.f0 x.f1.f1 x.f1.f2.f0 x.f1.f2.f1 x.f1.f2.f2 && (decide (hashOf (resInts x.f1.f0 x.f1.f1 x.f1.f2.f0 x.f1.f2.f1 x.f1.f2.f2) = x.f0) && decide (1 ≤ x.f2 ∧ x.f2 ≤ 1000))
theorem okS (x : S63) (hn : (ls1Part x).length ≤ 1048576) (N : Nat → Option Bool) (b : Bool) (hN : Ev N b) : Ev (fun k => (spec_IsResource.f k x.f1.f0 x.f1.f1 x.f1.f2.f0 x.f1.f2.f1 x.f1.f2.f2).bind fun t => (if t = true then ((spec_DigestOf.f k x.f1.f0 x.f1.f1 x.f1.f2.f0 x.f1.f2.f1 x.f1.f2.f2).bind fun t1 => (if x.f0 = t1 then ((spec_l1In.f x.f2 1 1000).bind fun t2 => (if t2 = true then (N k) else (some false))) else (some false))) else (some false))) (okPart x && b) :=
  chainS (fun k => spec_IsResource.f k x.f1.f0 x.f1.f1 x.f1.f2.f0 x.f1.f2.f1 x.f1.f2.f2) (fun k => spec_DigestOf.f k x.f1.f0 x.f1.f1 x.f1.f2.f0 x.f1.f2.f1 x.f1.f2.f2) (spec_l1In.f x.f2 1 1000) N x.f0 _ _ _ b (spec_IsResource_ev _ _ _ _ _ (by unfold ls1Part at hn; omega)) (spec_DigestOf_ev _ _ _ _ _ (by unfold ls1Part at hn; omega)) (l1In_val _ _ _) hN
theorem okI (x : S63) (hn : (ls1Part x).length ≤ 1048576) (N : Nat → Option Bool) (b : Bool) (hN : Ev N b) : Ev (fun k => (impl_IsResource.f k x.f1.f0 x.f1.f1 x.f1.f2.f0 x.f1.f2.f1 x.f1.f2.f2).bind fun t => (if t = true then ((impl_DigestOf.f k x.f1.f0 x.f1.f1 x.f1.f2.f0 x.f1.f2.f1 x.f1.f2.f2).bind fun t1 => (if t1 = x.f0 then ((impl_InRange.f x.f2 1 1000).bind fun t2 => (if t2 = true then (N k) else (some false))) else (some false))) else (some false))) (okPart x && b) :=
  chainI (fun k => impl_IsResource.f k x.f1.f0 x.f1.f1 x.f1.f2.f0 x.f1.f2.f1 x.f1.f2.f2) (fun k => impl_DigestOf.f k x.f1.f0 x.f1.f1 x.f1.f2.f0 x.f1.f2.f1 x.f1.f2.f2) (impl_InRange.f x.f2 1 1000) N x.f0 _ _ _ b (impl_IsResource_ev _ _ _ _ _ (by unfold ls1Part at hn; omega)) (impl_DigestOf_ev _ _ _ _ _ (by unfold ls1Part at hn; omega)) (inRange_val _ _ _) hN
/-- From index i on the parts are good, and each digest is more than the one ahead of it. -/
def Chain (xs : List S63) (i : Nat) : Prop := ∀ j, i ≤ j → (h : j < xs.length) → okPart xs[j] = true ∧ (0 < j → (xs[j - 1]'(by omega)).f0 < xs[j].f0)
theorem Chain.done (xs : List S63) (i : Nat) (h : xs.length ≤ i) : Chain xs i := fun j hj hl => by omega
theorem Chain.step (xs : List S63) (i : Nat) (h : i < xs.length) : Chain xs i ↔ (okPart xs[i] = true ∧ (0 < i → (xs[i - 1]'(by omega)).f0 < xs[i].f0)) ∧ Chain xs (i + 1) :=
  ⟨fun H => ⟨H i (Nat.le_refl _) h, fun j hj hl => H j (by omega) hl⟩, fun H j hj hl => by
    by_cases e : j = i
    · subst e
      exact H.1
    · exact H.2 j (by omega) hl⟩
theorem store_l0 (xs : List S63) (hn : xs.length ≤ 1048576) (hi : ∀ x ∈ xs, (ls1Part x).length ≤ 1048576) : ∀ (d i : Nat), i + d = xs.length → ∃ b : Bool, Ev (fun k => spec_IsStore.l0 k xs (i : Int)) (b && decide ((xs.length : Int) ≤ 30)) ∧ Ev (fun k => impl_IsStore.l0 k xs xs (xs.length : Int) (i : Int)) b ∧ (b = true ↔ Chain xs i) := by
  intro d
  induction d with
  | zero =>
    intro i hd
    exact ⟨true, Ev.step (fun _ => spec_IsStore.l0.eq_2 ..) (ev_neg (by omega) (Ev.now _)), Ev.step (fun _ => impl_IsStore.l0.eq_2 ..) (ev_neg (by omega) (Ev.now _)), fun _ => Chain.done xs i (by omega), fun _ => rfl⟩
  | succ d ih =>
    intro i hd
    have hx : i < xs.length := by omega
    have hl := hi _ (List.getElem_mem hx)
    obtain ⟨b, s1, s2, s3⟩ := ih (i + 1) (by omega)
    have w1 : wrap64 ((i : Int) + 1) = ((i + 1 : Nat) : Int) := by rw [w64 (by omega) (by omega)]; rfl
    by_cases h0 : i = 0
    · subst h0
      refine ⟨okPart xs[0] && b, ?_, ?_, ?_⟩
      · refine Ev.step (fun _ => spec_IsStore.l0.eq_2 ..) (ev_pos (by omega) (ev_pos (by omega) ?_))
        rw [rd1Part xs 0 hx, w1, Bool.and_assoc]
        exact okS _ hl _ _ (ev_neg (by omega) s1)
      · refine Ev.step (fun _ => impl_IsStore.l0.eq_2 ..) (ev_pos (by omega) (ev_pos (by omega) (ev_pos (by omega) (ev_neg (by omega) ?_))))
        rw [rd1Part xs 0 hx, w1]
        exact okI _ hl _ _ s2
      · rw [Chain.step xs 0 hx, Bool.and_eq_true, s3]
        exact ⟨fun h => ⟨⟨h.1, fun h0 => by omega⟩, h.2⟩, fun h => ⟨h.1.1, h.2⟩⟩
    · have hp : i - 1 < xs.length := by omega
      have w0 : wrap64 ((i : Int) - 1) = ((i - 1 : Nat) : Int) := by rw [w64 (by omega) (by omega)]; omega
      by_cases hs : (xs[i - 1]).f0 ≥ (xs[i]).f0
      · refine ⟨false, ?_, ?_, ?_⟩
        · refine Ev.step (fun _ => spec_IsStore.l0.eq_2 ..) (ev_pos (by omega) (ev_pos (by omega) ?_))
          rw [rd1Part xs i hx, w1, w0, rd1Part xs (i - 1) hp]
          have := okS _ hl (fun k => if (i : Int) > 0 then (if 0 ≤ (((i - 1 : Nat) : Int)) then (if (((i - 1 : Nat) : Int)) < (xs.length : Int) then (if (xs[i - 1]).f0 ≥ (xs[i]).f0 then (some false) else (spec_IsStore.l0 k xs ((i + 1 : Nat) : Int))) else (none)) else (none)) else (spec_IsStore.l0 k xs ((i + 1 : Nat) : Int))) false (ev_pos (by omega) (ev_pos (by omega) (ev_pos (by omega) (ev_pos hs (Ev.now _)))))
          rw [Bool.and_false] at this
          exact this
        · refine Ev.step (fun _ => impl_IsStore.l0.eq_2 ..) (ev_pos (by omega) (ev_pos (by omega) (ev_pos (by omega) (ev_pos (by omega) ?_))))
          rw [rd1Part xs i hx, w0, rd1Part xs (i - 1) hp]
          exact ev_pos (by omega) (ev_pos (by omega) (ev_pos hs (Ev.now _)))
        · rw [Chain.step xs i hx]
          exact ⟨fun h => (by cases h), fun h => by have := h.1.2 (by omega); omega⟩
      · refine ⟨okPart xs[i] && b, ?_, ?_, ?_⟩
        · refine Ev.step (fun _ => spec_IsStore.l0.eq_2 ..) (ev_pos (by omega) (ev_pos (by omega) ?_))
          rw [rd1Part xs i hx, w1, w0, rd1Part xs (i - 1) hp, Bool.and_assoc]
          exact okS _ hl _ _ (ev_pos (by omega) (ev_pos (by omega) (ev_pos (by omega) (ev_neg hs s1))))
        · refine Ev.step (fun _ => impl_IsStore.l0.eq_2 ..) (ev_pos (by omega) (ev_pos (by omega) (ev_pos (by omega) (ev_pos (by omega) ?_))))
          rw [rd1Part xs i hx, w0, w1, rd1Part xs (i - 1) hp]
          exact ev_pos (by omega) (ev_pos (by omega) (ev_neg hs (okI _ hl _ _ s2)))
        · rw [Chain.step xs i hx, Bool.and_eq_true, s3]
          exact ⟨fun h => ⟨⟨h.1, fun _ => by omega⟩, h.2⟩, fun h => ⟨h.1.1, h.2⟩⟩
/-- A store: at most 30 good parts, in order. -/
def Good (xs : List S63) : Prop := xs.length ≤ 30 ∧ Chain xs 0
theorem store_ev (xs : List S63) (hn : xs.length ≤ 1048576) (hi : ∀ x ∈ xs, (ls1Part x).length ≤ 1048576) : ∃ b : Bool, Ev (fun k => spec_IsStore.f k xs) b ∧ Ev (fun k => impl_IsStore.f k xs) b ∧ (b = true ↔ Good xs) := by
  unfold spec_IsStore.f impl_IsStore.f
  obtain ⟨b, s1, s2, s3⟩ := store_l0 xs hn hi xs.length 0 (by omega)
  by_cases h : (xs.length : Int) > 30
  · rw [decide_eq_false (show ¬ (xs.length : Int) ≤ 30 by omega), Bool.and_false] at s1
    exact ⟨false, s1, ev_pos h (Ev.now _), fun h => (by cases h), fun h' => by have := h'.1; omega⟩
  · rw [decide_eq_true (show (xs.length : Int) ≤ 30 by omega), Bool.and_true] at s1
    exact ⟨b, s1, ev_neg h s2, fun hb => ⟨by omega, s3.1 hb⟩, fun h' => s3.2 h'.2⟩
theorem l5Copy_val (a : Int) (l : List Int) (b c d : Int) (hl : l.length ≤ 1048576) : spec_l5Copy.f a l b c d = some (a, l, b, c, d) := by
  unfold spec_l5Copy.f
  rw [Option.bind_some, if_pos (by simp; omega), List.nil_append]
theorem copyResource_val (a : Int) (l : List Int) (b c d : Int) (hl : l.length ≤ 1048576) : impl_copyResource.f a l b c d = some (a, l, b, c, d) := by
  unfold impl_copyResource.f slices_Clone_int_int.f
  rw [Option.bind_some, if_pos (by simp; omega), List.nil_append, Option.bind_some]
theorem find_l0 (xs : List S63) (a : Int) (hn : xs.length ≤ 1048576) : ∀ (d i : Nat), i + d = xs.length → ∃ t : Int, Ev (fun k => spec_l7Find.l0 k xs a (i : Int)) t ∧ Ev (fun k => impl_partAt.l0 k xs a (i : Int)) t ∧ (t = -1 ∨ ∃ j : Nat, t = (j : Int) ∧ j < xs.length) := by
  intro d
  induction d with
  | zero =>
    intro i hd
    exact ⟨-1, Ev.step (fun _ => spec_l7Find.l0.eq_2 ..) (ev_neg (by omega) (Ev.now _)), Ev.step (fun _ => impl_partAt.l0.eq_2 ..) (ev_neg (by omega) (Ev.now _)), .inl rfl⟩
  | succ d ih =>
    intro i hd
    have hlt : i < xs.length := by omega
    by_cases h : (xs[i]).f0 = a
    · refine ⟨(i : Int), Ev.step (fun _ => spec_l7Find.l0.eq_2 ..) (ev_pos (by omega) (ev_pos (by omega) ?_)), Ev.step (fun _ => impl_partAt.l0.eq_2 ..) (ev_pos (by omega) (ev_pos (by omega) ?_)), .inr ⟨i, rfl, hlt⟩⟩
      · rw [rd1Part xs i hlt]
        exact ev_pos h (Ev.now _)
      · rw [rd1Part xs i hlt]
        exact ev_pos h (Ev.now _)
    · obtain ⟨t, e1, e2, ht⟩ := ih (i + 1) (by omega)
      refine ⟨t, Ev.step (fun _ => spec_l7Find.l0.eq_2 ..) (ev_pos (by omega) (ev_pos (by omega) ?_)), Ev.step (fun _ => impl_partAt.l0.eq_2 ..) (ev_pos (by omega) (ev_pos (by omega) ?_)), ht⟩
      · rw [rd1Part xs i hlt, w64 (x := (i : Int) + 1) (by omega) (by omega)]
        exact ev_neg h e1
      · rw [rd1Part xs i hlt, w64 (x := (i : Int) + 1) (by omega) (by omega)]
        exact ev_neg h e2
theorem snoc_take {α : Type} (xs : List α) (i : Nat) (h : i < xs.length) : xs.take i ++ [xs[i]] = xs.take (i + 1) := (List.take_succ_eq_append_getElem h).symm
theorem l7Copy_l0 (xs : List S63) (hn : xs.length ≤ 1048576) (hi : ∀ x ∈ xs, (ls1Part x).length ≤ 1048576) : ∀ (d i : Nat), i + d = xs.length → Ev (fun k => spec_l7Copy.l0 k xs (xs.take i) (i : Int)) xs := by
  intro d
  induction d with
  | zero =>
    intro i hd
    refine Ev.step (fun _ => spec_l7Copy.l0.eq_2 ..) (ev_neg (by omega) (ev_of ?_))
    rw [List.take_of_length_le (by omega)]
  | succ d ih =>
    intro i hd
    have hlt : i < xs.length := by omega
    refine Ev.step (fun _ => spec_l7Copy.l0.eq_2 ..) (ev_pos (by omega) (ev_pos (by omega) ?_))
    rw [rd1Part xs i hlt]
    refine ev_bind0 (l5Copy_val _ _ _ _ _ (hi _ (List.getElem_mem hlt))) (ev_pos (by rw [List.length_take]; omega) ?_)
    rw [w64 (by omega) (by omega), show (xs.take i ++ [(⟨(xs[i]).f0, ⟨(xs[i]).f1.f0, (xs[i]).f1.f1, ⟨(xs[i]).f1.f2.f0, (xs[i]).f1.f2.f1, (xs[i]).f1.f2.f2⟩⟩, (xs[i]).f2⟩ : S63)]) = xs.take (i + 1) from snoc_take xs i hlt]
    exact ih (i + 1) (by omega)
theorem l7Copy_ev (xs : List S63) (hn : xs.length ≤ 1048576) (hi : ∀ x ∈ xs, (ls1Part x).length ≤ 1048576) : Ev (fun k => spec_l7Copy.f k xs) xs := l7Copy_l0 xs hn hi xs.length 0 (by omega)
theorem copyParts_l0 (xs : List S63) (hn : xs.length ≤ 1048576) (hi : ∀ x ∈ xs, (ls1Part x).length ≤ 1048576) : ∀ (d i : Nat), i + d = xs.length → Ev (fun k => impl_copyParts.l0 k (xs.take i) xs (xs.length : Int) (i : Int)) xs := by
  intro d
  induction d with
  | zero =>
    intro i hd
    refine Ev.step (fun _ => impl_copyParts.l0.eq_2 ..) (ev_neg (by omega) (ev_of ?_))
    rw [List.take_of_length_le (by omega)]
  | succ d ih =>
    intro i hd
    have hlt : i < xs.length := by omega
    refine Ev.step (fun _ => impl_copyParts.l0.eq_2 ..) (ev_pos (by omega) (ev_pos (by omega) (ev_pos (by omega) ?_)))
    rw [rd1Part xs i hlt]
    refine ev_bind0 (copyResource_val _ _ _ _ _ (hi _ (List.getElem_mem hlt))) (ev_pos (by rw [List.length_take]; omega) ?_)
    rw [w64 (by omega) (by omega), show (xs.take i ++ [(⟨(xs[i]).f0, ⟨(xs[i]).f1.f0, (xs[i]).f1.f1, ⟨(xs[i]).f1.f2.f0, (xs[i]).f1.f2.f1, (xs[i]).f1.f2.f2⟩⟩, (xs[i]).f2⟩ : S63)]) = xs.take (i + 1) from snoc_take xs i hlt]
    exact ih (i + 1) (by omega)
theorem copyParts_ev (xs : List S63) (hn : xs.length ≤ 1048576) (hi : ∀ x ∈ xs, (ls1Part x).length ≤ 1048576) : Ev (fun k => impl_copyParts.f k xs) xs := copyParts_l0 xs hn hi xs.length 0 (by omega)
/-- What PutPart would make of a store: one more use of the part found, or a new part where it belongs. -/
def putOut (xs : List S63) (d t : Int) (q : S36) : List S63 := if 0 ≤ t then put_use xs t else xs.take (put_at xs d) ++ (⟨d, q, 1⟩ : S63) :: xs.drop (put_at xs d)
theorem putOut_length (xs : List S63) (d t : Int) (q : S36) : (putOut xs d t q).length ≤ xs.length + 1 := by
  unfold putOut put_use
  split
  · rw [List.length_set]
    omega
  · rw [List.length_append, List.length_cons, List.length_take, List.length_drop]
    omega
theorem putOut_lists (xs : List S63) (d t : Int) (q : S36) (ht : 0 ≤ t → t < (xs.length : Int)) : (putOut xs d t q).map ls1Part = xs.map ls1Part ∨ (putOut xs d t q).map ls1Part = (xs.take (put_at xs d)).map ls1Part ++ q.f1 :: (xs.drop (put_at xs d)).map ls1Part := by
  unfold putOut put_use
  split
  · rename_i h
    obtain ⟨j, rfl⟩ := Int.eq_ofNat_of_zero_le h
    have hj : j < xs.length := by have := ht h; omega
    refine .inl ?_
    rw [rd1Part xs j hj, Int.toNat_natCast, List.map_set]
    apply List.ext_getElem?
    intro i
    rw [List.getElem?_set]
    split
    · rename_i e
      subst e
      rw [if_pos (by rw [List.length_map]; exact hj), List.getElem?_map, List.getElem?_eq_getElem hj]
      rfl
    · rfl
  · refine .inr ?_
    rw [List.map_append, List.map_cons]
    rfl
theorem putOut_mem (xs : List S63) (d t : Int) (q : S36) (N : Nat) (ht : 0 ≤ t → t < (xs.length : Int)) (hi : ∀ x ∈ xs, (ls1Part x).length ≤ N) (hq : q.f1.length ≤ N) : ∀ x ∈ putOut xs d t q, (ls1Part x).length ≤ N := by
  intro x hx
  have hm : ls1Part x ∈ (putOut xs d t q).map ls1Part := List.mem_map_of_mem hx
  rcases putOut_lists xs d t q ht with e | e
  · rw [e] at hm
    obtain ⟨y, hy, e2⟩ := List.mem_map.1 hm
    rw [← e2]
    exact hi y hy
  · rw [e] at hm
    rcases List.mem_append.1 hm with hm | hm
    · obtain ⟨y, hy, e2⟩ := List.mem_map.1 hm
      rw [← e2]
      exact hi y (List.mem_of_mem_take hy)
    · rcases List.mem_cons.1 hm with e2 | hm
      · rw [e2]
        exact hq
      · obtain ⟨y, hy, e2⟩ := List.mem_map.1 hm
        rw [← e2]
        exact hi y (List.mem_of_mem_drop hy)
theorem sumLen_map (l : List S63) : sumLen ls1Part l = ((l.map ls1Part).map List.length).sum := by
  unfold sumLen
  rw [List.map_map]
  rfl
theorem putOut_sum (xs : List S63) (d t : Int) (q : S36) (ht : 0 ≤ t → t < (xs.length : Int)) : sumLen ls1Part (putOut xs d t q) ≤ sumLen ls1Part xs + q.f1.length := by
  rw [sumLen_map, sumLen_map]
  rcases putOut_lists xs d t q ht with e | e
  · rw [e]
    omega
  · have h : ((xs.map ls1Part).map List.length).sum = (((xs.take (put_at xs d)).map ls1Part).map List.length).sum + (((xs.drop (put_at xs d)).map ls1Part).map List.length).sum := by
      rw [← List.sum_append, ← List.map_append, ← List.map_append, List.take_append_drop]
    rw [e, h, List.map_append, List.sum_append, List.map_cons, List.sum_cons]
    omega
/-- Both answer the same: the store put in, if it was a store and is one. -/
theorem putPart_ev (xs : List S63) (q : S36) (hn : xs.length ≤ 1048576) (hi : ∀ x ∈ xs, (ls1Part x).length ≤ 1048576) (hq : q.f1.length ≤ 1048576) :
    ∃ (t : Int) (R : List S63 × Bool), Ev (fun k => spec_l7Find.f k xs (hashOf (resInts q.f0 q.f1 q.f2.f0 q.f2.f1 q.f2.f2))) t ∧ (0 ≤ t → t < (xs.length : Int)) ∧ Ev (fun k => spec_PutPart.f k xs q.f0 q.f1 q.f2.f0 q.f2.f1 q.f2.f2) R ∧ Ev (fun k => impl_PutPart.f k xs q.f0 q.f1 q.f2.f0 q.f2.f1 q.f2.f2) R ∧
      ((R = (xs, false) ∧ ¬ (Good xs ∧ Good (putOut xs (hashOf (resInts q.f0 q.f1 q.f2.f0 q.f2.f1 q.f2.f2)) t q))) ∨ (R = (putOut xs (hashOf (resInts q.f0 q.f1 q.f2.f0 q.f2.f1 q.f2.f2)) t q, true) ∧ Good xs ∧ Good (putOut xs (hashOf (resInts q.f0 q.f1 q.f2.f0 q.f2.f1 q.f2.f2)) t q))) := by
  have d1 := spec_DigestOf_ev q.f0 q.f1 q.f2.f0 q.f2.f1 q.f2.f2 (by omega)
  have d2 := impl_DigestOf_ev q.f0 q.f1 q.f2.f0 q.f2.f1 q.f2.f2 (by omega)
  generalize hashOf (resInts q.f0 q.f1 q.f2.f0 q.f2.f1 q.f2.f2) = d at d1 d2 ⊢
  obtain ⟨b, b1, b2, b3⟩ := store_ev xs hn hi
  obtain ⟨t, e1, e2, ht⟩ := find_l0 xs d hn xs.length 0 (Nat.zero_add _)
  have ht' : 0 ≤ t → t < (xs.length : Int) := fun h => by
    rcases ht with ht | ⟨j, ht, hj⟩
    · omega
    · omega
  have cs := l7Copy_ev xs hn hi
  have ci := copyParts_ev xs hn hi
  cases b with
  | false => exact ⟨t, (xs, false), e1, ht', Ev.bind b1 (ev_neg (by decide) (Ev.bind cs (Ev.now _))), Ev.bind ci (Ev.bind b2 (ev_neg (by decide) (Ev.now _))), .inl ⟨rfl, fun h => by have := b3.2 h.1; cases this⟩⟩
  | true =>
    have hg := b3.1 rfl
    have h30 := hg.1
    have hpl := put_at_le xs d
    have hyl := putOut_length xs d t q
    obtain ⟨b', s1, s2, s3⟩ := store_ev (putOut xs d t q) (by omega) (putOut_mem xs d t q 1048576 ht' hi hq)
    have dl := l7Copy_ev (xs.drop (put_at xs d)) (by rw [List.length_drop]; omega) (fun x hx => hi x (List.mem_of_mem_drop hx))
    have m1 : Ev (fun k => spec_PutPart.mid k xs xs t d q.f0 q.f1 q.f2.f0 q.f2.f1 q.f2.f2) (putOut xs d t q) := by
      unfold spec_PutPart.mid putOut
      by_cases h : 0 ≤ t
      · rw [if_pos h]
        exact ev_pos h (ev_pos (ht' h) (Ev.now _))
      · rw [if_neg h]
        refine ev_neg h (Ev.bind cs (ev_bind0 (l5Copy_val _ _ _ _ _ hq) (Ev.bind dl (ev_pos ⟨hpl, by rw [List.length_drop]; omega⟩ (ev_of ?_)))))
        rw [List.append_assoc]
        rfl
    have m2 : Ev (fun _ => impl_PutPart.mid xs t d q.f0 q.f1 q.f2.f0 q.f2.f1 q.f2.f2) (putOut xs d t q) := by
      unfold impl_PutPart.mid putOut
      by_cases h : 0 ≤ t
      · rw [if_pos h, if_pos h]
        exact ev_pos (ht' h) (Ev.now _)
      · rw [if_neg h, if_neg h]
        exact (ev_bind0 (copyResource_val _ _ _ _ _ hq) (ev_pos (by omega) (Ev.now _)))
    cases b' with
    | false => exact ⟨t, (xs, false), e1, ht', Ev.bind b1 (ev_pos rfl (Ev.bind d1 (Ev.bind e1 (Ev.bind cs (Ev.bind m1 (Ev.bind s1 (ev_neg (by decide) (Ev.bind cs (Ev.now _))))))))), Ev.bind ci (Ev.bind b2 (ev_pos rfl (Ev.bind d2 (Ev.bind e2 (Ev.bind m2 (Ev.bind s2 (ev_neg (by decide) (Ev.bind ci (Ev.now _))))))))), .inl ⟨rfl, fun h => by have := s3.2 h.2; cases this⟩⟩
    | true => exact ⟨t, (putOut xs d t q, true), e1, ht', Ev.bind b1 (ev_pos rfl (Ev.bind d1 (Ev.bind e1 (Ev.bind cs (Ev.bind m1 (Ev.bind s1 (ev_pos rfl (Ev.now _)))))))), Ev.bind ci (Ev.bind b2 (ev_pos rfl (Ev.bind d2 (Ev.bind e2 (Ev.bind m2 (Ev.bind s2 (ev_pos rfl (Ev.now _)))))))), .inr ⟨rfl, hg, s3.1 rfl⟩⟩
theorem markResource_ev (a0 : Int) (l : List Int) (a2 a3 a4 s : Int) (hs : 0 ≤ s) (hb : s + (l.length : Int) ≤ 4611686018427387904) : Ev (fun k => laws_markResource.f k a0 l a2 a3 a4 s) (s + (l.length : Int), seqFrom s l.length) := by
  unfold laws_markResource.f
  exact Ev.bind (markIntS_ev l s hs hb) (Ev.now _)
theorem bump_val : ∀ (n : Nat) (a : Int), 0 ≤ a → a + (n : Int) ≤ 4611686018427387904 → bump n a = a + (n : Int) := by
  intro n
  induction n with
  | zero => intro a _ _; show a = _; omega
  | succ n ih =>
    intro a h0 h1
    show bump n (wrap64 (a + 1)) = _
    rw [w64 (by omega) (by omega), ih (a + 1) (by omega) (by omega)]
    omega
theorem markPart_cnt (l : List S63) : laws_markPartS.cnt l = 6 * l.length + sumLen ls1Part l := by
  induction l with
  | nil => rfl
  | cons x l ih =>
    unfold laws_markPartS.cnt at ih ⊢
    rw [List.map_cons, List.sum_cons, ih, sumLen_cons, List.length_cons]
    show 6 + (ls1Part x).length + _ = _
    omega
theorem sumLen_convPart (l : List S59) : sumLen ls1Part (l.map convPart) = sumLen ls0Part l := by
  induction l with
  | nil => rfl
  | cons x l ih => rw [List.map_cons, sumLen_cons, sumLen_cons, ih]; rfl
theorem seqFrom_succ (a : Int) (n : Nat) : seqFrom a (n + 1) = a :: seqFrom (a + 1) n := by
  refine List.ext_getElem (by rw [List.length_cons, seqFrom_length, seqFrom_length]) (fun i h1 h2 => ?_)
  rw [seqFrom_length] at h1
  rw [seqFrom_get _ _ _ h1]
  cases i with
  | zero => rw [List.getElem_cons_zero]; omega
  | succ i => rw [List.getElem_cons_succ, seqFrom_get _ _ _ (by omega)]; omega
theorem seqW_eq : ∀ (n : Nat) (a : Int), 0 ≤ a → a + (n : Int) ≤ 4611686018427387904 → seqW n a = seqFrom a n := by
  intro n
  induction n with
  | zero => intro a _ _; rfl
  | succ n ih =>
    intro a h0 h1
    rw [seqFrom_succ, seqW, w64 (by omega) (by omega), ih (a + 1) (by omega) (by omega)]
theorem cntPart_cons (x : S63) (l : List S63) : laws_markPartS.cnt (x :: l) = (6 + x.f1.f1.length) + laws_markPartS.cnt l := by
  unfold laws_markPartS.cnt
  rw [List.map_cons, List.sum_cons]
theorem heldPart_l0 (M : List S63) (hM : M.length ≤ 1048576) : ∀ (L : List S63) (i : Nat) (a : Int), M.drop i = laws_markPartS.mk L a → i + L.length = M.length → 0 ≤ a → a + (laws_markPartS.cnt L : Int) ≤ 4611686018427387904 → Ev (fun k => laws_heldPartS.l0 k M a (i : Int)) (a + (laws_markPartS.cnt L : Int)) := by
  intro L
  induction L with
  | nil =>
    intro i a _ hl h0 h1
    rw [List.length_nil] at hl
    refine Ev.step (fun _ => laws_heldPartS.l0.eq_2 ..) (ev_neg (by omega) (ev_of ?_))
    show some a = some (a + 0)
    rw [Int.add_zero]
  | cons x L ih =>
    intro i a hd hl h0 h1
    rw [List.length_cons] at hl
    rw [cntPart_cons] at h1 ⊢
    have hlt : i < M.length := by omega
    rw [List.drop_eq_getElem_cons hlt, laws_markPartS.mk] at hd
    injection hd with hx ht
    have e2 : wrap64 ((wrap64 (a + 1)) + 1) = a + 2 := by rw [w64 (x := a + 1) (by omega) (by omega), w64 (by omega) (by omega)]; omega
    have eb : bump x.f1.f1.length (wrap64 ((wrap64 (a + 1)) + 1)) = a + 2 + (x.f1.f1.length : Int) := by rw [e2, bump_val _ _ (by omega) (by omega)]
    have s1 : wrap64 (a + 2 + (x.f1.f1.length : Int) + 1) = a + 3 + (x.f1.f1.length : Int) := by rw [w64 (by omega) (by omega)]; omega
    have s2 : wrap64 (a + 3 + (x.f1.f1.length : Int) + 1) = a + 4 + (x.f1.f1.length : Int) := by rw [w64 (by omega) (by omega)]; omega
    have s3 : wrap64 (a + 4 + (x.f1.f1.length : Int) + 1) = a + 5 + (x.f1.f1.length : Int) := by rw [w64 (by omega) (by omega)]; omega
    have s4 : wrap64 (a + 5 + (x.f1.f1.length : Int) + 1) = a + 6 + (x.f1.f1.length : Int) := by rw [w64 (by omega) (by omega)]; omega
    have en : laws_markPartS.nx x a = a + 6 + (x.f1.f1.length : Int) := by
      unfold laws_markPartS.nx
      rw [eb, s1, s2, s3, s4]
    have hf : (laws_markPartS.mk1 x a).f1.f1 = seqFrom (a + 2) x.f1.f1.length := by
      show seqW x.f1.f1.length (wrap64 ((wrap64 (a + 1)) + 1)) = _
      rw [e2]
      exact seqW_eq _ _ (by omega) (by omega)
    refine Ev.step (fun _ => laws_heldPartS.l0.eq_2 ..) (ev_pos (by omega) (ev_pos (by omega) ?_))
    rw [rd1Part M i hlt, hx]
    refine ev_pos rfl (ev_pos rfl ?_)
    rw [hf, e2, w64 (x := (i : Int) + 1) (by omega) (by omega)]
    refine Ev.bind (heldIntS_ev (a + 2) x.f1.f1.length (by omega) (by omega)) (ev_neg (by omega) (ev_pos eb ?_))
    rw [s1, s2, s3, s4]
    refine ev_pos ?_ (ev_pos ?_ (ev_pos ?_ ?_))
    · show wrap64 (bump x.f1.f1.length (wrap64 ((wrap64 (a + 1)) + 1)) + 1) = _
      rw [eb, s1]
    · show wrap64 (wrap64 (bump x.f1.f1.length (wrap64 ((wrap64 (a + 1)) + 1)) + 1) + 1) = _
      rw [eb, s1, s2]
    · show wrap64 (wrap64 (wrap64 (bump x.f1.f1.length (wrap64 ((wrap64 (a + 1)) + 1)) + 1) + 1) + 1) = _
      rw [eb, s1, s2, s3]
    rw [en] at ht
    have h := ih (i + 1) (a + 6 + (x.f1.f1.length : Int)) ht (by omega) (by omega) (by omega)
    rw [show a + (((6 + x.f1.f1.length) + laws_markPartS.cnt L : Nat) : Int) = a + 6 + (x.f1.f1.length : Int) + (laws_markPartS.cnt L : Int) by omega]
    exact h
theorem heldPartS_mk (L : List S63) (hL : L.length ≤ 1048577) (hM : L.length ≤ 1048576) (hc : laws_markPartS.cnt L ≤ 1073741824) : Ev (fun k => laws_heldPartS.f k (laws_markPartS.mk L 1) 1) (1 + (laws_markPartS.cnt L : Int)) := by
  unfold laws_heldPartS.f
  exact heldPart_l0 _ (by rw [laws_markPartS.mk_length]; exact hM) L 0 1 rfl (by rw [laws_markPartS.mk_length, Nat.zero_add]) (by omega) (by omega)
theorem FnExactPutPart : ∀ (x0 : List (S59)) (x1 : S27), (x0.length ≤ 9223372036854775807 ∧ ∀ y ∈ x0, g59 y) → (g27 x1) → ∃ k, laws_FnExactPutPart.f k x0 x1.f0 x1.f1 x1.f2.f0 x1.f2.f1 x1.f2.f2 := by
  intro xs q hg hgq
  obtain ⟨hl, hy⟩ := hg
  have hql : q.f1.length ≤ 9223372036854775807 := hgq.2.1.1
  have hi : ∀ x ∈ xs, (ls0Part x).length ≤ 9223372036854775807 := fun x hx => (hy x hx).2.1.2.1.1
  obtain ⟨K0, s0⟩ := szPartS_ev xs 1048576 (by omega) (by omega) hl hi
  by_cases hb : szR 1048576 (xs.length + sumLen ls0Part xs) < 0
  · exact ⟨K0, _, s0 K0 (Nat.le_refl _), .inl hb⟩
  have hle := szR_le _ _ hb
  have hr := szR_range _ _ hb
  have sR := szResource_val q.f0 q.f1 q.f2.f0 q.f2.f1 q.f2.f2 (szR 1048576 (xs.length + sumLen ls0Part xs)) (by omega) (by omega) hql
  by_cases hb2 : szR (szR 1048576 (xs.length + sumLen ls0Part xs)) q.f1.length < 0
  · exact ⟨K0, _, s0 K0 (Nat.le_refl _), .inr ⟨_, sR, .inl hb2⟩⟩
  have hle2 := szR_le _ _ hb2
  have hqn : q.f1.length ≤ 1048576 := by omega
  have hi2 : ∀ x ∈ xs, (ls0Part x).length ≤ 1048576 := fun x hx => by have := sumLen_mem ls0Part xs x hx; omega
  obtain ⟨K1, s1⟩ := toPartS_ev xs (by omega) (fun x hx => by have := hi2 x hx; omega)
  obtain ⟨K8, s8⟩ := toResource_ev q.f0 q.f1 q.f2.f0 q.f2.f1 q.f2.f2 (by omega)
  have hlen : (xs.map convPart).length = xs.length := List.length_map ..
  have hc : ∀ x ∈ xs.map convPart, (ls1Part x).length ≤ 1048576 := by
    intro x hx
    obtain ⟨y, hy', rfl⟩ := List.mem_map.1 hx
    exact hi2 y hy'
  have hsum := sumLen_convPart xs
  generalize xs.map convPart = ys at hc hlen hsum s1
  obtain ⟨t, R, _, ht, ⟨K2, s2⟩, ⟨K3, s3⟩, hR⟩ := putPart_ev ys ⟨q.f0, q.f1, ⟨q.f2.f0, q.f2.f1, q.f2.f2⟩⟩ (by omega) hc hqn
  have hRl : R.1.length ≤ ys.length + 1 ∧ sumLen ls1Part R.1 ≤ sumLen ls1Part ys + q.f1.length := by
    rcases hR with ⟨rfl, _⟩ | ⟨rfl, _⟩
    · exact ⟨Nat.le_succ _, Nat.le_add_right _ _⟩
    · exact ⟨putOut_length .., putOut_sum _ _ _ _ ht⟩
  have hRn : R.1.length ≤ 1048576 := by
    rcases hR with ⟨rfl, _⟩ | ⟨rfl, _, h⟩
    · show ys.length ≤ 1048576
      omega
    · exact Nat.le_trans h.1 (by omega)
  have hRi : ∀ x ∈ R.1, (ls1Part x).length ≤ 2097152 := fun x hx => by have := sumLen_mem ls1Part R.1 x hx; omega
  obtain ⟨K4, s4⟩ := eqPartS_same R.1 (by omega) (fun x hx => by have := hRi x hx; omega)
  obtain ⟨K5, s5⟩ := eqPartS_same ys (by omega) (fun x hx => by have := hc x hx; omega)
  obtain ⟨K9, s9⟩ := eqResource_same q.f0 q.f1 q.f2.f0 q.f2.f1 q.f2.f2 hql
  have c1 : laws_markPartS.cnt ys ≤ 1073741824 := by rw [markPart_cnt]; omega
  have c2 : laws_markPartS.cnt R.1 ≤ 1073741824 := by rw [markPart_cnt]; omega
  have e1 : laws_markPartS.f ys 1 = some (1 + (laws_markPartS.cnt ys : Int)) := by
    unfold laws_markPartS.f
    rw [bump_val _ _ (by omega) (by omega)]
  have e2 : laws_markPartS.f R.1 1 = some (1 + (laws_markPartS.cnt R.1 : Int)) := by
    unfold laws_markPartS.f
    rw [bump_val _ _ (by omega) (by omega)]
  obtain ⟨K7, s7⟩ := markResource_ev q.f0 q.f1 q.f2.f0 q.f2.f1 q.f2.f2 (1 + (laws_markPartS.cnt ys : Int)) (by omega) (by omega)
  obtain ⟨K6, s6⟩ := heldPartS_mk R.1 (by omega) (by omega) c2
  exact ⟨K0 + K1 + K2 + K3 + K4 + K5 + K6 + K7 + K8 + K9, _, s0 _ (by omega), .inr ⟨_, sR, .inr ⟨ys, _, _, _, _, _, R.1, R.2, _, _, _, _, s1 _ (by omega), s8 _ (by omega), s2 _ (by omega), s3 _ (by omega), s4 _ (by omega), s5 _ (by omega), s9 _ (by omega), e1, s7 _ (by omega), e2, s6 _ (by omega), by omega, by omega⟩⟩⟩

end Go.Proofs.Ytlpfobakbgipbaa.Pure
