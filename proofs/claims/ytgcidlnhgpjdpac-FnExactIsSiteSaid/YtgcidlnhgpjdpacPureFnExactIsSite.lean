/- The pure statement behind the law FnExactIsSite: over numbers and lists the law answers true, at every input that the row's bounds let in. -/
import Derived.Test.YtgcidlnhgpjdpacQFnExactIsSitex5
import Derived.Test.YtgcidlnhgpjdpacQFnExactIsSiteg
namespace Go.Proofs.Ytgcidlnhgpjdpac.Pure
open Go Go.RowKit Go.Proofs.Ytgcidlnhgpjdpac.QFnExactIsSite Go.Proofs.YtgcidlnhgpjdpacW.PrintWords Go.Proofs.YtgcidlnhgpjdpacW.PrintLast Go.Proofs.YtgcidlnhgpjdpacW.PrintMore
set_option linter.unusedVariables false
set_option linter.unusedSimpArgs false
set_option maxRecDepth 100000

theorem w64 {x : Int} (h0 : -9223372036854775808 ≤ x) (h1 : x ≤ 9223372036854775807) : wrap64 x = x := by unfold wrap64; omega
theorem ev_pos {α : Type} {c : Prop} [Decidable c] {g f : Nat → Option α} {r : α} (h : c) (k : Ev g r) : Ev (fun n => if c then g n else f n) r := by
  obtain ⟨K, hK⟩ := k
  exact ⟨K, fun n hn => (if_pos h).trans (hK n hn)⟩
theorem ev_neg {α : Type} {c : Prop} [Decidable c] {g f : Nat → Option α} {r : α} (h : ¬ c) (k : Ev f r) : Ev (fun n => if c then g n else f n) r := by
  obtain ⟨K, hK⟩ := k
  exact ⟨K, fun n hn => (if_neg h).trans (hK n hn)⟩
theorem ev_bind0 {α β : Type} {o : Option α} {f : Nat → α → Option β} {a : α} {r : β} (h : o = some a) (k : Ev (fun n => f n a) r) : Ev (fun n => o.bind (f n)) r := by
  subst h
  exact k
theorem ev_of {α : Type} {o : Option α} {r : α} (h : o = some r) : Ev (fun _ => o) r := ⟨0, fun _ _ => h⟩
theorem rd_at (xs : List Int) (i : Nat) (h : i < xs.length) : rd xs (i : Int) = xs[i] := by
  unfold rd
  rw [Int.toNat_natCast, List.getD_eq_getElem?_getD, List.getElem?_eq_getElem h]
  rfl
theorem set_take {out xs : List Int} {i : Nat} (h : out.take i = xs.take i) (hl : out.length = xs.length) (hi : i < xs.length) : (out.set ((i : Int)).toNat (rd xs i)).take (i + 1) = xs.take (i + 1) := by
  rw [rd_at xs i hi, Int.toNat_natCast, List.take_succ_eq_append_getElem hi, List.take_succ_eq_append_getElem (by rw [List.length_set]; omega)]
  rw [List.take_set_of_le (Nat.le_refl _), h]
  simp
theorem toIntS_l0 (xs : List Int) (hn : xs.length ≤ 35184372088832) : ∀ (d i : Nat) (out : List Int), i + d = xs.length → out.length = xs.length → out.take i = xs.take i → Ev (fun k => laws_toIntS.l0 k xs out (i : Int)) xs := by
  intro d
  induction d with
  | zero =>
    intro i out hd hl ht
    refine Ev.step (fun _ => laws_toIntS.l0.eq_2 ..) (ev_neg (by omega) (ev_of ?_))
    rw [List.take_of_length_le (by omega), List.take_of_length_le (by omega)] at ht
    rw [ht]
  | succ d ih =>
    intro i out hd hl ht
    refine Ev.step (fun _ => laws_toIntS.l0.eq_2 ..) (ev_pos (by omega) (ev_pos (by omega) (ev_pos (by omega) ?_)))
    rw [w64 (by omega) (by omega)]
    exact ih (i + 1) _ (by omega) (by rw [List.length_set]; exact hl) (set_take ht hl (by omega))
theorem toIntS_ev (xs : List Int) (hn : xs.length ≤ 35184372088832) : Ev (fun k => laws_toIntS.f k xs) xs := by
  unfold laws_toIntS.f
  refine ev_pos (by omega) (ev_pos (by omega) ?_)
  exact toIntS_l0 xs hn xs.length 0 _ (by omega) (by simp) (by simp)
theorem eqIntS_l0 (xs : List Int) (hn : xs.length ≤ 9223372036854775807) : ∀ (d i : Nat), i + d = xs.length → Ev (fun k => laws_eqIntS.l0 k xs xs (i : Int)) true := by
  intro d
  induction d with
  | zero =>
    intro i hd
    exact Ev.step (fun _ => laws_eqIntS.l0.eq_2 ..) (ev_neg (by omega) (Ev.now true))
  | succ d ih =>
    intro i hd
    refine Ev.step (fun _ => laws_eqIntS.l0.eq_2 ..) (ev_pos (by omega) (ev_pos (by omega) (ev_pos (by omega) (ev_pos rfl ?_))))
    rw [w64 (by omega) (by omega)]
    exact ih (i + 1) (by omega)
theorem eqIntS_same (xs : List Int) (hn : xs.length ≤ 9223372036854775807) : Ev (fun k => laws_eqIntS.f k xs xs) true := by
  unfold laws_eqIntS.f
  exact ev_pos rfl (eqIntS_l0 xs hn xs.length 0 (by omega))
def szR (a : Int) (n : Nat) : Int := if a - (n : Int) < 0 then -1 else a - (n : Int)
theorem szR_zero (a : Int) (h : 0 ≤ a) : szR a 0 = a := by unfold szR; rw [if_neg (by omega)]; omega
theorem szR_neg (a : Int) (n m : Nat) (h : szR a n < 0) : szR a (n + m) = -1 := by
  unfold szR at h ⊢
  by_cases c : a - (n : Int) < 0
  · rw [if_pos (by omega)]
  · rw [if_neg c] at h
    omega
theorem szR_neg1 (a : Int) (n : Nat) (h : szR a n < 0) : szR a n = -1 := by
  have := szR_neg a n 0 h
  rwa [Nat.add_zero] at this
theorem szR_add (a : Int) (n m : Nat) (h : ¬ szR a n < 0) : szR (szR a n) m = szR a (n + m) := by
  unfold szR at h ⊢
  by_cases c : a - (n : Int) < 0
  · rw [if_pos c] at h
    omega
  · rw [if_neg c]
    by_cases d : a - (n : Int) - (m : Int) < 0
    · rw [if_pos d, if_pos (by omega)]
    · rw [if_neg d, if_neg (by omega)]
      omega
theorem szR_le (a : Int) (n : Nat) (h : ¬ szR a n < 0) : (n : Int) ≤ a := by
  unfold szR at h
  by_cases c : a - (n : Int) < 0
  · rw [if_pos c] at h
    omega
  · omega
theorem szR_range (a : Int) (n : Nat) (h : ¬ szR a n < 0) : 0 ≤ szR a n ∧ szR a n ≤ a := by
  have := szR_le a n h
  unfold szR at h ⊢
  rw [if_neg (by omega)]
  omega
theorem szIntS_val (l : List Int) (a : Int) (h0 : 0 ≤ a) (h1 : a ≤ 9223372036854775807) (hl : l.length ≤ 9223372036854775807) : laws_szIntS.f l a = some (szR a l.length) := by
  unfold laws_szIntS.f szR
  rw [w64 (by omega) (by omega)]
  split <;> rfl
theorem some_neg {a : Int} (h : a < 0 → a = -1) : (if a < 0 then some (-1) else some a) = some a := by
  split
  · rw [h (by assumption)]
  · rfl
theorem getD_at {α : Type} (xs : List α) (z : α) (i : Nat) (h : i < xs.length) : xs.getD ((i : Int)).toNat z = xs[i] := by
  rw [Int.toNat_natCast, List.getD_eq_getElem?_getD, List.getElem?_eq_getElem h]
  rfl
theorem set_takeG {α : Type} {out ys : List α} {i : Nat} (h : out.take i = ys.take i) (hl : out.length = ys.length) (hi : i < ys.length) {v : α} (hv : ys[i] = v) : (out.set ((i : Int)).toNat v).take (i + 1) = ys.take (i + 1) := by
  subst hv
  rw [Int.toNat_natCast, List.take_succ_eq_append_getElem hi, List.take_succ_eq_append_getElem (by rw [List.length_set]; omega)]
  rw [List.take_set_of_le (Nat.le_refl _), h]
  simp
def sumLen {α : Type} (f : α → List Int) (xs : List α) : Nat := (xs.map fun x => (f x).length).sum
theorem sumLen_cons {α : Type} (f : α → List Int) (x : α) (xs : List α) : sumLen f (x :: xs) = (f x).length + sumLen f xs := by simp [sumLen]
theorem sumLen_mem {α : Type} (f : α → List Int) : ∀ (xs : List α) (x : α), x ∈ xs → (f x).length ≤ sumLen f xs
  | y :: xs, x, h => by
    rw [sumLen_cons]
    rcases List.mem_cons.1 h with rfl | h
    · omega
    · have := sumLen_mem f xs x h
      omega
theorem szResource_val (a0 : Int) (l : List Int) (a2 a3 a4 a : Int) (h0 : 0 ≤ a) (h1 : a ≤ 9223372036854775807) (hl : l.length ≤ 9223372036854775807) : laws_szResource.f a0 l a2 a3 a4 a = some (szR a l.length) := by
  unfold laws_szResource.f
  rw [szIntS_val l a h0 h1 hl, Option.bind_some]
  exact some_neg (szR_neg1 a _)
theorem toResource_ev (a0 : Int) (l : List Int) (a2 a3 a4 : Int) (hn : l.length ≤ 35184372088832) : Ev (fun k => laws_toResource.f k a0 l a2 a3 a4) (a0, l, a2, a3, a4) := by
  unfold laws_toResource.f laws_toAddress.f
  exact Ev.bind (toIntS_ev l hn) (Ev.now _)
theorem eqAddress_same (a b c : Int) : laws_eqAddress.f a b c a b c = some true := by
  unfold laws_eqAddress.f
  rw [if_pos rfl, if_pos rfl, if_pos rfl]
theorem eqResource_same (a0 : Int) (l : List Int) (a2 a3 a4 : Int) (hn : l.length ≤ 9223372036854775807) : Ev (fun k => laws_eqResource.f k a0 l a2 a3 a4 a0 l a2 a3 a4) true := by
  unfold laws_eqResource.f
  refine ev_pos rfl (Ev.bind (eqIntS_same l hn) (ev_pos rfl (ev_bind0 (eqAddress_same _ _ _) (ev_pos rfl (Ev.now _)))))
theorem rd0Version (xs : List S128) (i : Nat) (h : i < xs.length) : rd_T128 xs (i : Int) = xs[i] := getD_at xs z128 i h
theorem rd1Version (xs : List S130) (i : Nat) (h : i < xs.length) : rd_T130 xs (i : Int) = xs[i] := getD_at xs z130 i h
def ls0Version (x : S128) : List Int := x.f2.f1
def ls1Version (x : S130) : List Int := x.f2.f1
def convVersion (x : S128) : S130 := ⟨⟨x.f0.f0, x.f0.f1, x.f0.f2⟩, x.f1, ⟨x.f2.f0, x.f2.f1, ⟨x.f2.f2.f0, x.f2.f2.f1, x.f2.f2.f2⟩⟩⟩
theorem szVersion_val (x : S128) (a : Int) (h0 : 0 ≤ a) (h1 : a ≤ 9223372036854775807) (hl : (ls0Version x).length ≤ 9223372036854775807) : laws_szVersion.f x.f0.f0 x.f0.f1 x.f0.f2 x.f1 x.f2.f0 x.f2.f1 x.f2.f2.f0 x.f2.f2.f1 x.f2.f2.f2 a = some (szR a (ls0Version x).length) := by
  unfold laws_szVersion.f
  refine (congrArg (fun o => Option.bind o _) (szResource_val _ _ _ _ _ a h0 h1 hl)).trans ?_
  exact some_neg (szR_neg1 a _)
theorem szVersionS_l0 (xs : List S128) (hi : ∀ x ∈ xs, (ls0Version x).length ≤ 9223372036854775807) (hn : xs.length ≤ 9223372036854775806) : ∀ (d i : Nat) (a : Int), i + d = xs.length → 0 ≤ a → a ≤ 9223372036854775807 → Ev (fun k => laws_szVersionS.l0 k xs a (i : Int)) (szR a (sumLen ls0Version (xs.drop i))) := by
  intro d
  induction d with
  | zero =>
    intro i a hd h0 h1
    refine Ev.step (fun _ => laws_szVersionS.l0.eq_2 ..) (ev_neg (by omega) (ev_of ?_))
    rw [List.drop_eq_nil_of_le (by omega)]
    exact congrArg some (szR_zero a h0).symm
  | succ d ih =>
    intro i a hd h0 h1
    refine Ev.step (fun _ => laws_szVersionS.l0.eq_2 ..) (ev_pos (by omega) (ev_pos (by omega) ?_))
    have hlt : i < xs.length := by omega
    rw [rd0Version xs i hlt, List.drop_eq_getElem_cons hlt, sumLen_cons]
    refine ev_bind0 (szVersion_val _ a h0 h1 (hi _ (List.getElem_mem hlt))) ?_
    by_cases c : szR a (ls0Version (xs[i]'hlt)).length < 0
    · refine ev_pos c (ev_of ?_)
      rw [szR_neg _ _ _ c]
    · refine ev_neg c ?_
      have hr := szR_range _ _ c
      rw [w64 (x := (i : Int) + 1) (by omega) (by omega), ← szR_add _ _ _ c]
      exact ih (i + 1) _ (by omega) (by omega) (by omega)
theorem szVersionS_ev (xs : List S128) (a : Int) (h0 : 0 ≤ a) (h1 : a ≤ 9223372036854775806) (hl : xs.length ≤ 9223372036854775807) (hi : ∀ x ∈ xs, (ls0Version x).length ≤ 9223372036854775807) : Ev (fun k => laws_szVersionS.f k xs a) (szR a (xs.length + sumLen ls0Version xs)) := by
  unfold laws_szVersionS.f
  rw [w64 (by omega) (by omega)]
  by_cases c : a - (xs.length : Int) < 0
  · refine ev_pos c (ev_of ?_)
    rw [szR_neg _ _ _ (by unfold szR; rw [if_pos c]; omega)]
  · refine ev_neg c ?_
    have e : szR a xs.length = a - (xs.length : Int) := by unfold szR; rw [if_neg c]
    have h := szVersionS_l0 xs hi (by omega) xs.length 0 (a - (xs.length : Int)) (by omega) (by omega) (by omega)
    rw [List.drop_zero, ← e, szR_add _ _ _ (by rw [e]; exact c), e] at h
    exact h
theorem toVersion_ev (x : S128) (hn : (ls0Version x).length ≤ 35184372088832) : Ev (fun k => laws_toVersion.f k x.f0.f0 x.f0.f1 x.f0.f2 x.f1 x.f2.f0 x.f2.f1 x.f2.f2.f0 x.f2.f2.f1 x.f2.f2.f2) (x.f0.f0, x.f0.f1, x.f0.f2, x.f1, x.f2.f0, x.f2.f1, x.f2.f2.f0, x.f2.f2.f1, x.f2.f2.f2) := by
  unfold laws_toVersion.f laws_toAddress.f
  exact ev_bind0 rfl (Ev.bind (toResource_ev _ _ _ _ _ hn) (Ev.now _))
theorem toVersionS_l0 (xs : List S128) (hn : xs.length ≤ 1048576) (hi : ∀ x ∈ xs, (ls0Version x).length ≤ 35184372088832) : ∀ (d i : Nat) (out : List S130), i + d = xs.length → out.length = xs.length → out.take i = (xs.map convVersion).take i → Ev (fun k => laws_toVersionS.l0 k xs out (i : Int)) (xs.map convVersion) := by
  intro d
  induction d with
  | zero =>
    intro i out hd hl ht
    refine Ev.step (fun _ => laws_toVersionS.l0.eq_2 ..) (ev_neg (by omega) (ev_of ?_))
    rw [List.take_of_length_le (by omega), List.take_of_length_le (by rw [List.length_map]; omega)] at ht
    rw [ht]
  | succ d ih =>
    intro i out hd hl ht
    have hlt : i < xs.length := by omega
    refine Ev.step (fun _ => laws_toVersionS.l0.eq_2 ..) (ev_pos (by omega) (ev_pos (by omega) ?_))
    rw [rd0Version xs i hlt]
    refine Ev.bind (toVersion_ev _ (hi _ (List.getElem_mem hlt))) (ev_pos (by omega) ?_)
    rw [w64 (by omega) (by omega)]
    exact ih (i + 1) _ (by omega) (by rw [List.length_set]; exact hl) (set_takeG ht (by rw [List.length_map]; exact hl) (by rw [List.length_map]; exact hlt) (by rw [List.getElem_map]; rfl))
theorem toVersionS_ev (xs : List S128) (hn : xs.length ≤ 1048576) (hi : ∀ x ∈ xs, (ls0Version x).length ≤ 35184372088832) : Ev (fun k => laws_toVersionS.f k xs) (xs.map convVersion) := by
  unfold laws_toVersionS.f
  refine ev_pos (by omega) (ev_pos (by omega) ?_)
  exact toVersionS_l0 xs hn hi xs.length 0 _ (by omega) (by simp) (by simp)
theorem eqVersion_same (x : S130) (hn : (ls1Version x).length ≤ 9223372036854775807) : Ev (fun k => laws_eqVersion.f k x.f0.f0 x.f0.f1 x.f0.f2 x.f1 x.f2.f0 x.f2.f1 x.f2.f2.f0 x.f2.f2.f1 x.f2.f2.f2 x.f0.f0 x.f0.f1 x.f0.f2 x.f1 x.f2.f0 x.f2.f1 x.f2.f2.f0 x.f2.f2.f1 x.f2.f2.f2) true := by
  unfold laws_eqVersion.f
  exact ev_bind0 (eqAddress_same _ _ _) (ev_pos rfl (ev_pos rfl (Ev.bind (eqResource_same _ _ _ _ _ hn) (ev_pos rfl (Ev.now _)))))
theorem eqVersionS_l0 (xs : List S130) (hn : xs.length ≤ 9223372036854775806) (hi : ∀ x ∈ xs, (ls1Version x).length ≤ 9223372036854775807) : ∀ (d i : Nat), i + d = xs.length → Ev (fun k => laws_eqVersionS.l0 k xs xs (i : Int)) true := by
  intro d
  induction d with
  | zero =>
    intro i hd
    exact Ev.step (fun _ => laws_eqVersionS.l0.eq_2 ..) (ev_neg (by omega) (Ev.now true))
  | succ d ih =>
    intro i hd
    have hlt : i < xs.length := by omega
    refine Ev.step (fun _ => laws_eqVersionS.l0.eq_2 ..) (ev_pos (by omega) (ev_pos (by omega) (ev_pos (by omega) ?_)))
    rw [rd1Version xs i hlt]
    refine Ev.bind (eqVersion_same _ (hi _ (List.getElem_mem hlt))) (ev_pos rfl ?_)
    rw [w64 (by omega) (by omega)]
    exact ih (i + 1) (by omega)
theorem eqVersionS_same (xs : List S130) (hn : xs.length ≤ 9223372036854775806) (hi : ∀ x ∈ xs, (ls1Version x).length ≤ 9223372036854775807) : Ev (fun k => laws_eqVersionS.f k xs xs) true := by
  unfold laws_eqVersionS.f
  exact ev_pos rfl (eqVersionS_l0 xs hn hi xs.length 0 (by omega))
theorem l1In_val (a b c : Int) : spec_l1In.f a b c = some (decide (b ≤ a ∧ a ≤ c)) := by
  unfold spec_l1In.f
  by_cases h : a ≥ b
  · rw [if_pos h]; simp [h]
  · rw [if_neg h]; simp [h]
theorem inRange_val (a b c : Int) : impl_InRange.f a b c = some (decide (b ≤ a ∧ a ≤ c)) := by
  unfold impl_InRange.f
  by_cases h : b ≤ a
  · rw [if_pos h]; simp [h]
  · rw [if_neg h]; simp [h]
def isAddr (a b c : Int) : Bool := decide (1 ≤ a ∧ a ≤ 9) && (decide (0 ≤ b ∧ b ≤ 99) && decide (0 ≤ c ∧ c ≤ 99))
theorem spec_IsAddress_val (a b c : Int) : spec_IsAddress.f a b c = some (isAddr a b c) := by
  unfold spec_IsAddress.f isAddr
  simp only [l1In_val, Option.bind_some]
  by_cases h1 : 1 ≤ a ∧ a ≤ 9 <;> by_cases h2 : 0 ≤ b ∧ b ≤ 99 <;> simp [h1, h2]
theorem impl_IsAddress_val (a b c : Int) : impl_IsAddress.f a b c = some (isAddr a b c) := by
  unfold impl_IsAddress.f isAddr
  simp only [inRange_val, Option.bind_some]
  by_cases h1 : 1 ≤ a ∧ a ≤ 9 <;> by_cases h2 : 0 ≤ b ∧ b ≤ 99 <;> simp [h1, h2]
def okB (l : List Int) : Bool := l.all fun x => decide (0 ≤ x ∧ x ≤ 255)
theorem spec_l5Bytes_l0 (xs : List Int) (hn : xs.length ≤ 1099511627776) : ∀ (d i : Nat), i + d = xs.length → Ev (fun k => spec_l5Bytes.l0 k xs (i : Int)) (okB (xs.drop i)) := by
  intro d
  induction d with
  | zero =>
    intro i hd
    refine Ev.step (fun _ => spec_l5Bytes.l0.eq_2 ..) (ev_neg (by omega) (ev_of ?_))
    rw [List.drop_eq_nil_of_le (by omega)]
    rfl
  | succ d ih =>
    intro i hd
    have hlt : i < xs.length := by omega
    refine Ev.step (fun _ => spec_l5Bytes.l0.eq_2 ..) (ev_pos (by omega) (ev_pos (by omega) (ev_bind0 (l1In_val _ _ _) ?_)))
    rw [rd_at xs i hlt, List.drop_eq_getElem_cons hlt, okB, List.all_cons]
    by_cases h : 0 ≤ xs[i]'hlt ∧ xs[i]'hlt ≤ 255
    · refine ev_pos (decide_eq_true h) ?_
      rw [w64 (by omega) (by omega), decide_eq_true h, Bool.true_and]
      exact ih (i + 1) (by omega)
    · refine ev_neg (by simp only [decide_eq_true_eq]; exact h) (ev_of ?_)
      rw [decide_eq_false h, Bool.false_and]
theorem impl_allIn_l0 (xs : List Int) (hn : xs.length ≤ 1099511627776) : ∀ (d i : Nat), i + d = xs.length → Ev (fun k => impl_allIn.l0 k 0 255 xs (xs.length : Int) (i : Int)) (okB (xs.drop i)) := by
  intro d
  induction d with
  | zero =>
    intro i hd
    refine Ev.step (fun _ => impl_allIn.l0.eq_2 ..) (ev_neg (by omega) (ev_of ?_))
    rw [List.drop_eq_nil_of_le (by omega)]
    rfl
  | succ d ih =>
    intro i hd
    have hlt : i < xs.length := by omega
    refine Ev.step (fun _ => impl_allIn.l0.eq_2 ..) (ev_pos (by omega) (ev_pos (by omega) (ev_pos (by omega) (ev_bind0 (inRange_val _ _ _) ?_))))
    rw [rd_at xs i hlt, List.drop_eq_getElem_cons hlt, okB, List.all_cons]
    by_cases h : 0 ≤ xs[i]'hlt ∧ xs[i]'hlt ≤ 255
    · refine ev_pos (decide_eq_true h) ?_
      rw [w64 (by omega) (by omega), decide_eq_true h, Bool.true_and]
      exact ih (i + 1) (by omega)
    · refine ev_neg (by simp only [decide_eq_true_eq]; exact h) (ev_of ?_)
      rw [decide_eq_false h, Bool.false_and]
theorem spec_l5Bytes_ev (xs : List Int) (hn : xs.length ≤ 1099511627776) : Ev (fun k => spec_l5Bytes.f k xs) (okB xs) := by
  unfold spec_l5Bytes.f
  exact spec_l5Bytes_l0 xs hn xs.length 0 (by omega)
theorem impl_allIn_ev (xs : List Int) (hn : xs.length ≤ 1099511627776) : Ev (fun k => impl_allIn.f k xs 0 255) (okB xs) := by
  unfold impl_allIn.f
  exact impl_allIn_l0 xs hn xs.length 0 (by omega)
def zeroA (a b c : Int) : Bool := a == 0 && (b == 0 && (c == 0))
def isRes (k : Int) (l : List Int) (a b c : Int) : Bool :=
  if k = 1 ∨ k = 2 then decide (l.length ≤ 6) && (okB l && zeroA a b c)
  else if k = 3 then decide (l.length = 0) && isAddr a b c
  else if k = 4 then decide (l.length = 0) && zeroA a b c else false
theorem len0 (l : List Int) : ((l.length : Int) == 0) = decide (l.length = 0) := by
  rw [Bool.eq_iff_iff]
  simp
theorem okB_nil (l : List Int) (h : l.length = 0) : okB l = true := by
  rw [List.eq_nil_of_length_eq_zero h]
  rfl
theorem spec_IsResource_ev (k : Int) (l : List Int) (a b c : Int) (hn : l.length ≤ 1099511627776) : Ev (fun n => spec_IsResource.f n k l a b c) (isRes k l a b c) := by
  unfold spec_IsResource.f
  refine ev_bind0 (l1In_val _ _ _) ?_
  by_cases hk : 1 ≤ k ∧ k ≤ 4
  · refine ev_pos (decide_eq_true hk) (Ev.bind (spec_l5Bytes_ev l hn) ?_)
    by_cases ho : okB l = true
    · refine ev_pos ho (Ev.step (fun _ => spec_IsResource.j0.eq_2 ..) ?_)
      by_cases hl : l.length ≤ 6
      · refine ev_neg (by simp only [decide_eq_true_eq]; omega) ?_
        by_cases h3 : k = 3
        · refine ev_pos h3 (ev_bind0 (spec_IsAddress_val _ _ _) ?_)
          have e : isRes k l a b c = (decide (l.length = 0) && isAddr a b c) := by unfold isRes; rw [if_neg (by omega), if_pos h3]
          rw [e]
          by_cases ha : isAddr a b c = true
          · refine ev_pos ha (ev_of ?_)
            rw [len0, ha, Bool.and_true]
          · refine ev_neg ha (ev_of ?_)
            rw [Bool.eq_false_iff.2 ha, Bool.and_false]
        · refine ev_neg h3 ?_
          by_cases hz : zeroA a b c = true
          · refine ev_pos hz ?_
            by_cases h4 : k = 4
            · refine ev_pos h4 (ev_of ?_)
              unfold isRes
              rw [if_neg (by omega), if_neg h3, if_pos h4, hz, Bool.and_true, len0]
            · refine ev_neg h4 (ev_of ?_)
              unfold isRes
              rw [if_pos (by omega), hz, ho, decide_eq_true hl]
              rfl
          · refine ev_neg hz (ev_of ?_)
            unfold isRes
            have hz' := Bool.eq_false_iff.2 hz
            by_cases h4 : k = 4
            · rw [if_neg (by omega), if_neg h3, if_pos h4, hz', Bool.and_false]
            · rw [if_pos (by omega), hz', Bool.and_false, Bool.and_false]
      · refine ev_pos (decide_eq_true (by omega)) (ev_of ?_)
        unfold isRes
        rw [decide_eq_false hl, decide_eq_false (show ¬ l.length = 0 by omega)]
        simp
    · refine ev_neg ho (Ev.step (fun _ => spec_IsResource.j0.eq_2 ..) (ev_pos rfl (ev_of ?_)))
      have hne : ¬ l.length = 0 := fun h => ho (okB_nil l h)
      unfold isRes
      rw [Bool.eq_false_iff.2 ho, decide_eq_false hne]
      simp
  · refine ev_neg (by simp only [decide_eq_true_eq]; exact hk) (Ev.step (fun _ => spec_IsResource.j0.eq_2 ..) (ev_pos rfl (ev_of ?_)))
    unfold isRes
    rw [if_neg (by omega), if_neg (by omega), if_neg (by omega)]
theorem impl_IsResource_ev (k : Int) (l : List Int) (a b c : Int) (hn : l.length ≤ 1099511627776) : Ev (fun n => impl_IsResource.f n k l a b c) (isRes k l a b c) := by
  have body : ∀ q : Bool, (q = true ↔ k = 1 ∨ k = 2) → Ev (fun n => impl_IsResource.j0 n k q k l a b c) (isRes k l a b c) := by
    intro q hq
    refine Ev.step (fun _ => impl_IsResource.j0.eq_2 ..) ?_
    by_cases h : q = true
    · refine ev_pos h ?_
      have e : isRes k l a b c = (decide (l.length ≤ 6) && (okB l && zeroA a b c)) := by unfold isRes; rw [if_pos (hq.1 h)]
      rw [e]
      by_cases hl : l.length ≤ 6
      · refine ev_pos (by omega) (Ev.bind (impl_allIn_ev l hn) ?_)
        rw [decide_eq_true hl, Bool.true_and]
        by_cases ho : okB l = true
        · refine ev_pos ho (ev_of ?_)
          rw [ho, Bool.true_and]
          rfl
        · refine ev_neg ho (ev_of ?_)
          rw [Bool.eq_false_iff.2 ho, Bool.false_and]
      · refine ev_neg (by omega) (ev_of ?_)
        rw [decide_eq_false hl, Bool.false_and]
    · refine ev_neg h ?_
      have hk : ¬ (k = 1 ∨ k = 2) := fun hh => h (hq.2 hh)
      by_cases h3 : k = 3
      · have e : isRes k l a b c = (decide (l.length = 0) && isAddr a b c) := by unfold isRes; rw [if_neg hk, if_pos h3]
        rw [e]
        refine ev_pos h3 ?_
        by_cases hl : l.length = 0
        · refine ev_pos (by omega) (ev_bind0 (impl_IsAddress_val _ _ _) (ev_of ?_))
          rw [decide_eq_true hl, Bool.true_and]
        · refine ev_neg (by omega) (ev_of ?_)
          rw [decide_eq_false hl, Bool.false_and]
      · refine ev_neg h3 ?_
        by_cases h4 : k = 4
        · have e : isRes k l a b c = (decide (l.length = 0) && zeroA a b c) := by unfold isRes; rw [if_neg hk, if_neg h3, if_pos h4]
          rw [e]
          refine ev_pos h4 ?_
          by_cases hl : l.length = 0
          · refine ev_pos (by omega) (ev_of ?_)
            rw [decide_eq_true hl, Bool.true_and]
            rfl
          · refine ev_neg (by omega) (ev_of ?_)
            rw [decide_eq_false hl, Bool.false_and]
        · have e : isRes k l a b c = false := by unfold isRes; rw [if_neg hk, if_neg h3, if_neg h4]
          rw [e]
          exact ev_neg h4 (Ev.now _)
  unfold impl_IsResource.f
  by_cases h1 : k = 1
  · exact ev_pos h1 (body _ (by simp [h1]))
  · exact ev_neg h1 (body _ (by simp [h1]))
def okV (x : S130) : Bool := isAddr x.f0.f0 x.f0.f1 x.f0.f2 && (decide (0 ≤ x.f1 ∧ x.f1 ≤ 1000) && isRes x.f2.f0 x.f2.f1 x.f2.f2.f0 x.f2.f2.f1 x.f2.f2.f2)
theorem site_l0 (xs : List S130) (hn : xs.length ≤ 1048576) (hi : ∀ x ∈ xs, (ls1Version x).length ≤ 1048576) : ∀ (d i : Nat), i + d = xs.length → Ev (fun k => spec_IsSite.l0 k xs (i : Int)) ((xs.drop i).all okV && decide ((xs.length : Int) ≤ 12)) ∧ Ev (fun k => impl_IsSite.l0 k xs (xs.length : Int) (i : Int)) ((xs.drop i).all okV && decide ((xs.length : Int) ≤ 12)) := by
  intro d
  induction d with
  | zero =>
    intro i hd
    rw [List.drop_eq_nil_of_le (by omega), List.all_nil, Bool.true_and]
    exact ⟨Ev.step (fun _ => spec_IsSite.l0.eq_2 ..) (ev_neg (by omega) (Ev.now _)), Ev.step (fun _ => impl_IsSite.l0.eq_2 ..) (ev_neg (by omega) (Ev.now _))⟩
  | succ d ih =>
    intro i hd
    have hlt : i < xs.length := by omega
    have hl := hi _ (List.getElem_mem hlt)
    obtain ⟨s1, s2⟩ := ih (i + 1) (by omega)
    rw [List.drop_eq_getElem_cons hlt, List.all_cons]
    have ec : Ev (fun k => impl_IsSite_c1.f k (xs[i]).f0.f0 (xs[i]).f0.f1 (xs[i]).f0.f2 (xs[i]).f1 (xs[i]).f2.f0 (xs[i]).f2.f1 (xs[i]).f2.f2.f0 (xs[i]).f2.f2.f1 (xs[i]).f2.f2.f2) (!(okV xs[i])) := by
      unfold impl_IsSite_c1.f okV
      refine ev_bind0 (impl_IsAddress_val ..) ?_
      by_cases h1 : isAddr (xs[i]).f0.f0 (xs[i]).f0.f1 (xs[i]).f0.f2 = true
      · rw [h1, Bool.true_and]
        refine ev_pos rfl (ev_bind0 (inRange_val ..) ?_)
        by_cases h2 : 0 ≤ (xs[i]).f1 ∧ (xs[i]).f1 ≤ 1000
        · rw [decide_eq_true h2, Bool.true_and]
          exact ev_pos rfl (Ev.bind (impl_IsResource_ev _ _ _ _ _ (by have : (xs[i]).f2.f1.length ≤ 1048576 := hl; omega)) (Ev.now _))
        · rw [decide_eq_false h2, Bool.false_and]
          exact ev_neg (by decide) (Ev.now _)
      · rw [Bool.eq_false_iff.2 h1, Bool.false_and]
        exact ev_neg (by decide) (Ev.now _)
    constructor
    · refine Ev.step (fun _ => spec_IsSite.l0.eq_2 ..) (ev_pos (by omega) (ev_pos (by omega) ?_))
      rw [rd1Version xs i hlt, w64 (x := (i : Int) + 1) (by omega) (by omega)]
      refine ev_bind0 (spec_IsAddress_val ..) ?_
      unfold okV
      by_cases h1 : isAddr (xs[i]).f0.f0 (xs[i]).f0.f1 (xs[i]).f0.f2 = true
      · rw [h1, Bool.true_and]
        refine ev_pos rfl (ev_bind0 (l1In_val ..) ?_)
        by_cases h2 : 0 ≤ (xs[i]).f1 ∧ (xs[i]).f1 ≤ 1000
        · rw [decide_eq_true h2, Bool.true_and]
          refine ev_pos rfl (Ev.bind (spec_IsResource_ev _ _ _ _ _ (by have : (xs[i]).f2.f1.length ≤ 1048576 := hl; omega)) ?_)
          by_cases h3 : isRes (xs[i]).f2.f0 (xs[i]).f2.f1 (xs[i]).f2.f2.f0 (xs[i]).f2.f2.f1 (xs[i]).f2.f2.f2 = true
          · rw [h3, Bool.true_and]
            exact ev_pos rfl s1
          · rw [Bool.eq_false_iff.2 h3, Bool.false_and]
            exact ev_neg (by decide) (Ev.now _)
        · rw [decide_eq_false h2, Bool.false_and, Bool.false_and]
          exact ev_neg (by decide) (Ev.now _)
      · rw [Bool.eq_false_iff.2 h1, Bool.false_and, Bool.false_and]
        exact ev_neg (by decide) (Ev.now _)
    · refine Ev.step (fun _ => impl_IsSite.l0.eq_2 ..) (ev_pos (by omega) (ev_pos (by omega) (ev_pos (by omega) ?_)))
      rw [rd1Version xs i hlt, w64 (x := (i : Int) + 1) (by omega) (by omega)]
      refine Ev.bind ec ?_
      by_cases h : okV xs[i] = true
      · rw [h, Bool.true_and]
        exact ev_neg (by decide) s2
      · rw [Bool.eq_false_iff.2 h, Bool.false_and]
        exact ev_pos rfl (Ev.now _)
theorem FnExactIsSite : ∀ (x0 : List (S128)), (x0.length ≤ 9223372036854775807 ∧ ∀ y ∈ x0, g128 y) → ∃ k, laws_FnExactIsSite.f k x0 = some true := by
  intro xs hg
  obtain ⟨hl, hy⟩ := hg
  have hi : ∀ x ∈ xs, (ls0Version x).length ≤ 9223372036854775807 := fun x hx => (hy x hx).2.2.2.1.1
  refine Ev.rounds (g := fun k => laws_FnExactIsSite.f k xs) ?_
  unfold laws_FnExactIsSite.f
  refine Ev.bind (szVersionS_ev xs 1048576 (by omega) (by omega) hl hi) ?_
  by_cases hb : szR 1048576 (xs.length + sumLen ls0Version xs) < 0
  · exact ev_pos hb (Ev.now true)
  refine ev_neg hb ?_
  have hle := szR_le _ _ hb
  have hi2 : ∀ x ∈ xs, (ls0Version x).length ≤ 1048576 := fun x hx => by have := sumLen_mem ls0Version xs x hx; omega
  have hto := toVersionS_ev xs (by omega) (fun x hx => by have := hi2 x hx; omega)
  have hlen : (xs.map convVersion).length = xs.length := List.length_map ..
  have hc : ∀ x ∈ xs.map convVersion, (ls1Version x).length ≤ 1048576 := by
    intro x hx
    obtain ⟨y, hy', rfl⟩ := List.mem_map.1 hx
    exact hi2 y hy'
  obtain ⟨e1, e2⟩ := site_l0 (xs.map convVersion) (by omega) hc (xs.map convVersion).length 0 (by omega)
  have hx := eqVersionS_same (xs.map convVersion) (by omega) (fun x hx => by have := hc x hx; omega)
  exact Ev.bind hto (Ev.bind e1 (Ev.bind hto (Ev.bind e2 (ev_neg (by simp) (Ev.bind hto (Ev.bind hx (ev_pos rfl (Ev.now true))))))))

end Go.Proofs.Ytgcidlnhgpjdpac.Pure
