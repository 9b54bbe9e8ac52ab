/- The pure statement behind the law FnExactDigestOf: over numbers and lists the law answers true, at every input that the row's bounds let in. -/
import Derived.Test.YtgcidlnhgpjdpacQFnExactDigestOfx2
import Derived.Test.YtgcidlnhgpjdpacQFnExactDigestOfg
namespace Go.Proofs.Ytgcidlnhgpjdpac.Pure
open Go Go.RowKit Go.Proofs.Ytgcidlnhgpjdpac.QFnExactDigestOf Go.Proofs.YtgcidlnhgpjdpacW.PrintWords Go.Proofs.YtgcidlnhgpjdpacW.PrintLast Go.Proofs.YtgcidlnhgpjdpacW.PrintMore
set_option linter.unusedVariables false
set_option linter.unusedSimpArgs false
set_option maxRecDepth 100000

theorem w64 {x : Int} (h0 : -9223372036854775808 ≤ x) (h1 : x ≤ 9223372036854775807) : wrap64 x = x := by unfold wrap64; omega
theorem wf64 {x : Int} (h : (Lit.int .i64 x).wf = true) : -9223372036854775808 ≤ x ∧ x ≤ 9223372036854775807 := by
  simp [Lit.wf, IntKind.min, IntKind.max, IntKind.signed, IntKind.bits] at h
  omega
theorem wf8 {x : Int} (h : (Lit.int .u8 x).wf = true) : 0 ≤ x ∧ x ≤ 255 := by
  simp [Lit.wf, IntKind.min, IntKind.max, IntKind.signed, IntKind.bits] at h
  omega
theorem ev_pos {α : Type} {c : Prop} [Decidable c] {g f : Nat → Option α} {r : α} (h : c) (k : Ev g r) : Ev (fun n => if c then g n else f n) r := by
  obtain ⟨K, hK⟩ := k
  exact ⟨K, fun n hn => (if_pos h).trans (hK n hn)⟩
theorem ev_neg {α : Type} {c : Prop} [Decidable c] {g f : Nat → Option α} {r : α} (h : ¬ c) (k : Ev f r) : Ev (fun n => if c then g n else f n) r := by
  obtain ⟨K, hK⟩ := k
  exact ⟨K, fun n hn => (if_neg h).trans (hK n hn)⟩
theorem ev_bind0 {α β : Type} {o : Option α} {f : Nat → α → Option β} {a : α} {r : β} (h : o = some a) (k : Ev (fun n => f n a) r) : Ev (fun n => o.bind (f n)) r := by
  subst h
  exact k
theorem ev_of {α : Type} {o : Option α} {r : α} (h : o = some r) : Ev (fun _ => o) r := ⟨0, fun _ _ => h⟩
theorem rd_at (xs : List Int) (i : Nat) (h : i < xs.length) : rd xs (i : Int) = xs[i] := by
  unfold rd
  rw [Int.toNat_natCast, List.getD_eq_getElem?_getD, List.getElem?_eq_getElem h]
  rfl
theorem set_take {out xs : List Int} {i : Nat} (h : out.take i = xs.take i) (hl : out.length = xs.length) (hi : i < xs.length) : (out.set ((i : Int)).toNat (rd xs i)).take (i + 1) = xs.take (i + 1) := by
  rw [rd_at xs i hi, Int.toNat_natCast, List.take_succ_eq_append_getElem hi, List.take_succ_eq_append_getElem (by rw [List.length_set]; omega)]
  rw [List.take_set_of_le (Nat.le_refl _), h]
  simp
def seqFrom (m : Int) (n : Nat) : List Int := (List.range n).map fun (j : Nat) => m + (j : Int)
theorem seqFrom_length (m : Int) (n : Nat) : (seqFrom m n).length = n := by simp [seqFrom]
theorem seqFrom_get (m : Int) (n i : Nat) (h : i < n) : (seqFrom m n)[i]'(by rw [seqFrom_length]; exact h) = m + (i : Int) := by simp [seqFrom]
theorem seq_set {x ys : List Int} {i : Nat} (h : x.take i = ys.take i) (hl : x.length = ys.length) (hi : i < ys.length) {v : Int} (hv : ys[i] = v) : (x.set ((i : Int)).toNat v).take (i + 1) = ys.take (i + 1) := by
  subst hv
  rw [Int.toNat_natCast, List.take_succ_eq_append_getElem hi, List.take_succ_eq_append_getElem (by rw [List.length_set]; omega)]
  rw [List.take_set_of_le (Nat.le_refl _), h]
  simp
theorem toIntS_l0 (xs : List Int) (hn : xs.length ≤ 35184372088832) : ∀ (d i : Nat) (out : List Int), i + d = xs.length → out.length = xs.length → out.take i = xs.take i → Ev (fun k => laws_toIntS.l0 k xs out (i : Int)) xs := by
  intro d
  induction d with
  | zero =>
    intro i out hd hl ht
    refine Ev.step (fun _ => laws_toIntS.l0.eq_2 ..) (ev_neg (by omega) (ev_of ?_))
    rw [List.take_of_length_le (by omega), List.take_of_length_le (by omega)] at ht
    rw [ht]
  | succ d ih =>
    intro i out hd hl ht
    refine Ev.step (fun _ => laws_toIntS.l0.eq_2 ..) (ev_pos (by omega) (ev_pos (by omega) (ev_pos (by omega) ?_)))
    rw [w64 (by omega) (by omega)]
    exact ih (i + 1) _ (by omega) (by rw [List.length_set]; exact hl) (set_take ht hl (by omega))
theorem toIntS_ev (xs : List Int) (hn : xs.length ≤ 35184372088832) : Ev (fun k => laws_toIntS.f k xs) xs := by
  unfold laws_toIntS.f
  refine ev_pos (by omega) (ev_pos (by omega) ?_)
  exact toIntS_l0 xs hn xs.length 0 _ (by omega) (by simp) (by simp)
theorem eqIntS_l0 (xs : List Int) (hn : xs.length ≤ 9223372036854775807) : ∀ (d i : Nat), i + d = xs.length → Ev (fun k => laws_eqIntS.l0 k xs xs (i : Int)) true := by
  intro d
  induction d with
  | zero =>
    intro i hd
    exact Ev.step (fun _ => laws_eqIntS.l0.eq_2 ..) (ev_neg (by omega) (Ev.now true))
  | succ d ih =>
    intro i hd
    refine Ev.step (fun _ => laws_eqIntS.l0.eq_2 ..) (ev_pos (by omega) (ev_pos (by omega) (ev_pos (by omega) (ev_pos rfl ?_))))
    rw [w64 (by omega) (by omega)]
    exact ih (i + 1) (by omega)
theorem eqIntS_same (xs : List Int) (hn : xs.length ≤ 9223372036854775807) : Ev (fun k => laws_eqIntS.f k xs xs) true := by
  unfold laws_eqIntS.f
  exact ev_pos rfl (eqIntS_l0 xs hn xs.length 0 (by omega))
def szR (a : Int) (n : Nat) : Int := if a - (n : Int) < 0 then -1 else a - (n : Int)
theorem szR_zero (a : Int) (h : 0 ≤ a) : szR a 0 = a := by unfold szR; rw [if_neg (by omega)]; omega
theorem szR_neg (a : Int) (n m : Nat) (h : szR a n < 0) : szR a (n + m) = -1 := by
  unfold szR at h ⊢
  by_cases c : a - (n : Int) < 0
  · rw [if_pos (by omega)]
  · rw [if_neg c] at h
    omega
theorem szR_neg1 (a : Int) (n : Nat) (h : szR a n < 0) : szR a n = -1 := by
  have := szR_neg a n 0 h
  rwa [Nat.add_zero] at this
theorem szR_add (a : Int) (n m : Nat) (h : ¬ szR a n < 0) : szR (szR a n) m = szR a (n + m) := by
  unfold szR at h ⊢
  by_cases c : a - (n : Int) < 0
  · rw [if_pos c] at h
    omega
  · rw [if_neg c]
    by_cases d : a - (n : Int) - (m : Int) < 0
    · rw [if_pos d, if_pos (by omega)]
    · rw [if_neg d, if_neg (by omega)]
      omega
theorem szR_le (a : Int) (n : Nat) (h : ¬ szR a n < 0) : (n : Int) ≤ a := by
  unfold szR at h
  by_cases c : a - (n : Int) < 0
  · rw [if_pos c] at h
    omega
  · omega
theorem szR_range (a : Int) (n : Nat) (h : ¬ szR a n < 0) : 0 ≤ szR a n ∧ szR a n ≤ a := by
  have := szR_le a n h
  unfold szR at h ⊢
  rw [if_neg (by omega)]
  omega
theorem szIntS_val (l : List Int) (a : Int) (h0 : 0 ≤ a) (h1 : a ≤ 9223372036854775807) (hl : l.length ≤ 9223372036854775807) : laws_szIntS.f l a = some (szR a l.length) := by
  unfold laws_szIntS.f szR
  rw [w64 (by omega) (by omega)]
  split <;> rfl
theorem some_neg {a : Int} (h : a < 0 → a = -1) : (if a < 0 then some (-1) else some a) = some a := by
  split
  · rw [h (by assumption)]
  · rfl
theorem getD_at {α : Type} (xs : List α) (z : α) (i : Nat) (h : i < xs.length) : xs.getD ((i : Int)).toNat z = xs[i] := by
  rw [Int.toNat_natCast, List.getD_eq_getElem?_getD, List.getElem?_eq_getElem h]
  rfl
theorem set_takeG {α : Type} {out ys : List α} {i : Nat} (h : out.take i = ys.take i) (hl : out.length = ys.length) (hi : i < ys.length) {v : α} (hv : ys[i] = v) : (out.set ((i : Int)).toNat v).take (i + 1) = ys.take (i + 1) := by
  subst hv
  rw [Int.toNat_natCast, List.take_succ_eq_append_getElem hi, List.take_succ_eq_append_getElem (by rw [List.length_set]; omega)]
  rw [List.take_set_of_le (Nat.le_refl _), h]
  simp
def sumLen {α : Type} (f : α → List Int) (xs : List α) : Nat := (xs.map fun x => (f x).length).sum
theorem sumLen_cons {α : Type} (f : α → List Int) (x : α) (xs : List α) : sumLen f (x :: xs) = (f x).length + sumLen f xs := by simp [sumLen]
theorem sumLen_mem {α : Type} (f : α → List Int) : ∀ (xs : List α) (x : α), x ∈ xs → (f x).length ≤ sumLen f xs
  | y :: xs, x, h => by
    rw [sumLen_cons]
    rcases List.mem_cons.1 h with rfl | h
    · omega
    · have := sumLen_mem f xs x h
      omega
theorem szResource_val (a0 : Int) (l : List Int) (a2 a3 a4 a : Int) (h0 : 0 ≤ a) (h1 : a ≤ 9223372036854775807) (hl : l.length ≤ 9223372036854775807) : laws_szResource.f a0 l a2 a3 a4 a = some (szR a l.length) := by
  unfold laws_szResource.f
  rw [szIntS_val l a h0 h1 hl, Option.bind_some]
  exact some_neg (szR_neg1 a _)
theorem toResource_ev (a0 : Int) (l : List Int) (a2 a3 a4 : Int) (hn : l.length ≤ 35184372088832) : Ev (fun k => laws_toResource.f k a0 l a2 a3 a4) (a0, l, a2, a3, a4) := by
  unfold laws_toResource.f laws_toAddress.f
  exact Ev.bind (toIntS_ev l hn) (Ev.now _)
theorem eqAddress_same (a b c : Int) : laws_eqAddress.f a b c a b c = some true := by
  unfold laws_eqAddress.f
  rw [if_pos rfl, if_pos rfl, if_pos rfl]
theorem eqResource_same (a0 : Int) (l : List Int) (a2 a3 a4 : Int) (hn : l.length ≤ 9223372036854775807) : Ev (fun k => laws_eqResource.f k a0 l a2 a3 a4 a0 l a2 a3 a4) true := by
  unfold laws_eqResource.f
  refine ev_pos rfl (Ev.bind (eqIntS_same l hn) (ev_pos rfl (ev_bind0 (eqAddress_same _ _ _) (ev_pos rfl (Ev.now _)))))
theorem l1In_val (a b c : Int) : spec_l1In.f a b c = some (decide (b ≤ a ∧ a ≤ c)) := by
  unfold spec_l1In.f
  by_cases h : a ≥ b
  · rw [if_pos h]; simp [h]
  · rw [if_neg h]; simp [h]
theorem inRange_val (a b c : Int) : impl_InRange.f a b c = some (decide (b ≤ a ∧ a ≤ c)) := by
  unfold impl_InRange.f
  by_cases h : b ≤ a
  · rw [if_pos h]; simp [h]
  · rw [if_neg h]; simp [h]
theorem tmod_twice (a b : Int) (h1 : 1 ≤ b) (h2 : b ≤ 1000000000000) : Int.tmod (wrap64 (Int.tmod a b + b)) b = a % b := by
  have hlt : Int.tmod a b < b := Int.tmod_lt_of_pos a (by omega)
  have hgt : -b < Int.tmod a b := by
    have h := Int.tmod_lt_of_pos (-a) (show 0 < b by omega)
    rw [Int.neg_tmod] at h
    omega
  rw [w64 (by omega) (by omega), Int.tmod_eq_emod_of_nonneg (by omega), Int.add_emod_right]
  have e : Int.tmod a b = a - b * (a.tdiv b) := Int.tmod_def a b
  rw [e, Int.sub_mul_emod_self_left]
theorem spec_Mod_val (a b : Int) (h1 : 1 ≤ b) (h2 : b ≤ 1000000000000) : spec_Mod.f a b = some (a % b) := by
  unfold spec_Mod.f
  rw [l1In_val]
  simp only [Option.bind_some, h1, h2, and_self, decide_true, if_true]
  rw [if_neg (by omega), tmod_twice a b h1 h2]
theorem impl_Mod_val (a b : Int) (h1 : 1 ≤ b) (h2 : b ≤ 1000000000000) : impl_Mod.f a b = some (a % b) := by
  unfold impl_Mod.f
  rw [inRange_val]
  simp only [Option.bind_some, h1, h2, and_self, decide_true, if_true]
  rw [if_neg (by omega), tmod_twice a b h1 h2]
def hstep (h v : Int) : Int := (h * 1000003 + v % 2147483647 + 13) % 2147483647
def hashOf (l : List Int) : Int := l.foldl hstep 11
theorem hstep_range (h v : Int) : 0 ≤ hstep h v ∧ hstep h v < 2147483647 := by unfold hstep; omega
theorem hfold_range (l : List Int) : ∀ h : Int, 0 ≤ h → h < 2147483647 → 0 ≤ l.foldl hstep h ∧ l.foldl hstep h < 2147483647 := by
  induction l with
  | nil => intro h h0 h1; exact ⟨h0, h1⟩
  | cons v l ih => intro h _ _; exact ih _ (hstep_range h v).1 (hstep_range h v).2
theorem hashOf_range (l : List Int) : 0 ≤ hashOf l ∧ hashOf l < 2147483647 := hfold_range l 11 (by omega) (by omega)
theorem hstep_wrap (h v : Int) (h0 : 0 ≤ h) (h1 : h < 2147483647) : Int.tmod (wrap64 ((wrap64 ((wrap64 (h * 1000003)) + v % 2147483647)) + 13)) 2147483647 = hstep h v := by
  have e1 : wrap64 (h * 1000003) = h * 1000003 := w64 (by omega) (by omega)
  have e2 : wrap64 (h * 1000003 + v % 2147483647) = h * 1000003 + v % 2147483647 := w64 (by omega) (by omega)
  rw [e1, e2, w64 (by omega) (by omega), Int.tmod_eq_emod_of_nonneg (by omega)]
  rfl
theorem spec_Hash_l0 (xs : List Int) (hn : xs.length ≤ 4611686018427387904) : ∀ (d i : Nat) (h : Int), i + d = xs.length → 0 ≤ h → h < 2147483647 → Ev (fun k => spec_Hash.l0 k xs h (i : Int)) ((xs.drop i).foldl hstep h) := by
  intro d
  induction d with
  | zero =>
    intro i h hd h0 h1
    refine Ev.step (fun _ => spec_Hash.l0.eq_2 ..) (ev_neg (by omega) (ev_of ?_))
    rw [List.drop_eq_nil_of_le (by omega)]
    rfl
  | succ d ih =>
    intro i h hd h0 h1
    refine Ev.step (fun _ => spec_Hash.l0.eq_2 ..) (ev_pos (by omega) (ev_pos (by omega) (ev_bind0 (spec_Mod_val _ _ (by omega) (by omega)) ?_)))
    rw [hstep_wrap h _ h0 h1, w64 (by omega) (by omega), List.drop_eq_getElem_cons (show i < xs.length by omega), List.foldl_cons, ← rd_at xs i (by omega)]
    exact ih (i + 1) _ (by omega) (hstep_range _ _).1 (hstep_range _ _).2
theorem spec_Hash_ev (xs : List Int) (hn : xs.length ≤ 4611686018427387904) : Ev (fun k => spec_Hash.f k xs) (hashOf xs) := by
  unfold spec_Hash.f
  exact spec_Hash_l0 xs hn xs.length 0 11 (by omega) (by omega) (by omega)
theorem impl_Hash_l0 (xs : List Int) (hn : xs.length ≤ 4611686018427387904) : ∀ (d i : Nat) (h : Int), i + d = xs.length → 0 ≤ h → h < 2147483647 → Ev (fun k => impl_Hash.l0 k h xs (xs.length : Int) (i : Int)) ((xs.drop i).foldl hstep h) := by
  intro d
  induction d with
  | zero =>
    intro i h hd h0 h1
    refine Ev.step (fun _ => impl_Hash.l0.eq_2 ..) (ev_neg (by omega) (ev_of ?_))
    rw [List.drop_eq_nil_of_le (by omega)]
    rfl
  | succ d ih =>
    intro i h hd h0 h1
    refine Ev.step (fun _ => impl_Hash.l0.eq_2 ..) (ev_pos (by omega) (ev_pos (by omega) (ev_pos (by omega) (ev_bind0 (impl_Mod_val _ _ (by omega) (by omega)) ?_))))
    rw [hstep_wrap h _ h0 h1, w64 (by omega) (by omega), List.drop_eq_getElem_cons (show i < xs.length by omega), List.foldl_cons, ← rd_at xs i (by omega)]
    exact ih (i + 1) _ (by omega) (hstep_range _ _).1 (hstep_range _ _).2
theorem impl_Hash_ev (xs : List Int) (hn : xs.length ≤ 4611686018427387904) : Ev (fun k => impl_Hash.f k xs) (hashOf xs) := by
  unfold impl_Hash.f
  exact impl_Hash_l0 xs hn xs.length 0 11 (by omega) (by omega) (by omega)
def resInts (a0 : Int) (l : List Int) (a2 a3 a4 : Int) : List Int := [a0, a2, a3, a4, (l.length : Int)] ++ l
theorem resInts_len (a0 : Int) (l : List Int) (a2 a3 a4 : Int) : (resInts a0 l a2 a3 a4).length = l.length + 5 := by simp [resInts]
theorem spec_ResourceInts_val (a0 : Int) (l : List Int) (a2 a3 a4 : Int) (hl : l.length ≤ 1099511627776) : spec_ResourceInts.f a0 l a2 a3 a4 = some (resInts a0 l a2 a3 a4) := by
  unfold spec_ResourceInts.f
  rw [Option.bind_some, if_pos (by simp only [List.length_cons, List.length_nil]; omega)]
  rfl
theorem impl_ResourceInts_val (a0 : Int) (l : List Int) (a2 a3 a4 : Int) (hl : l.length ≤ 1099511627776) : impl_ResourceInts.f a0 l a2 a3 a4 = some (resInts a0 l a2 a3 a4) := by
  unfold impl_ResourceInts.f
  rw [Option.bind_some, if_pos (by simp only [List.length_cons, List.length_nil]; omega)]
  rfl
theorem spec_DigestOf_ev (a0 : Int) (l : List Int) (a2 a3 a4 : Int) (hl : l.length ≤ 1099511627776) : Ev (fun k => spec_DigestOf.f k a0 l a2 a3 a4) (hashOf (resInts a0 l a2 a3 a4)) := by
  unfold spec_DigestOf.f
  exact ev_bind0 (spec_ResourceInts_val a0 l a2 a3 a4 hl) (Ev.bind (spec_Hash_ev _ (by rw [resInts_len]; omega)) (Ev.now _))
theorem impl_DigestOf_ev (a0 : Int) (l : List Int) (a2 a3 a4 : Int) (hl : l.length ≤ 1099511627776) : Ev (fun k => impl_DigestOf.f k a0 l a2 a3 a4) (hashOf (resInts a0 l a2 a3 a4)) := by
  unfold impl_DigestOf.f
  exact ev_bind0 (impl_ResourceInts_val a0 l a2 a3 a4 hl) (Ev.bind (impl_Hash_ev _ (by rw [resInts_len]; omega)) (Ev.now _))
theorem FnExactDigestOf : ∀ (x0 : S26), (g26 x0) → ∃ k, laws_FnExactDigestOf.f k x0.f0 x0.f1 x0.f2.f0 x0.f2.f1 x0.f2.f2 = some true := by
  intro x hg
  obtain ⟨_, ⟨hl, _⟩, _⟩ := hg
  refine Ev.rounds (g := fun k => laws_FnExactDigestOf.f k x.f0 x.f1 x.f2.f0 x.f2.f1 x.f2.f2) ?_
  unfold laws_FnExactDigestOf.f
  refine ev_bind0 (szResource_val _ _ _ _ _ _ (by omega) (by omega) hl) ?_
  by_cases hb : szR 1048576 x.f1.length < 0
  · exact ev_pos hb (Ev.now true)
  have hle := szR_le _ _ hb
  refine ev_neg hb ?_
  have hto := toResource_ev x.f0 x.f1 x.f2.f0 x.f2.f1 x.f2.f2 (by omega)
  refine Ev.bind hto (Ev.bind (spec_DigestOf_ev _ _ _ _ _ (show x.f1.length ≤ _ by omega)) ?_)
  refine Ev.bind hto (Ev.bind (impl_DigestOf_ev _ _ _ _ _ (show x.f1.length ≤ _ by omega)) (ev_pos rfl ?_))
  refine Ev.bind hto ?_
  exact Ev.bind (eqResource_same _ _ _ _ _ hl) (ev_pos rfl (Ev.now true))

end Go.Proofs.Ytgcidlnhgpjdpac.Pure
