/- The pure statement behind the law FnExactEqualResources: over numbers and lists the law answers true, at every input that the row's bounds let in. -/
import Derived.Test.YtgcidlnhgpjdpabQFnExactEqualResourcesx3
import Derived.Test.YtgcidlnhgpjdpabQFnExactEqualResourcesg
namespace Go.Proofs.Ytgcidlnhgpjdpab.Pure
open Go Go.RowKit Go.Proofs.Ytgcidlnhgpjdpab.QFnExactEqualResources Go.Proofs.YtgcidlnhgpjdpabW.PrintWords Go.Proofs.YtgcidlnhgpjdpabW.PrintLast Go.Proofs.YtgcidlnhgpjdpabW.PrintMore
set_option linter.unusedVariables false
set_option linter.unusedSimpArgs false
set_option maxRecDepth 100000

theorem w64 {x : Int} (h0 : -9223372036854775808 ≤ x) (h1 : x ≤ 9223372036854775807) : wrap64 x = x := by unfold wrap64; omega
theorem ev_pos {α : Type} {c : Prop} [Decidable c] {g f : Nat → Option α} {r : α} (h : c) (k : Ev g r) : Ev (fun n => if c then g n else f n) r := by
  obtain ⟨K, hK⟩ := k
  exact ⟨K, fun n hn => (if_pos h).trans (hK n hn)⟩
theorem ev_neg {α : Type} {c : Prop} [Decidable c] {g f : Nat → Option α} {r : α} (h : ¬ c) (k : Ev f r) : Ev (fun n => if c then g n else f n) r := by
  obtain ⟨K, hK⟩ := k
  exact ⟨K, fun n hn => (if_neg h).trans (hK n hn)⟩
theorem ev_bind0 {α β : Type} {o : Option α} {f : Nat → α → Option β} {a : α} {r : β} (h : o = some a) (k : Ev (fun n => f n a) r) : Ev (fun n => o.bind (f n)) r := by
  subst h
  exact k
theorem ev_of {α : Type} {o : Option α} {r : α} (h : o = some r) : Ev (fun _ => o) r := ⟨0, fun _ _ => h⟩
theorem rd_at (xs : List Int) (i : Nat) (h : i < xs.length) : rd xs (i : Int) = xs[i] := by
  unfold rd
  rw [Int.toNat_natCast, List.getD_eq_getElem?_getD, List.getElem?_eq_getElem h]
  rfl
theorem set_take {out xs : List Int} {i : Nat} (h : out.take i = xs.take i) (hl : out.length = xs.length) (hi : i < xs.length) : (out.set ((i : Int)).toNat (rd xs i)).take (i + 1) = xs.take (i + 1) := by
  rw [rd_at xs i hi, Int.toNat_natCast, List.take_succ_eq_append_getElem hi, List.take_succ_eq_append_getElem (by rw [List.length_set]; omega)]
  rw [List.take_set_of_le (Nat.le_refl _), h]
  simp
theorem toIntS_l0 (xs : List Int) (hn : xs.length ≤ 35184372088832) : ∀ (d i : Nat) (out : List Int), i + d = xs.length → out.length = xs.length → out.take i = xs.take i → Ev (fun k => laws_toIntS.l0 k xs out (i : Int)) xs := by
  intro d
  induction d with
  | zero =>
    intro i out hd hl ht
    refine Ev.step (fun _ => laws_toIntS.l0.eq_2 ..) (ev_neg (by omega) (ev_of ?_))
    rw [List.take_of_length_le (by omega), List.take_of_length_le (by omega)] at ht
    rw [ht]
  | succ d ih =>
    intro i out hd hl ht
    refine Ev.step (fun _ => laws_toIntS.l0.eq_2 ..) (ev_pos (by omega) (ev_pos (by omega) (ev_pos (by omega) ?_)))
    rw [w64 (by omega) (by omega)]
    exact ih (i + 1) _ (by omega) (by rw [List.length_set]; exact hl) (set_take ht hl (by omega))
theorem toIntS_ev (xs : List Int) (hn : xs.length ≤ 35184372088832) : Ev (fun k => laws_toIntS.f k xs) xs := by
  unfold laws_toIntS.f
  refine ev_pos (by omega) (ev_pos (by omega) ?_)
  exact toIntS_l0 xs hn xs.length 0 _ (by omega) (by simp) (by simp)
theorem eqIntS_l0 (xs : List Int) (hn : xs.length ≤ 9223372036854775807) : ∀ (d i : Nat), i + d = xs.length → Ev (fun k => laws_eqIntS.l0 k xs xs (i : Int)) true := by
  intro d
  induction d with
  | zero =>
    intro i hd
    exact Ev.step (fun _ => laws_eqIntS.l0.eq_2 ..) (ev_neg (by omega) (Ev.now true))
  | succ d ih =>
    intro i hd
    refine Ev.step (fun _ => laws_eqIntS.l0.eq_2 ..) (ev_pos (by omega) (ev_pos (by omega) (ev_pos (by omega) (ev_pos rfl ?_))))
    rw [w64 (by omega) (by omega)]
    exact ih (i + 1) (by omega)
theorem eqIntS_same (xs : List Int) (hn : xs.length ≤ 9223372036854775807) : Ev (fun k => laws_eqIntS.f k xs xs) true := by
  unfold laws_eqIntS.f
  exact ev_pos rfl (eqIntS_l0 xs hn xs.length 0 (by omega))
def szR (a : Int) (n : Nat) : Int := if a - (n : Int) < 0 then -1 else a - (n : Int)
theorem szR_neg (a : Int) (n m : Nat) (h : szR a n < 0) : szR a (n + m) = -1 := by
  unfold szR at h ⊢
  by_cases c : a - (n : Int) < 0
  · rw [if_pos (by omega)]
  · rw [if_neg c] at h
    omega
theorem szR_neg1 (a : Int) (n : Nat) (h : szR a n < 0) : szR a n = -1 := by
  have := szR_neg a n 0 h
  rwa [Nat.add_zero] at this
theorem szR_le (a : Int) (n : Nat) (h : ¬ szR a n < 0) : (n : Int) ≤ a := by
  unfold szR at h
  by_cases c : a - (n : Int) < 0
  · rw [if_pos c] at h
    omega
  · omega
theorem szR_range (a : Int) (n : Nat) (h : ¬ szR a n < 0) : 0 ≤ szR a n ∧ szR a n ≤ a := by
  have := szR_le a n h
  unfold szR at h ⊢
  rw [if_neg (by omega)]
  omega
theorem szIntS_val (l : List Int) (a : Int) (h0 : 0 ≤ a) (h1 : a ≤ 9223372036854775807) (hl : l.length ≤ 9223372036854775807) : laws_szIntS.f l a = some (szR a l.length) := by
  unfold laws_szIntS.f szR
  rw [w64 (by omega) (by omega)]
  split <;> rfl
theorem some_neg {a : Int} (h : a < 0 → a = -1) : (if a < 0 then some (-1) else some a) = some a := by
  split
  · rw [h (by assumption)]
  · rfl
theorem szResource_val (a0 : Int) (l : List Int) (a2 a3 a4 a : Int) (h0 : 0 ≤ a) (h1 : a ≤ 9223372036854775807) (hl : l.length ≤ 9223372036854775807) : laws_szResource.f a0 l a2 a3 a4 a = some (szR a l.length) := by
  unfold laws_szResource.f
  rw [szIntS_val l a h0 h1 hl, Option.bind_some]
  exact some_neg (szR_neg1 a _)
theorem toResource_ev (a0 : Int) (l : List Int) (a2 a3 a4 : Int) (hn : l.length ≤ 35184372088832) : Ev (fun k => laws_toResource.f k a0 l a2 a3 a4) (a0, l, a2, a3, a4) := by
  unfold laws_toResource.f laws_toAddress.f
  exact Ev.bind (toIntS_ev l hn) (Ev.now _)
theorem eqAddress_same (a b c : Int) : laws_eqAddress.f a b c a b c = some true := by
  unfold laws_eqAddress.f
  rw [if_pos rfl, if_pos rfl, if_pos rfl]
theorem eqResource_same (a0 : Int) (l : List Int) (a2 a3 a4 : Int) (hn : l.length ≤ 9223372036854775807) : Ev (fun k => laws_eqResource.f k a0 l a2 a3 a4 a0 l a2 a3 a4) true := by
  unfold laws_eqResource.f
  refine ev_pos rfl (Ev.bind (eqIntS_same l hn) (ev_pos rfl (ev_bind0 (eqAddress_same _ _ _) (ev_pos rfl (Ev.now _)))))
theorem slices_Equal_int_int_l0 (xs ys : List Int) (hl : xs.length = ys.length) (hn : xs.length ≤ 9223372036854775807) : ∀ (d i : Nat), i + d = xs.length → Ev (fun k => slices_Equal_int_int.l0 k xs ys (xs.length : Int) (i : Int)) (decide (xs.drop i = ys.drop i)) := by
  intro d
  induction d with
  | zero =>
    intro i hd
    refine Ev.step (fun _ => slices_Equal_int_int.l0.eq_2 ..) (ev_neg (by omega) (ev_of ?_))
    rw [List.drop_eq_nil_of_le (by omega), List.drop_eq_nil_of_le (by omega)]
    rfl
  | succ d ih =>
    intro i hd
    refine Ev.step (fun _ => slices_Equal_int_int.l0.eq_2 ..) (ev_pos (by omega) (ev_pos (by omega) (ev_pos (by omega) (ev_pos (by omega) ?_))))
    rw [rd_at xs i (by omega), rd_at ys i (by omega), List.drop_eq_getElem_cons (show i < xs.length by omega), List.drop_eq_getElem_cons (show i < ys.length by omega)]
    by_cases he : xs[i]'(by omega) = ys[i]'(by omega)
    · refine ev_pos he ?_
      rw [w64 (by omega) (by omega)]
      have h := ih (i + 1) (by omega)
      simp only [he, List.cons.injEq, true_and]
      exact h
    · exact ev_neg he (ev_of (congrArg some (decide_eq_false (fun h => he (List.cons.inj h).1)).symm))
theorem slices_Equal_int_int_ev (xs ys : List Int) (hn : xs.length ≤ 9223372036854775807) : Ev (fun k => slices_Equal_int_int.f k xs ys) (decide (xs = ys)) := by
  unfold slices_Equal_int_int.f
  by_cases hl : xs.length = ys.length
  · exact ev_pos (by omega) (slices_Equal_int_int_l0 xs ys hl hn xs.length 0 (by omega))
  · refine ev_neg (by omega) (ev_of ?_)
    rw [decide_eq_false (fun h => hl (by rw [h]))]
theorem spec_EqualInts_l0 (xs ys : List Int) (hl : xs.length = ys.length) (hn : xs.length ≤ 9223372036854775807) : ∀ (d i : Nat), i + d = xs.length → Ev (fun k => spec_EqualInts.l0 k xs ys (i : Int)) (decide (xs.drop i = ys.drop i)) := by
  intro d
  induction d with
  | zero =>
    intro i hd
    refine Ev.step (fun _ => spec_EqualInts.l0.eq_2 ..) (ev_neg (by omega) (ev_of ?_))
    rw [List.drop_eq_nil_of_le (by omega), List.drop_eq_nil_of_le (by omega)]
    rfl
  | succ d ih =>
    intro i hd
    refine Ev.step (fun _ => spec_EqualInts.l0.eq_2 ..) (ev_pos (by omega) (ev_pos (by omega) (ev_pos (by omega) ?_)))
    rw [rd_at xs i (by omega), rd_at ys i (by omega), List.drop_eq_getElem_cons (show i < xs.length by omega), List.drop_eq_getElem_cons (show i < ys.length by omega)]
    by_cases he : xs[i]'(by omega) = ys[i]'(by omega)
    · refine ev_pos he ?_
      rw [w64 (by omega) (by omega)]
      have h := ih (i + 1) (by omega)
      simp only [he, List.cons.injEq, true_and]
      exact h
    · exact ev_neg he (ev_of (congrArg some (decide_eq_false (fun h => he (List.cons.inj h).1)).symm))
theorem spec_EqualInts_ev (xs ys : List Int) (hn : xs.length ≤ 9223372036854775807) : Ev (fun k => spec_EqualInts.f k xs ys) (decide (xs = ys)) := by
  unfold spec_EqualInts.f
  by_cases hl : xs.length = ys.length
  · exact ev_pos (by omega) (spec_EqualInts_l0 xs ys hl hn xs.length 0 (by omega))
  · refine ev_neg (by omega) (ev_of ?_)
    rw [decide_eq_false (fun h => hl (by rw [h]))]
def eqR (a0 : Int) (l : List Int) (a2 a3 a4 : Int) (b0 : Int) (m : List Int) (b2 b3 b4 : Int) : Bool := decide (a0 = b0 ∧ (a2 == b2 && (a3 == b3 && (a4 == b4))) = true ∧ l = m)
theorem spec_EqualResources_ev (a0 : Int) (l : List Int) (a2 a3 a4 : Int) (b0 : Int) (m : List Int) (b2 b3 b4 : Int) (hl : l.length ≤ 9223372036854775807) : Ev (fun k => spec_EqualResources.f k a0 l a2 a3 a4 b0 m b2 b3 b4) (eqR a0 l a2 a3 a4 b0 m b2 b3 b4) := by
  unfold spec_EqualResources.f
  by_cases h : a0 = b0
  · refine ev_pos h ?_
    by_cases h2 : (a2 == b2 && (a3 == b3 && (a4 == b4))) = true
    · refine ev_pos h2 ?_
      have e : eqR a0 l a2 a3 a4 b0 m b2 b3 b4 = decide (l = m) := by unfold eqR; exact decide_eq_decide.2 ⟨fun w => w.2.2, fun w => ⟨h, h2, w⟩⟩
      rw [e]
      exact Ev.bind (spec_EqualInts_ev l m hl) (Ev.now _)
    · exact ev_neg h2 (ev_of (congrArg some (decide_eq_false (fun w => h2 w.2.1)).symm))
  · exact ev_neg h (ev_of (congrArg some (decide_eq_false (fun w => h w.1)).symm))
theorem impl_EqualResources_ev (a0 : Int) (l : List Int) (a2 a3 a4 : Int) (b0 : Int) (m : List Int) (b2 b3 b4 : Int) (hl : l.length ≤ 9223372036854775807) : Ev (fun k => impl_EqualResources.f k a0 l a2 a3 a4 b0 m b2 b3 b4) (eqR a0 l a2 a3 a4 b0 m b2 b3 b4) := by
  unfold impl_EqualResources.f
  by_cases h : a0 = b0
  · refine ev_pos h ?_
    by_cases h2 : (a2 == b2 && (a3 == b3 && (a4 == b4))) = true
    · refine ev_pos h2 ?_
      have e : eqR a0 l a2 a3 a4 b0 m b2 b3 b4 = decide (l = m) := by unfold eqR; exact decide_eq_decide.2 ⟨fun w => w.2.2, fun w => ⟨h, h2, w⟩⟩
      rw [e]
      exact Ev.bind (slices_Equal_int_int_ev l m hl) (Ev.now _)
    · exact ev_neg h2 (ev_of (congrArg some (decide_eq_false (fun w => h2 w.2.1)).symm))
  · exact ev_neg h (ev_of (congrArg some (decide_eq_false (fun w => h w.1)).symm))
theorem FnExactEqualResources : ∀ (x0 : S26) (x1 : S26), (g26 x0) → (g26 x1) → ∃ k, laws_FnExactEqualResources.f k x0.f0 x0.f1 x0.f2.f0 x0.f2.f1 x0.f2.f2 x1.f0 x1.f1 x1.f2.f0 x1.f2.f1 x1.f2.f2 = some true := by
  intro x y hx hy
  obtain ⟨_, ⟨hl, _⟩, _⟩ := hx
  obtain ⟨_, ⟨hm, _⟩, _⟩ := hy
  refine Ev.rounds (g := fun k => laws_FnExactEqualResources.f k x.f0 x.f1 x.f2.f0 x.f2.f1 x.f2.f2 y.f0 y.f1 y.f2.f0 y.f2.f1 y.f2.f2) ?_
  unfold laws_FnExactEqualResources.f
  refine ev_bind0 (szResource_val _ _ _ _ _ _ (by omega) (by omega) hl) ?_
  by_cases hb : szR 1048576 x.f1.length < 0
  · exact ev_pos hb (Ev.now true)
  have hle := szR_le _ _ hb
  have hr := szR_range _ _ hb
  refine ev_neg hb (ev_bind0 (szResource_val _ _ _ _ _ _ (by omega) (by omega) hm) ?_)
  by_cases hb2 : szR (szR 1048576 x.f1.length) y.f1.length < 0
  · exact ev_pos hb2 (Ev.now true)
  have hle2 := szR_le _ _ hb2
  refine ev_neg hb2 ?_
  have hto := toResource_ev x.f0 x.f1 x.f2.f0 x.f2.f1 x.f2.f2 (by omega)
  have hto2 := toResource_ev y.f0 y.f1 y.f2.f0 y.f2.f1 y.f2.f2 (by omega)
  refine Ev.bind hto (Ev.bind hto2 (Ev.bind (spec_EqualResources_ev _ _ _ _ _ _ _ _ _ _ hl) (Ev.bind hto (Ev.bind hto2 (Ev.bind (impl_EqualResources_ev _ _ _ _ _ _ _ _ _ _ hl) (ev_neg (by simp) ?_))))))
  exact Ev.bind hto (Ev.bind (eqResource_same _ _ _ _ _ hl) (ev_pos rfl (Ev.bind hto2 (Ev.bind (eqResource_same _ _ _ _ _ hm) (ev_pos rfl (Ev.now true))))))

end Go.Proofs.Ytgcidlnhgpjdpab.Pure
