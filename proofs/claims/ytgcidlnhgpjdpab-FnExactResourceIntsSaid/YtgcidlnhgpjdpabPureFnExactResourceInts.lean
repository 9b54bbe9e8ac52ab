/- The pure statement behind the law FnExactResourceInts: over numbers and lists the law answers true, at every input that the row's bounds let in. -/
import Derived.Test.YtgcidlnhgpjdpabQFnExactResourceIntsx2
import Derived.Test.YtgcidlnhgpjdpabQFnExactResourceIntsg
namespace Go.Proofs.Ytgcidlnhgpjdpab.Pure
open Go Go.RowKit Go.Proofs.Ytgcidlnhgpjdpab.QFnExactResourceInts Go.Proofs.YtgcidlnhgpjdpabW.PrintWords Go.Proofs.YtgcidlnhgpjdpabW.PrintLast Go.Proofs.YtgcidlnhgpjdpabW.PrintMore
set_option linter.unusedVariables false
set_option linter.unusedSimpArgs false
set_option maxRecDepth 100000

theorem w64 {x : Int} (h0 : -9223372036854775808 ≤ x) (h1 : x ≤ 9223372036854775807) : wrap64 x = x := by unfold wrap64; omega
theorem ev_pos {α : Type} {c : Prop} [Decidable c] {g f : Nat → Option α} {r : α} (h : c) (k : Ev g r) : Ev (fun n => if c then g n else f n) r := by
  obtain ⟨K, hK⟩ := k
  exact ⟨K, fun n hn => (if_pos h).trans (hK n hn)⟩
theorem ev_neg {α : Type} {c : Prop} [Decidable c] {g f : Nat → Option α} {r : α} (h : ¬ c) (k : Ev f r) : Ev (fun n => if c then g n else f n) r := by
  obtain ⟨K, hK⟩ := k
  exact ⟨K, fun n hn => (if_neg h).trans (hK n hn)⟩
theorem ev_bind0 {α β : Type} {o : Option α} {f : Nat → α → Option β} {a : α} {r : β} (h : o = some a) (k : Ev (fun n => f n a) r) : Ev (fun n => o.bind (f n)) r := by
  subst h
  exact k
theorem ev_of {α : Type} {o : Option α} {r : α} (h : o = some r) : Ev (fun _ => o) r := ⟨0, fun _ _ => h⟩
theorem rd_at (xs : List Int) (i : Nat) (h : i < xs.length) : rd xs (i : Int) = xs[i] := by
  unfold rd
  rw [Int.toNat_natCast, List.getD_eq_getElem?_getD, List.getElem?_eq_getElem h]
  rfl
theorem set_take {out xs : List Int} {i : Nat} (h : out.take i = xs.take i) (hl : out.length = xs.length) (hi : i < xs.length) : (out.set ((i : Int)).toNat (rd xs i)).take (i + 1) = xs.take (i + 1) := by
  rw [rd_at xs i hi, Int.toNat_natCast, List.take_succ_eq_append_getElem hi, List.take_succ_eq_append_getElem (by rw [List.length_set]; omega)]
  rw [List.take_set_of_le (Nat.le_refl _), h]
  simp
def seqFrom (m : Int) (n : Nat) : List Int := (List.range n).map fun (j : Nat) => m + (j : Int)
theorem seqFrom_length (m : Int) (n : Nat) : (seqFrom m n).length = n := by simp [seqFrom]
theorem seqFrom_get (m : Int) (n i : Nat) (h : i < n) : (seqFrom m n)[i]'(by rw [seqFrom_length]; exact h) = m + (i : Int) := by simp [seqFrom]
theorem seq_set {x ys : List Int} {i : Nat} (h : x.take i = ys.take i) (hl : x.length = ys.length) (hi : i < ys.length) {v : Int} (hv : ys[i] = v) : (x.set ((i : Int)).toNat v).take (i + 1) = ys.take (i + 1) := by
  subst hv
  rw [Int.toNat_natCast, List.take_succ_eq_append_getElem hi, List.take_succ_eq_append_getElem (by rw [List.length_set]; omega)]
  rw [List.take_set_of_le (Nat.le_refl _), h]
  simp
theorem toIntS_l0 (xs : List Int) (hn : xs.length ≤ 35184372088832) : ∀ (d i : Nat) (out : List Int), i + d = xs.length → out.length = xs.length → out.take i = xs.take i → Ev (fun k => laws_toIntS.l0 k xs out (i : Int)) xs := by
  intro d
  induction d with
  | zero =>
    intro i out hd hl ht
    refine Ev.step (fun _ => laws_toIntS.l0.eq_2 ..) (ev_neg (by omega) (ev_of ?_))
    rw [List.take_of_length_le (by omega), List.take_of_length_le (by omega)] at ht
    rw [ht]
  | succ d ih =>
    intro i out hd hl ht
    refine Ev.step (fun _ => laws_toIntS.l0.eq_2 ..) (ev_pos (by omega) (ev_pos (by omega) (ev_pos (by omega) ?_)))
    rw [w64 (by omega) (by omega)]
    exact ih (i + 1) _ (by omega) (by rw [List.length_set]; exact hl) (set_take ht hl (by omega))
theorem toIntS_ev (xs : List Int) (hn : xs.length ≤ 35184372088832) : Ev (fun k => laws_toIntS.f k xs) xs := by
  unfold laws_toIntS.f
  refine ev_pos (by omega) (ev_pos (by omega) ?_)
  exact toIntS_l0 xs hn xs.length 0 _ (by omega) (by simp) (by simp)
theorem eqIntS_l0 (xs : List Int) (hn : xs.length ≤ 9223372036854775807) : ∀ (d i : Nat), i + d = xs.length → Ev (fun k => laws_eqIntS.l0 k xs xs (i : Int)) true := by
  intro d
  induction d with
  | zero =>
    intro i hd
    exact Ev.step (fun _ => laws_eqIntS.l0.eq_2 ..) (ev_neg (by omega) (Ev.now true))
  | succ d ih =>
    intro i hd
    refine Ev.step (fun _ => laws_eqIntS.l0.eq_2 ..) (ev_pos (by omega) (ev_pos (by omega) (ev_pos (by omega) (ev_pos rfl ?_))))
    rw [w64 (by omega) (by omega)]
    exact ih (i + 1) (by omega)
theorem eqIntS_same (xs : List Int) (hn : xs.length ≤ 9223372036854775807) : Ev (fun k => laws_eqIntS.f k xs xs) true := by
  unfold laws_eqIntS.f
  exact ev_pos rfl (eqIntS_l0 xs hn xs.length 0 (by omega))
theorem markIntS_l0 : ∀ (d i : Nat) (m : Int) (x : List Int) (s : Int) (n : Nat), n = x.length → i + d = n → m = s + (i : Int) → 0 ≤ s → s + (n : Int) ≤ 4611686018427387904 → x.take i = (seqFrom s n).take i → Ev (fun k => laws_markIntS.l0 k x m (i : Int)) (s + (n : Int), seqFrom s n) := by
  intro d
  induction d with
  | zero =>
    intro i m x s n hn hd hm hs hb ht
    refine Ev.step (fun _ => laws_markIntS.l0.eq_2 ..) (ev_neg (by omega) (ev_of ?_))
    rw [List.take_of_length_le (by omega), List.take_of_length_le (by rw [seqFrom_length]; omega)] at ht
    rw [ht, show m = s + (n : Int) by omega]
  | succ d ih =>
    intro i m x s n hn hd hm hs hb ht
    refine Ev.step (fun _ => laws_markIntS.l0.eq_2 ..) (ev_pos (by omega) (ev_pos (by omega) ?_))
    rw [w64 (x := m + 1) (by omega) (by omega), w64 (x := (i : Int) + 1) (by omega) (by omega)]
    exact ih (i + 1) (m + 1) _ s n (by rw [List.length_set]; exact hn) (by omega) (by omega) hs hb (seq_set ht (by rw [seqFrom_length]; omega) (by rw [seqFrom_length]; omega) (by rw [seqFrom_get _ _ _ (by omega)]; omega))
theorem markIntS_ev (x : List Int) (s : Int) (hs : 0 ≤ s) (hb : s + (x.length : Int) ≤ 4611686018427387904) : Ev (fun k => laws_markIntS.f k x s) (s + (x.length : Int), seqFrom s x.length) := by
  unfold laws_markIntS.f
  exact markIntS_l0 x.length 0 s x s x.length rfl (by omega) (by omega) hs hb rfl
theorem heldIntS_l0 (s : Int) (n : Nat) (hs : 0 ≤ s) (hb : s + (n : Int) ≤ 4611686018427387904) : ∀ (d i : Nat) (m : Int), i + d = n → m = s + (i : Int) → Ev (fun k => laws_heldIntS.l0 k (seqFrom s n) m (i : Int)) (s + (n : Int)) := by
  intro d
  induction d with
  | zero =>
    intro i m hd hm
    refine Ev.step (fun _ => laws_heldIntS.l0.eq_2 ..) (ev_neg (by rw [seqFrom_length]; omega) (ev_of ?_))
    rw [show m = s + (n : Int) by omega]
  | succ d ih =>
    intro i m hd hm
    refine Ev.step (fun _ => laws_heldIntS.l0.eq_2 ..) (ev_pos (by rw [seqFrom_length]; omega) (ev_pos (by omega) (ev_pos ?_ ?_)))
    · rw [rd_at _ i (by rw [seqFrom_length]; omega), seqFrom_get _ _ _ (by omega)]
      omega
    · rw [w64 (x := m + 1) (by omega) (by omega), w64 (x := (i : Int) + 1) (by omega) (by omega)]
      exact ih (i + 1) (m + 1) (by omega) (by omega)
theorem heldIntS_ev (s : Int) (n : Nat) (hs : 0 ≤ s) (hb : s + (n : Int) ≤ 4611686018427387904) : Ev (fun k => laws_heldIntS.f k (seqFrom s n) s) (s + (n : Int)) := by
  unfold laws_heldIntS.f
  exact heldIntS_l0 s n hs hb n 0 s (by omega) (by omega)
def szR (a : Int) (n : Nat) : Int := if a - (n : Int) < 0 then -1 else a - (n : Int)
theorem szR_neg (a : Int) (n m : Nat) (h : szR a n < 0) : szR a (n + m) = -1 := by
  unfold szR at h ⊢
  by_cases c : a - (n : Int) < 0
  · rw [if_pos (by omega)]
  · rw [if_neg c] at h
    omega
theorem szR_neg1 (a : Int) (n : Nat) (h : szR a n < 0) : szR a n = -1 := by
  have := szR_neg a n 0 h
  rwa [Nat.add_zero] at this
theorem szR_le (a : Int) (n : Nat) (h : ¬ szR a n < 0) : (n : Int) ≤ a := by
  unfold szR at h
  by_cases c : a - (n : Int) < 0
  · rw [if_pos c] at h
    omega
  · omega
theorem szIntS_val (l : List Int) (a : Int) (h0 : 0 ≤ a) (h1 : a ≤ 9223372036854775807) (hl : l.length ≤ 9223372036854775807) : laws_szIntS.f l a = some (szR a l.length) := by
  unfold laws_szIntS.f szR
  rw [w64 (by omega) (by omega)]
  split <;> rfl
theorem some_neg {a : Int} (h : a < 0 → a = -1) : (if a < 0 then some (-1) else some a) = some a := by
  split
  · rw [h (by assumption)]
  · rfl
theorem szResource_val (a0 : Int) (l : List Int) (a2 a3 a4 a : Int) (h0 : 0 ≤ a) (h1 : a ≤ 9223372036854775807) (hl : l.length ≤ 9223372036854775807) : laws_szResource.f a0 l a2 a3 a4 a = some (szR a l.length) := by
  unfold laws_szResource.f
  rw [szIntS_val l a h0 h1 hl, Option.bind_some]
  exact some_neg (szR_neg1 a _)
theorem toResource_ev (a0 : Int) (l : List Int) (a2 a3 a4 : Int) (hn : l.length ≤ 35184372088832) : Ev (fun k => laws_toResource.f k a0 l a2 a3 a4) (a0, l, a2, a3, a4) := by
  unfold laws_toResource.f laws_toAddress.f
  exact Ev.bind (toIntS_ev l hn) (Ev.now _)
theorem eqAddress_same (a b c : Int) : laws_eqAddress.f a b c a b c = some true := by
  unfold laws_eqAddress.f
  rw [if_pos rfl, if_pos rfl, if_pos rfl]
theorem eqResource_same (a0 : Int) (l : List Int) (a2 a3 a4 : Int) (hn : l.length ≤ 9223372036854775807) : Ev (fun k => laws_eqResource.f k a0 l a2 a3 a4 a0 l a2 a3 a4) true := by
  unfold laws_eqResource.f
  refine ev_pos rfl (Ev.bind (eqIntS_same l hn) (ev_pos rfl (ev_bind0 (eqAddress_same _ _ _) (ev_pos rfl (Ev.now _)))))
def resInts (a0 : Int) (l : List Int) (a2 a3 a4 : Int) : List Int := [a0, a2, a3, a4, (l.length : Int)] ++ l
theorem resInts_len (a0 : Int) (l : List Int) (a2 a3 a4 : Int) : (resInts a0 l a2 a3 a4).length = l.length + 5 := by simp [resInts]
theorem spec_ResourceInts_val (a0 : Int) (l : List Int) (a2 a3 a4 : Int) (hl : l.length ≤ 1099511627776) : spec_ResourceInts.f a0 l a2 a3 a4 = some (resInts a0 l a2 a3 a4) := by
  unfold spec_ResourceInts.f
  rw [Option.bind_some, if_pos (by simp only [List.length_cons, List.length_nil]; omega)]
  rfl
theorem impl_ResourceInts_val (a0 : Int) (l : List Int) (a2 a3 a4 : Int) (hl : l.length ≤ 1099511627776) : impl_ResourceInts.f a0 l a2 a3 a4 = some (resInts a0 l a2 a3 a4) := by
  unfold impl_ResourceInts.f
  rw [Option.bind_some, if_pos (by simp only [List.length_cons, List.length_nil]; omega)]
  rfl
theorem markResource_ev (a0 : Int) (l : List Int) (a2 a3 a4 s : Int) (hs : 0 ≤ s) (hb : s + (l.length : Int) ≤ 4611686018427387904) : Ev (fun k => laws_markResource.f k a0 l a2 a3 a4 s) (s + (l.length : Int), seqFrom s l.length) := by
  unfold laws_markResource.f
  exact Ev.bind (markIntS_ev l s hs hb) (Ev.now _)
theorem FnExactResourceInts : ∀ (x0 : S26), (g26 x0) → ∃ k, laws_FnExactResourceInts.f k x0.f0 x0.f1 x0.f2.f0 x0.f2.f1 x0.f2.f2 = some true := by
  intro x hg
  obtain ⟨_, ⟨hl, _⟩, _⟩ := hg
  refine Ev.rounds (g := fun k => laws_FnExactResourceInts.f k x.f0 x.f1 x.f2.f0 x.f2.f1 x.f2.f2) ?_
  unfold laws_FnExactResourceInts.f
  refine ev_bind0 (szResource_val _ _ _ _ _ _ (by omega) (by omega) hl) ?_
  by_cases hb : szR 1048576 x.f1.length < 0
  · exact ev_pos hb (Ev.now true)
  have hle := szR_le _ _ hb
  refine ev_neg hb ?_
  have hlen := resInts_len x.f0 x.f1 x.f2.f0 x.f2.f1 x.f2.f2
  have hto := toResource_ev x.f0 x.f1 x.f2.f0 x.f2.f1 x.f2.f2 (by omega)
  refine Ev.bind hto (ev_bind0 (spec_ResourceInts_val x.f0 x.f1 x.f2.f0 x.f2.f1 x.f2.f2 (by omega)) ?_)
  refine Ev.bind hto (ev_bind0 (impl_ResourceInts_val x.f0 x.f1 x.f2.f0 x.f2.f1 x.f2.f2 (by omega)) ?_)
  refine Ev.bind (eqIntS_same _ (by omega)) (ev_pos rfl ?_)
  refine Ev.bind hto (Ev.bind (eqResource_same _ _ _ _ _ hl) (ev_pos rfl ?_))
  refine Ev.bind (markResource_ev _ _ _ _ _ 1 (by omega) (show (1 : Int) + (x.f1.length : Int) ≤ _ by omega)) (ev_neg (show ¬ (1 + (x.f1.length : Int)) < 0 by omega) ?_)
  refine Ev.bind (eqIntS_same _ (by omega)) ?_
  refine Ev.step (fun _ => laws_FnExactResourceInts.j0.eq_2 ..) (ev_neg (by decide) ?_)
  refine Ev.bind (markIntS_ev _ 1 (by omega) (by omega)) ?_
  refine Ev.bind (heldIntS_ev 1 _ (by omega) (by omega)) (ev_neg (by omega) (ev_pos rfl ?_))
  refine Ev.bind hto (ev_bind0 (impl_ResourceInts_val x.f0 x.f1 x.f2.f0 x.f2.f1 x.f2.f2 (by omega)) ?_)
  refine Ev.bind (eqIntS_same _ (by omega)) (ev_pos rfl ?_)
  exact Ev.bind (heldIntS_ev 1 _ (by omega) (by omega)) (ev_neg (by omega) (ev_pos rfl (Ev.now true)))

end Go.Proofs.Ytgcidlnhgpjdpab.Pure
