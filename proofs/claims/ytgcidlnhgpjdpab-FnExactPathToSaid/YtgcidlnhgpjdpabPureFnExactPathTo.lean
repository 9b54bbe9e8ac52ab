/- The pure statement behind the law FnExactPathTo: over numbers and lists the law answers true, at every input that the row's bounds let in. -/
import Derived.Test.YtgcidlnhgpjdpabPFnExactPathTox5
import Derived.Test.YtgcidlnhgpjdpabWSized
namespace Go.Proofs.Ytgcidlnhgpjdpab.Pure
open Go Go.RowKit Go.Proofs.Ytgcidlnhgpjdpab.PFnExactPathTo Go.Proofs.YtgcidlnhgpjdpabW.PrintWords Go.Proofs.YtgcidlnhgpjdpabW.PrintLast Go.Proofs.YtgcidlnhgpjdpabW.PrintMore
set_option linter.unusedVariables false
set_option linter.unusedSimpArgs false
set_option maxRecDepth 100000

theorem w64 {x : Int} (h0 : -9223372036854775808 ≤ x) (h1 : x ≤ 9223372036854775807) : wrap64 x = x := by unfold wrap64; omega
theorem wf64 {x : Int} (h : (Lit.int .i64 x).wf = true) : -9223372036854775808 ≤ x ∧ x ≤ 9223372036854775807 := by
  simp [Lit.wf, IntKind.min, IntKind.max, IntKind.signed, IntKind.bits] at h
  omega
theorem wf8 {x : Int} (h : (Lit.int .u8 x).wf = true) : 0 ≤ x ∧ x ≤ 255 := by
  simp [Lit.wf, IntKind.min, IntKind.max, IntKind.signed, IntKind.bits] at h
  omega
theorem ev_pos {α : Type} {c : Prop} [Decidable c] {g f : Nat → Option α} {r : α} (h : c) (k : Ev g r) : Ev (fun n => if c then g n else f n) r := by
  obtain ⟨K, hK⟩ := k
  exact ⟨K, fun n hn => (if_pos h).trans (hK n hn)⟩
theorem ev_neg {α : Type} {c : Prop} [Decidable c] {g f : Nat → Option α} {r : α} (h : ¬ c) (k : Ev f r) : Ev (fun n => if c then g n else f n) r := by
  obtain ⟨K, hK⟩ := k
  exact ⟨K, fun n hn => (if_neg h).trans (hK n hn)⟩
theorem ev_bind0 {α β : Type} {o : Option α} {f : Nat → α → Option β} {a : α} {r : β} (h : o = some a) (k : Ev (fun n => f n a) r) : Ev (fun n => o.bind (f n)) r := by
  subst h
  exact k
theorem ev_of {α : Type} {o : Option α} {r : α} (h : o = some r) : Ev (fun _ => o) r := ⟨0, fun _ _ => h⟩
theorem rd_at (xs : List Int) (i : Nat) (h : i < xs.length) : rd xs (i : Int) = xs[i] := by
  unfold rd
  rw [Int.toNat_natCast, List.getD_eq_getElem?_getD, List.getElem?_eq_getElem h]
  rfl
theorem set_take {out xs : List Int} {i : Nat} (h : out.take i = xs.take i) (hl : out.length = xs.length) (hi : i < xs.length) : (out.set ((i : Int)).toNat (rd xs i)).take (i + 1) = xs.take (i + 1) := by
  rw [rd_at xs i hi, Int.toNat_natCast, List.take_succ_eq_append_getElem hi, List.take_succ_eq_append_getElem (by rw [List.length_set]; omega)]
  rw [List.take_set_of_le (Nat.le_refl _), h]
  simp
def seqFrom (m : Int) (n : Nat) : List Int := (List.range n).map fun (j : Nat) => m + (j : Int)
theorem seqFrom_length (m : Int) (n : Nat) : (seqFrom m n).length = n := by simp [seqFrom]
theorem seqFrom_get (m : Int) (n i : Nat) (h : i < n) : (seqFrom m n)[i]'(by rw [seqFrom_length]; exact h) = m + (i : Int) := by simp [seqFrom]
theorem seq_set {x ys : List Int} {i : Nat} (h : x.take i = ys.take i) (hl : x.length = ys.length) (hi : i < ys.length) {v : Int} (hv : ys[i] = v) : (x.set ((i : Int)).toNat v).take (i + 1) = ys.take (i + 1) := by
  subst hv
  rw [Int.toNat_natCast, List.take_succ_eq_append_getElem hi, List.take_succ_eq_append_getElem (by rw [List.length_set]; omega)]
  rw [List.take_set_of_le (Nat.le_refl _), h]
  simp
theorem toIntS_l0 (xs : List Int) (hn : xs.length ≤ 35184372088832) : ∀ (d i : Nat) (out : List Int), i + d = xs.length → out.length = xs.length → out.take i = xs.take i → Ev (fun k => laws_toIntS.l0 k xs out (i : Int)) xs := by
  intro d
  induction d with
  | zero =>
    intro i out hd hl ht
    refine Ev.step (fun _ => laws_toIntS.l0.eq_2 ..) (ev_neg (by omega) (ev_of ?_))
    rw [List.take_of_length_le (by omega), List.take_of_length_le (by omega)] at ht
    rw [ht]
  | succ d ih =>
    intro i out hd hl ht
    refine Ev.step (fun _ => laws_toIntS.l0.eq_2 ..) (ev_pos (by omega) (ev_pos (by omega) (ev_pos (by omega) ?_)))
    rw [w64 (by omega) (by omega)]
    exact ih (i + 1) _ (by omega) (by rw [List.length_set]; exact hl) (set_take ht hl (by omega))
theorem toIntS_ev (xs : List Int) (hn : xs.length ≤ 35184372088832) : Ev (fun k => laws_toIntS.f k xs) xs := by
  unfold laws_toIntS.f
  refine ev_pos (by omega) (ev_pos (by omega) ?_)
  exact toIntS_l0 xs hn xs.length 0 _ (by omega) (by simp) (by simp)
theorem eqIntS_l0 (xs : List Int) (hn : xs.length ≤ 9223372036854775807) : ∀ (d i : Nat), i + d = xs.length → Ev (fun k => laws_eqIntS.l0 k xs xs (i : Int)) true := by
  intro d
  induction d with
  | zero =>
    intro i hd
    exact Ev.step (fun _ => laws_eqIntS.l0.eq_2 ..) (ev_neg (by omega) (Ev.now true))
  | succ d ih =>
    intro i hd
    refine Ev.step (fun _ => laws_eqIntS.l0.eq_2 ..) (ev_pos (by omega) (ev_pos (by omega) (ev_pos (by omega) (ev_pos rfl ?_))))
    rw [w64 (by omega) (by omega)]
    exact ih (i + 1) (by omega)
theorem eqIntS_same (xs : List Int) (hn : xs.length ≤ 9223372036854775807) : Ev (fun k => laws_eqIntS.f k xs xs) true := by
  unfold laws_eqIntS.f
  exact ev_pos rfl (eqIntS_l0 xs hn xs.length 0 (by omega))
theorem markIntS_l0 : ∀ (d i : Nat) (m : Int) (x : List Int) (s : Int) (n : Nat), n = x.length → i + d = n → m = s + (i : Int) → 0 ≤ s → s + (n : Int) ≤ 4611686018427387904 → x.take i = (seqFrom s n).take i → Ev (fun k => laws_markIntS.l0 k x m (i : Int)) (s + (n : Int), seqFrom s n) := by
  intro d
  induction d with
  | zero =>
    intro i m x s n hn hd hm hs hb ht
    refine Ev.step (fun _ => laws_markIntS.l0.eq_2 ..) (ev_neg (by omega) (ev_of ?_))
    rw [List.take_of_length_le (by omega), List.take_of_length_le (by rw [seqFrom_length]; omega)] at ht
    rw [ht, show m = s + (n : Int) by omega]
  | succ d ih =>
    intro i m x s n hn hd hm hs hb ht
    refine Ev.step (fun _ => laws_markIntS.l0.eq_2 ..) (ev_pos (by omega) (ev_pos (by omega) ?_))
    rw [w64 (x := m + 1) (by omega) (by omega), w64 (x := (i : Int) + 1) (by omega) (by omega)]
    exact ih (i + 1) (m + 1) _ s n (by rw [List.length_set]; exact hn) (by omega) (by omega) hs hb (seq_set ht (by rw [seqFrom_length]; omega) (by rw [seqFrom_length]; omega) (by rw [seqFrom_get _ _ _ (by omega)]; omega))
theorem markIntS_ev (x : List Int) (s : Int) (hs : 0 ≤ s) (hb : s + (x.length : Int) ≤ 4611686018427387904) : Ev (fun k => laws_markIntS.f k x s) (s + (x.length : Int), seqFrom s x.length) := by
  unfold laws_markIntS.f
  exact markIntS_l0 x.length 0 s x s x.length rfl (by omega) (by omega) hs hb rfl
theorem heldIntS_l0 (s : Int) (n : Nat) (hs : 0 ≤ s) (hb : s + (n : Int) ≤ 4611686018427387904) : ∀ (d i : Nat) (m : Int), i + d = n → m = s + (i : Int) → Ev (fun k => laws_heldIntS.l0 k (seqFrom s n) m (i : Int)) (s + (n : Int)) := by
  intro d
  induction d with
  | zero =>
    intro i m hd hm
    refine Ev.step (fun _ => laws_heldIntS.l0.eq_2 ..) (ev_neg (by rw [seqFrom_length]; omega) (ev_of ?_))
    rw [show m = s + (n : Int) by omega]
  | succ d ih =>
    intro i m hd hm
    refine Ev.step (fun _ => laws_heldIntS.l0.eq_2 ..) (ev_pos (by rw [seqFrom_length]; omega) (ev_pos (by omega) (ev_pos ?_ ?_)))
    · rw [rd_at _ i (by rw [seqFrom_length]; omega), seqFrom_get _ _ _ (by omega)]
      omega
    · rw [w64 (x := m + 1) (by omega) (by omega), w64 (x := (i : Int) + 1) (by omega) (by omega)]
      exact ih (i + 1) (m + 1) (by omega) (by omega)
theorem heldIntS_ev (s : Int) (n : Nat) (hs : 0 ≤ s) (hb : s + (n : Int) ≤ 4611686018427387904) : Ev (fun k => laws_heldIntS.f k (seqFrom s n) s) (s + (n : Int)) := by
  unfold laws_heldIntS.f
  exact heldIntS_l0 s n hs hb n 0 s (by omega) (by omega)
theorem tmod_twice (a b : Int) (h1 : 1 ≤ b) (h2 : b ≤ 1000000000000) : Int.tmod (wrap64 (Int.tmod a b + b)) b = a % b := by
  have hlt : Int.tmod a b < b := Int.tmod_lt_of_pos a (by omega)
  have hgt : -b < Int.tmod a b := by
    have h := Int.tmod_lt_of_pos (-a) (show 0 < b by omega)
    rw [Int.neg_tmod] at h
    omega
  rw [w64 (by omega) (by omega), Int.tmod_eq_emod_of_nonneg (by omega), Int.add_emod_right]
  have e : Int.tmod a b = a - b * (a.tdiv b) := Int.tmod_def a b
  rw [e, Int.sub_mul_emod_self_left]
theorem l1In_val (a b c : Int) : spec_l1In.f a b c = some (decide (b ≤ a ∧ a ≤ c)) := by
  unfold spec_l1In.f
  by_cases h : a ≥ b
  · rw [if_pos h]; simp [h]
  · rw [if_neg h]; simp [h]
theorem inRange_val (a b c : Int) : impl_InRange.f a b c = some (decide (b ≤ a ∧ a ≤ c)) := by
  unfold impl_InRange.f
  by_cases h : b ≤ a
  · rw [if_pos h]; simp [h]
  · rw [if_neg h]; simp [h]
theorem spec_Mod_val (a b : Int) (h1 : 1 ≤ b) (h2 : b ≤ 1000000000000) : spec_Mod.f a b = some (a % b) := by
  unfold spec_Mod.f
  rw [l1In_val]
  simp only [Option.bind_some, h1, h2, and_self, decide_true, if_true]
  rw [if_neg (by omega), tmod_twice a b h1 h2]
theorem impl_Mod_val (a b : Int) (h1 : 1 ≤ b) (h2 : b ≤ 1000000000000) : impl_Mod.f a b = some (a % b) := by
  unfold impl_Mod.f
  rw [inRange_val]
  simp only [Option.bind_some, h1, h2, and_self, decide_true, if_true]
  rw [if_neg (by omega), tmod_twice a b h1 h2]
def hstep (h v : Int) : Int := (h * 1000003 + v % 2147483647 + 13) % 2147483647
def hashOf (l : List Int) : Int := l.foldl hstep 11
theorem hstep_range (h v : Int) : 0 ≤ hstep h v ∧ hstep h v < 2147483647 := by unfold hstep; omega
theorem hfold_range (l : List Int) : ∀ h : Int, 0 ≤ h → h < 2147483647 → 0 ≤ l.foldl hstep h ∧ l.foldl hstep h < 2147483647 := by
  induction l with
  | nil => intro h h0 h1; exact ⟨h0, h1⟩
  | cons v l ih => intro h _ _; exact ih _ (hstep_range h v).1 (hstep_range h v).2
theorem hashOf_range (l : List Int) : 0 ≤ hashOf l ∧ hashOf l < 2147483647 := hfold_range l 11 (by omega) (by omega)
theorem hstep_wrap (h v : Int) (h0 : 0 ≤ h) (h1 : h < 2147483647) : Int.tmod (wrap64 ((wrap64 ((wrap64 (h * 1000003)) + v % 2147483647)) + 13)) 2147483647 = hstep h v := by
  have e1 : wrap64 (h * 1000003) = h * 1000003 := w64 (by omega) (by omega)
  have e2 : wrap64 (h * 1000003 + v % 2147483647) = h * 1000003 + v % 2147483647 := w64 (by omega) (by omega)
  rw [e1, e2, w64 (by omega) (by omega), Int.tmod_eq_emod_of_nonneg (by omega)]
  rfl
theorem spec_Hash_l0 (xs : List Int) (hn : xs.length ≤ 4611686018427387904) : ∀ (d i : Nat) (h : Int), i + d = xs.length → 0 ≤ h → h < 2147483647 → Ev (fun k => spec_Hash.l0 k xs h (i : Int)) ((xs.drop i).foldl hstep h) := by
  intro d
  induction d with
  | zero =>
    intro i h hd h0 h1
    refine Ev.step (fun _ => spec_Hash.l0.eq_2 ..) (ev_neg (by omega) (ev_of ?_))
    rw [List.drop_eq_nil_of_le (by omega)]
    rfl
  | succ d ih =>
    intro i h hd h0 h1
    refine Ev.step (fun _ => spec_Hash.l0.eq_2 ..) (ev_pos (by omega) (ev_pos (by omega) (ev_bind0 (spec_Mod_val _ _ (by omega) (by omega)) ?_)))
    rw [hstep_wrap h _ h0 h1, w64 (by omega) (by omega), List.drop_eq_getElem_cons (show i < xs.length by omega), List.foldl_cons, ← rd_at xs i (by omega)]
    exact ih (i + 1) _ (by omega) (hstep_range _ _).1 (hstep_range _ _).2
theorem spec_Hash_ev (xs : List Int) (hn : xs.length ≤ 4611686018427387904) : Ev (fun k => spec_Hash.f k xs) (hashOf xs) := by
  unfold spec_Hash.f
  exact spec_Hash_l0 xs hn xs.length 0 11 (by omega) (by omega) (by omega)
theorem impl_Hash_l0 (xs : List Int) (hn : xs.length ≤ 4611686018427387904) : ∀ (d i : Nat) (h : Int), i + d = xs.length → 0 ≤ h → h < 2147483647 → Ev (fun k => impl_Hash.l0 k h xs (xs.length : Int) (i : Int)) ((xs.drop i).foldl hstep h) := by
  intro d
  induction d with
  | zero =>
    intro i h hd h0 h1
    refine Ev.step (fun _ => impl_Hash.l0.eq_2 ..) (ev_neg (by omega) (ev_of ?_))
    rw [List.drop_eq_nil_of_le (by omega)]
    rfl
  | succ d ih =>
    intro i h hd h0 h1
    refine Ev.step (fun _ => impl_Hash.l0.eq_2 ..) (ev_pos (by omega) (ev_pos (by omega) (ev_pos (by omega) (ev_bind0 (impl_Mod_val _ _ (by omega) (by omega)) ?_))))
    rw [hstep_wrap h _ h0 h1, w64 (by omega) (by omega), List.drop_eq_getElem_cons (show i < xs.length by omega), List.foldl_cons, ← rd_at xs i (by omega)]
    exact ih (i + 1) _ (by omega) (hstep_range _ _).1 (hstep_range _ _).2
theorem impl_Hash_ev (xs : List Int) (hn : xs.length ≤ 4611686018427387904) : Ev (fun k => impl_Hash.f k xs) (hashOf xs) := by
  unfold impl_Hash.f
  exact impl_Hash_l0 xs hn xs.length 0 11 (by omega) (by omega) (by omega)
theorem half_val (n : Nat) (h : n ≤ 4611686018427387904) : wrap64 (Int.tdiv (wrap64 ((n : Int) + 1)) 2) = (((n + 1) / 2 : Nat) : Int) := by
  rw [w64 (x := (n : Int) + 1) (by omega) (by omega), Int.tdiv_eq_ediv_of_nonneg (by omega), w64 (by omega) (by omega)]
  omega
def rootOf (l : List Int) : Int :=
  if l.length = 0 then 0 else if l.length = 1 then rd l 0 else hashOf [rootOf (l.take ((l.length + 1) / 2)), rootOf (l.drop ((l.length + 1) / 2))]
termination_by l.length
decreasing_by
  · rw [List.length_take]; omega
  · rw [List.length_drop]; omega
theorem rootOf_nil (l : List Int) (h : l.length = 0) : rootOf l = 0 := by rw [rootOf, if_pos h]
theorem rootOf_one (l : List Int) (h : l.length = 1) : rootOf l = rd l 0 := by rw [rootOf, if_neg (by omega), if_pos h]
theorem rootOf_more (l : List Int) (h : 2 ≤ l.length) : rootOf l = hashOf [rootOf (l.take ((l.length + 1) / 2)), rootOf (l.drop ((l.length + 1) / 2))] := by rw [rootOf, if_neg (by omega), if_neg (by omega)]
theorem spec_RootOf_le : ∀ (n : Nat) (l : List Int), l.length ≤ n → l.length ≤ 4611686018427387904 → Ev (fun k => spec_RootOf.f k l) (rootOf l) := by
  intro n
  induction n with
  | zero =>
    intro l h hb
    refine Ev.step (fun _ => spec_RootOf.f.eq_2 ..) (ev_pos (by omega) (ev_of ?_))
    rw [rootOf_nil l (by omega)]
  | succ n ih =>
    intro l h hb
    refine Ev.step (fun _ => spec_RootOf.f.eq_2 ..) ?_
    by_cases h0 : l.length = 0
    · refine ev_pos (by omega) (ev_of ?_)
      rw [rootOf_nil l h0]
    refine ev_neg (by omega) ?_
    by_cases h1 : l.length = 1
    · refine ev_pos (by omega) (ev_pos (by omega) (ev_of ?_))
      rw [rootOf_one l h1]
    refine ev_neg (by omega) ?_
    rw [half_val _ hb, Int.toNat_natCast]
    refine ev_pos (by omega) (ev_pos (by omega) ?_)
    refine Ev.bind (ih _ (by rw [List.length_take]; omega) (by rw [List.length_take]; omega)) ?_
    refine Ev.bind (ih _ (by rw [List.length_drop]; omega) (by rw [List.length_drop]; omega)) ?_
    rw [rootOf_more l (by omega)]
    exact Ev.bind (spec_Hash_ev _ (by simp)) (Ev.now _)
theorem spec_RootOf_ev (l : List Int) (hb : l.length ≤ 4611686018427387904) : Ev (fun k => spec_RootOf.f k l) (rootOf l) := spec_RootOf_le l.length l (Nat.le_refl _) hb
theorem impl_RootOf_le : ∀ (n : Nat) (l : List Int), l.length ≤ n → l.length ≤ 4611686018427387904 → Ev (fun k => impl_RootOf.f k l) (rootOf l) := by
  intro n
  induction n with
  | zero =>
    intro l h hb
    refine Ev.step (fun _ => impl_RootOf.f.eq_2 ..) (ev_pos (by omega) (ev_of ?_))
    rw [rootOf_nil l (by omega)]
  | succ n ih =>
    intro l h hb
    refine Ev.step (fun _ => impl_RootOf.f.eq_2 ..) ?_
    by_cases h0 : l.length = 0
    · refine ev_pos (by omega) (ev_of ?_)
      rw [rootOf_nil l h0]
    refine ev_neg (by omega) ?_
    by_cases h1 : l.length = 1
    · refine ev_pos (by omega) (ev_pos (by omega) (ev_of ?_))
      rw [rootOf_one l h1]
    refine ev_neg (by omega) ?_
    rw [half_val _ hb, Int.toNat_natCast]
    refine ev_pos (by omega) (ev_pos (by omega) ?_)
    refine Ev.bind (ih _ (by rw [List.length_take]; omega) (by rw [List.length_take]; omega)) ?_
    refine Ev.bind (ih _ (by rw [List.length_drop]; omega) (by rw [List.length_drop]; omega)) ?_
    rw [rootOf_more l (by omega)]
    exact Ev.bind (impl_Hash_ev _ (by simp)) (Ev.now _)
theorem impl_RootOf_ev (l : List Int) (hb : l.length ≤ 4611686018427387904) : Ev (fun k => impl_RootOf.f k l) (rootOf l) := impl_RootOf_le l.length l (Nat.le_refl _) hb
def pathTo (l : List Int) (i : Nat) : List Int :=
  if l.length < 2 then [] else
  if i < (l.length + 1) / 2 then pathTo (l.take ((l.length + 1) / 2)) i ++ [rootOf (l.drop ((l.length + 1) / 2))]
  else pathTo (l.drop ((l.length + 1) / 2)) (i - (l.length + 1) / 2) ++ [rootOf (l.take ((l.length + 1) / 2))]
termination_by l.length
decreasing_by
  · rw [List.length_take]; omega
  · rw [List.length_drop]; omega
theorem pathTo_nil (l : List Int) (i : Nat) (h : l.length < 2) : pathTo l i = [] := by rw [pathTo, if_pos h]
theorem pathTo_left (l : List Int) (i : Nat) (h : ¬ l.length < 2) (hi : i < (l.length + 1) / 2) : pathTo l i = pathTo (l.take ((l.length + 1) / 2)) i ++ [rootOf (l.drop ((l.length + 1) / 2))] := by rw [pathTo, if_neg h, if_pos hi]
theorem pathTo_right (l : List Int) (i : Nat) (h : ¬ l.length < 2) (hi : ¬ i < (l.length + 1) / 2) : pathTo l i = pathTo (l.drop ((l.length + 1) / 2)) (i - (l.length + 1) / 2) ++ [rootOf (l.take ((l.length + 1) / 2))] := by rw [pathTo, if_neg h, if_neg hi]
theorem pathTo_len : ∀ (n : Nat) (l : List Int) (i : Nat), l.length ≤ n → (pathTo l i).length ≤ l.length := by
  intro n
  induction n with
  | zero => intro l i h; rw [pathTo_nil l i (by omega)]; simp
  | succ n ih =>
    intro l i h
    by_cases h2 : l.length < 2
    · rw [pathTo_nil l i h2]; simp
    · by_cases hi : i < (l.length + 1) / 2
      · have := ih (l.take ((l.length + 1) / 2)) i (by rw [List.length_take]; omega)
        rw [List.length_take] at this
        rw [pathTo_left l i h2 hi, List.length_append, List.length_singleton]
        omega
      · have := ih (l.drop ((l.length + 1) / 2)) (i - (l.length + 1) / 2) (by rw [List.length_drop]; omega)
        rw [List.length_drop] at this
        rw [pathTo_right l i h2 hi, List.length_append, List.length_singleton]
        omega
def pathAt (l : List Int) (a : Int) : List Int := if 0 ≤ a ∧ a < (l.length : Int) then pathTo l a.toNat else []
theorem spec_PathTo_le : ∀ (n : Nat) (l : List Int) (i : Nat), l.length ≤ n → l.length ≤ 1099511627776 → i < l.length → Ev (fun k => spec_PathTo.f k l (i : Int)) (pathTo l i) := by
  intro n
  induction n with
  | zero => intro l i h hb hi; omega
  | succ n ih =>
    intro l i h hb hi
    refine Ev.step (fun _ => spec_PathTo.f.eq_2 ..) (ev_bind0 rfl (ev_bind0 (l1In_val _ _ _) (ev_pos ?_ ?_)))
    · rw [w64 (by omega) (by omega)]
      exact decide_eq_true (by omega)
    refine Ev.step (fun _ => spec_PathTo.j0.eq_2 ..) ?_
    by_cases h2 : l.length < 2
    · rw [pathTo_nil l i h2]
      exact ev_pos (decide_eq_true (by omega)) (Ev.now _)
    refine ev_neg (by simp only [decide_eq_true_eq]; omega) ?_
    rw [half_val _ (by omega), Int.toNat_natCast]
    by_cases hlt : i < (l.length + 1) / 2
    · rw [pathTo_left l i h2 hlt]
      refine ev_pos (by omega) (ev_pos (by omega) (ev_pos (by omega) ?_))
      refine Ev.bind (ih _ i (by rw [List.length_take]; omega) (by rw [List.length_take]; omega) (by rw [List.length_take]; omega)) ?_
      refine Ev.bind (spec_RootOf_ev _ (by rw [List.length_drop]; omega)) (ev_pos ?_ (Ev.now _))
      have := pathTo_len _ (l.take ((l.length + 1) / 2)) i (Nat.le_refl _)
      rw [List.length_take] at this
      omega
    · rw [pathTo_right l i h2 hlt]
      refine ev_neg (by omega) (ev_pos (by omega) (ev_pos (by omega) ?_))
      rw [w64 (by omega) (by omega), show (i : Int) - (((l.length + 1) / 2 : Nat) : Int) = ((i - (l.length + 1) / 2 : Nat) : Int) by omega]
      refine Ev.bind (ih _ _ (by rw [List.length_drop]; omega) (by rw [List.length_drop]; omega) (by rw [List.length_drop]; omega)) ?_
      refine Ev.bind (spec_RootOf_ev _ (by rw [List.length_take]; omega)) (ev_pos ?_ (Ev.now _))
      have := pathTo_len _ (l.drop ((l.length + 1) / 2)) (i - (l.length + 1) / 2) (Nat.le_refl _)
      rw [List.length_drop] at this
      omega
theorem spec_PathTo_ev (l : List Int) (a : Int) (hb : l.length ≤ 1099511627776) : Ev (fun k => spec_PathTo.f k l a) (pathAt l a) := by
  unfold pathAt
  by_cases h : 0 ≤ a ∧ a < (l.length : Int)
  · rw [if_pos h]
    have e := spec_PathTo_le l.length l a.toNat (Nat.le_refl _) hb (by omega)
    rw [Int.toNat_of_nonneg h.1] at e
    exact e
  · rw [if_neg h]
    refine Ev.step (fun _ => spec_PathTo.f.eq_2 ..) (ev_bind0 rfl (ev_bind0 (l1In_val _ _ _) (ev_neg ?_ ?_)))
    · rw [w64 (by omega) (by omega)]
      simp only [decide_eq_true_eq]
      omega
    · exact Ev.step (fun _ => spec_PathTo.j0.eq_2 ..) (ev_pos rfl (Ev.now _))
theorem at_val (a b : Int) : impl_at.f a b = some (decide (0 ≤ a ∧ a < b)) := by
  unfold impl_at.f
  by_cases h : a ≥ 0
  · rw [if_pos h]; simp [h]
  · rw [if_neg h]; simp [h]
theorem impl_PathTo_le : ∀ (n : Nat) (l : List Int) (i : Nat), l.length ≤ n → l.length ≤ 1099511627776 → i < l.length → Ev (fun k => impl_PathTo.f k l (i : Int)) (pathTo l i) := by
  intro n
  induction n with
  | zero => intro l i h hb hi; omega
  | succ n ih =>
    intro l i h hb hi
    refine Ev.step (fun _ => impl_PathTo.f.eq_2 ..) (ev_bind0 (at_val _ _) (ev_pos (decide_eq_true (by omega)) ?_))
    refine Ev.step (fun _ => impl_PathTo.j0.eq_2 ..) ?_
    by_cases h2 : l.length < 2
    · rw [pathTo_nil l i h2]
      exact ev_pos (beq_iff_eq.2 (by omega)) (Ev.now _)
    refine ev_neg (by simp only [beq_iff_eq]; omega) ?_
    rw [half_val _ (by omega), Int.toNat_natCast]
    by_cases hlt : i < (l.length + 1) / 2
    · rw [pathTo_left l i h2 hlt]
      refine ev_pos (by omega) (ev_pos (by omega) (ev_pos (by omega) ?_))
      refine Ev.bind (ih _ i (by rw [List.length_take]; omega) (by rw [List.length_take]; omega) (by rw [List.length_take]; omega)) ?_
      refine Ev.bind (impl_RootOf_ev _ (by rw [List.length_drop]; omega)) (ev_pos ?_ (Ev.now _))
      have := pathTo_len _ (l.take ((l.length + 1) / 2)) i (Nat.le_refl _)
      rw [List.length_take] at this
      omega
    · rw [pathTo_right l i h2 hlt]
      refine ev_neg (by omega) (ev_pos (by omega) (ev_pos (by omega) ?_))
      rw [w64 (by omega) (by omega), show (i : Int) - (((l.length + 1) / 2 : Nat) : Int) = ((i - (l.length + 1) / 2 : Nat) : Int) by omega]
      refine Ev.bind (ih _ _ (by rw [List.length_drop]; omega) (by rw [List.length_drop]; omega) (by rw [List.length_drop]; omega)) ?_
      refine Ev.bind (impl_RootOf_ev _ (by rw [List.length_take]; omega)) (ev_pos ?_ (Ev.now _))
      have := pathTo_len _ (l.drop ((l.length + 1) / 2)) (i - (l.length + 1) / 2) (Nat.le_refl _)
      rw [List.length_drop] at this
      omega
theorem impl_PathTo_ev (l : List Int) (a : Int) (hb : l.length ≤ 1099511627776) : Ev (fun k => impl_PathTo.f k l a) (pathAt l a) := by
  unfold pathAt
  by_cases h : 0 ≤ a ∧ a < (l.length : Int)
  · rw [if_pos h]
    have e := impl_PathTo_le l.length l a.toNat (Nat.le_refl _) hb (by omega)
    rw [Int.toNat_of_nonneg h.1] at e
    exact e
  · rw [if_neg h]
    refine Ev.step (fun _ => impl_PathTo.f.eq_2 ..) (ev_bind0 (at_val _ _) (ev_neg (by simp only [decide_eq_true_eq]; exact h) ?_))
    exact Ev.step (fun _ => impl_PathTo.j0.eq_2 ..) (ev_pos rfl (Ev.now _))
theorem pathAt_len (l : List Int) (a : Int) : (pathAt l a).length ≤ l.length := by
  unfold pathAt
  split
  · exact pathTo_len _ l _ (Nat.le_refl _)
  · simp
theorem FnExactPathTo : laws_FnExactPathTo.Pure := by
  intro l a hl hs hw _
  refine Ev.rounds (g := fun k => laws_FnExactPathTo.f k l a) ?_
  unfold laws_FnExactPathTo.f
  by_cases hb : (l.length : Int) > 1048576
  · exact ev_pos hb (Ev.now true)
  refine ev_neg hb ?_
  have hp := pathAt_len l a
  refine Ev.bind (toIntS_ev l (by omega)) ?_
  refine Ev.bind (spec_PathTo_ev l a (by omega)) ?_
  refine Ev.bind (toIntS_ev l (by omega)) ?_
  refine Ev.bind (impl_PathTo_ev l a (by omega)) ?_
  refine Ev.bind (eqIntS_same _ (by omega)) (ev_pos rfl ?_)
  refine Ev.bind (toIntS_ev l (by omega)) ?_
  refine Ev.bind (eqIntS_same _ (by omega)) (ev_pos rfl ?_)
  refine Ev.bind (markIntS_ev l 1 (by omega) (by omega)) (ev_neg (by simp only; omega) ?_)
  refine Ev.bind (eqIntS_same _ (by omega)) ?_
  refine Ev.step (fun _ => laws_FnExactPathTo.j0.eq_2 ..) (ev_neg (by decide) ?_)
  refine Ev.bind (markIntS_ev _ 1 (by omega) (by omega)) ?_
  refine Ev.bind (heldIntS_ev 1 _ (by omega) (by omega)) (ev_neg (by omega) (ev_pos rfl ?_))
  refine Ev.bind (toIntS_ev l (by omega)) ?_
  refine Ev.bind (impl_PathTo_ev l a (by omega)) ?_
  refine Ev.bind (eqIntS_same _ (by omega)) (ev_pos rfl ?_)
  exact Ev.bind (heldIntS_ev 1 _ (by omega) (by omega)) (ev_neg (by omega) (ev_pos rfl (Ev.now true)))

end Go.Proofs.Ytgcidlnhgpjdpab.Pure

namespace Go.Proofs.Ytgcidlnhgpjdpab.PrintWords
open Go.ChangeShapes Go.WideShapes
theorem sized_ints {H : Type} {enc : TypeId × Value → H} {P : Program} {W : World} {base : Nat} {spare : Nat → Bool} {held : Bool} {t e : TypeId} {k : IntKind} {a : Option Addr} {len cap : Nat} {d : DataW H} {ps : List MemPlace} {ts : List TypeId} {ds : List (DataW H)} {j : Nat}
    (hsz : (DataW.weightsEach P ts ds).all (· ≤ reachBytes) = true) (ht : ts[j]? = some t) (hd : ds[j]? = some d) (hu : P.underlying t = some (.slice e)) (he : P.underlying e = some (.int k)) (hc : P.cellsOf e = 1) {B : Nat} (hB : P.bytesOf e = B)
    (h : DataW.Trod enc P W base spare held t (.slice a len cap) d ps) : len * B ≤ 140737488351232 :=
  Go.Proofs.YtgcidlnhgpjdpabW.PrintWords.sized_ints hsz ht hd hu he hc hB h
end Go.Proofs.Ytgcidlnhgpjdpab.PrintWords
