/- The pure statement behind the law FnExactDeriveFromString: over numbers and lists the law answers true, at every input that the row's bounds let in. -/
import Derived.Test.YtgcidlnhgpjdpaaQFnExactDeriveFromStringx1
import Derived.Test.YtgcidlnhgpjdpaaQFnExactDeriveFromStringg
namespace Go.Proofs.Ytgcidlnhgpjdpaa.Pure
open Go Go.RowKit Go.Proofs.Ytgcidlnhgpjdpaa.QFnExactDeriveFromString Go.Proofs.YtgcidlnhgpjdpaaW.PrintWords Go.Proofs.YtgcidlnhgpjdpaaW.PrintLast Go.Proofs.YtgcidlnhgpjdpaaW.PrintMore
set_option linter.unusedVariables false
set_option linter.unusedSimpArgs false
set_option maxRecDepth 100000

theorem w64 {x : Int} (h0 : -9223372036854775808 ≤ x) (h1 : x ≤ 9223372036854775807) : wrap64 x = x := by unfold wrap64; omega
theorem wf8 {x : Int} (h : (Lit.int .u8 x).wf = true) : 0 ≤ x ∧ x ≤ 255 := by
  simp [Lit.wf, IntKind.min, IntKind.max, IntKind.signed, IntKind.bits] at h
  omega
theorem ev_pos {α : Type} {c : Prop} [Decidable c] {g f : Nat → Option α} {r : α} (h : c) (k : Ev g r) : Ev (fun n => if c then g n else f n) r := by
  obtain ⟨K, hK⟩ := k
  exact ⟨K, fun n hn => (if_pos h).trans (hK n hn)⟩
theorem ev_neg {α : Type} {c : Prop} [Decidable c] {g f : Nat → Option α} {r : α} (h : ¬ c) (k : Ev f r) : Ev (fun n => if c then g n else f n) r := by
  obtain ⟨K, hK⟩ := k
  exact ⟨K, fun n hn => (if_neg h).trans (hK n hn)⟩
theorem ev_bind0 {α β : Type} {o : Option α} {f : Nat → α → Option β} {a : α} {r : β} (h : o = some a) (k : Ev (fun n => f n a) r) : Ev (fun n => o.bind (f n)) r := by
  subst h
  exact k
theorem ev_of {α : Type} {o : Option α} {r : α} (h : o = some r) : Ev (fun _ => o) r := ⟨0, fun _ _ => h⟩
theorem rd_at (xs : List Int) (i : Nat) (h : i < xs.length) : rd xs (i : Int) = xs[i] := by
  unfold rd
  rw [Int.toNat_natCast, List.getD_eq_getElem?_getD, List.getElem?_eq_getElem h]
  rfl
theorem l1In_val (a b c : Int) : spec_l1In.f a b c = some (decide (b ≤ a ∧ a ≤ c)) := by
  unfold spec_l1In.f
  by_cases h : a ≥ b
  · rw [if_pos h]; simp [h]
  · rw [if_neg h]; simp [h]
theorem inRange_val (a b c : Int) : impl_InRange.f a b c = some (decide (b ≤ a ∧ a ≤ c)) := by
  unfold impl_InRange.f
  by_cases h : b ≤ a
  · rw [if_pos h]; simp [h]
  · rw [if_neg h]; simp [h]
theorem tmod_twice (a b : Int) (h1 : 1 ≤ b) (h2 : b ≤ 1000000000000) : Int.tmod (wrap64 (Int.tmod a b + b)) b = a % b := by
  have hlt : Int.tmod a b < b := Int.tmod_lt_of_pos a (by omega)
  have hgt : -b < Int.tmod a b := by
    have h := Int.tmod_lt_of_pos (-a) (show 0 < b by omega)
    rw [Int.neg_tmod] at h
    omega
  rw [w64 (by omega) (by omega), Int.tmod_eq_emod_of_nonneg (by omega), Int.add_emod_right]
  have e : Int.tmod a b = a - b * (a.tdiv b) := Int.tmod_def a b
  rw [e, Int.sub_mul_emod_self_left]
theorem spec_Mod_val (a b : Int) (h1 : 1 ≤ b) (h2 : b ≤ 1000000000000) : spec_Mod.f a b = some (a % b) := by
  unfold spec_Mod.f
  rw [l1In_val]
  simp only [Option.bind_some, h1, h2, and_self, decide_true, if_true]
  rw [if_neg (by omega), tmod_twice a b h1 h2]
theorem impl_Mod_val (a b : Int) (h1 : 1 ≤ b) (h2 : b ≤ 1000000000000) : impl_Mod.f a b = some (a % b) := by
  unfold impl_Mod.f
  rw [inRange_val]
  simp only [Option.bind_some, h1, h2, and_self, decide_true, if_true]
  rw [if_neg (by omega), tmod_twice a b h1 h2]
def hstep (h v : Int) : Int := (h * 1000003 + v % 2147483647 + 13) % 2147483647
def hashOf (l : List Int) : Int := l.foldl hstep 11
theorem hstep_range (h v : Int) : 0 ≤ hstep h v ∧ hstep h v < 2147483647 := by unfold hstep; omega
theorem hfold_range (l : List Int) : ∀ h : Int, 0 ≤ h → h < 2147483647 → 0 ≤ l.foldl hstep h ∧ l.foldl hstep h < 2147483647 := by
  induction l with
  | nil => intro h h0 h1; exact ⟨h0, h1⟩
  | cons v l ih => intro h _ _; exact ih _ (hstep_range h v).1 (hstep_range h v).2
theorem hashOf_range (l : List Int) : 0 ≤ hashOf l ∧ hashOf l < 2147483647 := hfold_range l 11 (by omega) (by omega)
theorem hstep_wrap (h v : Int) (h0 : 0 ≤ h) (h1 : h < 2147483647) : Int.tmod (wrap64 ((wrap64 ((wrap64 (h * 1000003)) + v % 2147483647)) + 13)) 2147483647 = hstep h v := by
  have e1 : wrap64 (h * 1000003) = h * 1000003 := w64 (by omega) (by omega)
  have e2 : wrap64 (h * 1000003 + v % 2147483647) = h * 1000003 + v % 2147483647 := w64 (by omega) (by omega)
  rw [e1, e2, w64 (by omega) (by omega), Int.tmod_eq_emod_of_nonneg (by omega)]
  rfl
theorem spec_Hash_l0 (xs : List Int) (hn : xs.length ≤ 4611686018427387904) : ∀ (d i : Nat) (h : Int), i + d = xs.length → 0 ≤ h → h < 2147483647 → Ev (fun k => spec_Hash.l0 k xs h (i : Int)) ((xs.drop i).foldl hstep h) := by
  intro d
  induction d with
  | zero =>
    intro i h hd h0 h1
    refine Ev.step (fun _ => spec_Hash.l0.eq_2 ..) (ev_neg (by omega) (ev_of ?_))
    rw [List.drop_eq_nil_of_le (by omega)]
    rfl
  | succ d ih =>
    intro i h hd h0 h1
    refine Ev.step (fun _ => spec_Hash.l0.eq_2 ..) (ev_pos (by omega) (ev_pos (by omega) (ev_bind0 (spec_Mod_val _ _ (by omega) (by omega)) ?_)))
    rw [hstep_wrap h _ h0 h1, w64 (by omega) (by omega), List.drop_eq_getElem_cons (show i < xs.length by omega), List.foldl_cons, ← rd_at xs i (by omega)]
    exact ih (i + 1) _ (by omega) (hstep_range _ _).1 (hstep_range _ _).2
theorem spec_Hash_ev (xs : List Int) (hn : xs.length ≤ 4611686018427387904) : Ev (fun k => spec_Hash.f k xs) (hashOf xs) := by
  unfold spec_Hash.f
  exact spec_Hash_l0 xs hn xs.length 0 11 (by omega) (by omega) (by omega)
theorem impl_Hash_l0 (xs : List Int) (hn : xs.length ≤ 4611686018427387904) : ∀ (d i : Nat) (h : Int), i + d = xs.length → 0 ≤ h → h < 2147483647 → Ev (fun k => impl_Hash.l0 k h xs (xs.length : Int) (i : Int)) ((xs.drop i).foldl hstep h) := by
  intro d
  induction d with
  | zero =>
    intro i h hd h0 h1
    refine Ev.step (fun _ => impl_Hash.l0.eq_2 ..) (ev_neg (by omega) (ev_of ?_))
    rw [List.drop_eq_nil_of_le (by omega)]
    rfl
  | succ d ih =>
    intro i h hd h0 h1
    refine Ev.step (fun _ => impl_Hash.l0.eq_2 ..) (ev_pos (by omega) (ev_pos (by omega) (ev_pos (by omega) (ev_bind0 (impl_Mod_val _ _ (by omega) (by omega)) ?_))))
    rw [hstep_wrap h _ h0 h1, w64 (by omega) (by omega), List.drop_eq_getElem_cons (show i < xs.length by omega), List.foldl_cons, ← rd_at xs i (by omega)]
    exact ih (i + 1) _ (by omega) (hstep_range _ _).1 (hstep_range _ _).2
theorem impl_Hash_ev (xs : List Int) (hn : xs.length ≤ 4611686018427387904) : Ev (fun k => impl_Hash.f k xs) (hashOf xs) := by
  unfold impl_Hash.f
  exact impl_Hash_l0 xs hn xs.length 0 11 (by omega) (by omega) (by omega)
theorem spec_KeyedHash_ev (a : Int) (l : List Int) (h : l.length ≤ 1048578) : Ev (fun k => spec_KeyedHash.f k a l) (hashOf ([a] ++ l ++ [a])) := by
  unfold spec_KeyedHash.f
  refine ev_bind0 rfl (ev_pos (by simp only [List.length_cons, List.length_nil]; omega) (ev_bind0 rfl (ev_pos (by simp only [List.length_append, List.length_cons, List.length_nil]; omega) ?_)))
  exact Ev.bind (spec_Hash_ev _ (by simp only [List.length_append, List.length_cons, List.length_nil]; omega)) (Ev.now _)
theorem impl_KeyedHash_ev (a : Int) (l : List Int) (h : l.length ≤ 1048578) : Ev (fun k => impl_KeyedHash.f k a l) (hashOf ([a] ++ l ++ [a])) := by
  unfold impl_KeyedHash.f
  refine ev_bind0 rfl (ev_pos (by simp only [List.length_cons, List.length_nil]; omega) (ev_bind0 rfl (ev_pos (by simp only [List.length_append, List.length_cons, List.length_nil]; omega) ?_)))
  exact Ev.bind (impl_Hash_ev _ (by simp only [List.length_append, List.length_cons, List.length_nil]; omega)) (Ev.now _)
theorem spec_BytesToInts_l0 (l : List Int) (hl : l.length ≤ 1099511627776) (hw : ∀ x ∈ l, (Lit.int .u8 x).wf = true) : ∀ (d i : Nat) (out : List Int), i + d = l.length → out.length = i + 1 → Ev (fun k => spec_BytesToInts.l0 k l out (i : Int)) (out ++ l.drop i) := by
  intro d
  induction d with
  | zero =>
    intro i out hd ho
    refine Ev.step (fun _ => spec_BytesToInts.l0.eq_2 ..) (ev_neg (by omega) (ev_of ?_))
    rw [List.drop_eq_nil_of_le (by omega), List.append_nil]
  | succ d ih =>
    intro i out hd ho
    refine Ev.step (fun _ => spec_BytesToInts.l0.eq_2 ..) (ev_pos (by omega) (ev_pos (by omega) (ev_pos (by omega) ?_)))
    have hb := wf8 (hw _ (List.getElem_mem (show i < l.length by omega)))
    rw [rd_at l i (by omega), w64 (x := (i : Int) + 1) (by omega) (by omega), w64 (x := l[i]'(by omega)) (by omega) (by omega)]
    have h := ih (i + 1) (out ++ [l[i]'(by omega)]) (by omega) (by simp; omega)
    rw [List.append_assoc, List.singleton_append, ← List.drop_eq_getElem_cons (show i < l.length by omega)] at h
    exact h
theorem spec_BytesToInts_ev (l : List Int) (hl : l.length ≤ 1099511627776) (hw : ∀ x ∈ l, (Lit.int .u8 x).wf = true) : Ev (fun k => spec_BytesToInts.f k l) ((l.length : Int) :: l) := by
  unfold spec_BytesToInts.f
  exact spec_BytesToInts_l0 l hl hw l.length 0 _ (by omega) (by simp)
theorem impl_BytesToInts_l0 (l : List Int) (hl : l.length ≤ 1099511627776) (hw : ∀ x ∈ l, (Lit.int .u8 x).wf = true) : ∀ (d i : Nat) (out : List Int), i + d = l.length → out.length = i + 1 → Ev (fun k => impl_BytesToInts.l0 k out l (l.length : Int) (i : Int)) (out ++ l.drop i) := by
  intro d
  induction d with
  | zero =>
    intro i out hd ho
    refine Ev.step (fun _ => impl_BytesToInts.l0.eq_2 ..) (ev_neg (by omega) (ev_of ?_))
    rw [List.drop_eq_nil_of_le (by omega), List.append_nil]
  | succ d ih =>
    intro i out hd ho
    refine Ev.step (fun _ => impl_BytesToInts.l0.eq_2 ..) (ev_pos (by omega) (ev_pos (by omega) (ev_pos (by omega) (ev_pos (by omega) ?_))))
    have hb := wf8 (hw _ (List.getElem_mem (show i < l.length by omega)))
    rw [rd_at l i (by omega), w64 (x := (i : Int) + 1) (by omega) (by omega), w64 (x := l[i]'(by omega)) (by omega) (by omega)]
    have h := ih (i + 1) (out ++ [l[i]'(by omega)]) (by omega) (by simp; omega)
    rw [List.append_assoc, List.singleton_append, ← List.drop_eq_getElem_cons (show i < l.length by omega)] at h
    exact h
theorem impl_BytesToInts_ev (l : List Int) (hl : l.length ≤ 1099511627776) (hw : ∀ x ∈ l, (Lit.int .u8 x).wf = true) : Ev (fun k => impl_BytesToInts.f k l) ((l.length : Int) :: l) := by
  unfold impl_BytesToInts.f
  exact impl_BytesToInts_l0 l hl hw l.length 0 _ (by omega) (by simp)
theorem wf8_mk {x : Int} (h0 : 0 ≤ x) (h1 : x ≤ 255) : (Lit.int .u8 x).wf = true := by
  simp [Lit.wf, IntKind.min, IntKind.max, IntKind.signed, IntKind.bits]
  omega
def derOf (a : Int) (s : ByteArray) : Int := if hashOf ([a] ++ (((bytesOf s).length : Int) :: bytesOf s) ++ [a]) = 0 then 1 else hashOf ([a] ++ (((bytesOf s).length : Int) :: bytesOf s) ++ [a])
theorem bytes_wf (s : ByteArray) : ∀ x ∈ bytesOf s, (Lit.int .u8 x).wf = true := by
  intro x hx
  unfold bytesOf at hx
  obtain ⟨b, _, rfl⟩ := List.mem_map.1 hx
  have := b.toNat_lt
  exact wf8_mk (by omega) (by omega)
theorem impl_DeriveFromString_ev (a : Int) (s : ByteArray) (hn : s.size ≤ 1048577) : Ev (fun k => impl_DeriveFromString.f k a s) (derOf a s) := by
  unfold impl_DeriveFromString.f
  rw [List.nil_append]
  have hl := bytesOf_length s
  refine ev_pos (by rw [List.length_nil]; omega) (Ev.bind (impl_BytesToInts_ev _ (by omega) (bytes_wf s)) (Ev.bind (impl_KeyedHash_ev _ _ (by rw [List.length_cons]; omega)) ?_))
  unfold derOf
  generalize hashOf ([a] ++ (((bytesOf s).length : Int) :: bytesOf s) ++ [a]) = h
  by_cases c : h = 0
  · rw [show (if h = 0 then (1 : Int) else h) = 1 from if_pos c]
    exact ev_pos c (Ev.now _)
  · rw [show (if h = 0 then (1 : Int) else h) = h from if_neg c]
    exact ev_neg c (Ev.now _)
theorem spec_DeriveFromString_ev (a : Int) (s : ByteArray) (hn : s.size ≤ 1048577) : Ev (fun k => spec_DeriveFromString.f k a s) (derOf a s) := by
  unfold spec_DeriveFromString.f
  rw [List.nil_append]
  have hl := bytesOf_length s
  have hr := hashOf_range ([a] ++ (((bytesOf s).length : Int) :: bytesOf s) ++ [a])
  refine ev_pos (by rw [List.length_nil]; omega) (Ev.bind (spec_BytesToInts_ev _ (by omega) (bytes_wf s)) (Ev.bind (spec_KeyedHash_ev _ _ (by rw [List.length_cons]; omega)) ?_))
  unfold derOf
  revert hr
  generalize hashOf ([a] ++ (((bytesOf s).length : Int) :: bytesOf s) ++ [a]) = h
  intro hr
  refine ev_bind0 ?_ (Ev.now _)
  unfold spec_Max.f
  by_cases c : h = 0
  · rw [if_pos c, if_neg (by omega)]
  · rw [if_neg c]
    by_cases c1 : h > 1
    · rw [if_pos c1]
    · rw [if_neg c1]
      congr 1
      omega
theorem FnExactDeriveFromString : ∀ (x0 : Int) (x1 : ByteArray), ((Lit.int .i64 x0).wf = true) → x1.size ≤ 140737488351232 → ∃ k, laws_FnExactDeriveFromString.f k x0 x1 = some true := by
  intro a s _ _
  refine Ev.rounds (g := fun k => laws_FnExactDeriveFromString.f k a s) ?_
  unfold laws_FnExactDeriveFromString.f
  by_cases hb : (s.size : Int) > 1048576
  · exact ev_pos hb (Ev.now true)
  exact ev_neg hb (Ev.bind (spec_DeriveFromString_ev a s (by omega)) (Ev.bind (impl_DeriveFromString_ev a s (by omega)) (ev_pos rfl (Ev.now true))))

end Go.Proofs.Ytgcidlnhgpjdpaa.Pure
