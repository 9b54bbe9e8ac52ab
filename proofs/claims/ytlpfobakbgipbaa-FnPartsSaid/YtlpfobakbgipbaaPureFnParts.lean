/- The pure statement behind the law FnParts: over numbers and lists the law answers true, at every input that the row's bounds let in. -/
import Derived.Test.YtlpfobakbgipbaaQFnPartsx10
import Derived.Test.YtlpfobakbgipbaaQFnPartsg
namespace Go.Proofs.Ytlpfobakbgipbaa.Pure
open Go Go.RowKit Go.Proofs.Ytlpfobakbgipbaa.QFnParts Go.Proofs.YtlpfobakbgipbaaW.PrintWords Go.Proofs.YtlpfobakbgipbaaW.PrintLast Go.Proofs.YtlpfobakbgipbaaW.PrintMore
set_option linter.unusedVariables false
set_option linter.unusedSimpArgs false
set_option maxRecDepth 100000

theorem w64 {x : Int} (h0 : -9223372036854775808 ≤ x) (h1 : x ≤ 9223372036854775807) : wrap64 x = x := by unfold wrap64; omega
theorem ev_pos {α : Type} {c : Prop} [Decidable c] {g f : Nat → Option α} {r : α} (h : c) (k : Ev g r) : Ev (fun n => if c then g n else f n) r := by
  obtain ⟨K, hK⟩ := k
  exact ⟨K, fun n hn => (if_pos h).trans (hK n hn)⟩
theorem ev_neg {α : Type} {c : Prop} [Decidable c] {g f : Nat → Option α} {r : α} (h : ¬ c) (k : Ev f r) : Ev (fun n => if c then g n else f n) r := by
  obtain ⟨K, hK⟩ := k
  exact ⟨K, fun n hn => (if_neg h).trans (hK n hn)⟩
theorem ev_bind0 {α β : Type} {o : Option α} {f : Nat → α → Option β} {a : α} {r : β} (h : o = some a) (k : Ev (fun n => f n a) r) : Ev (fun n => o.bind (f n)) r := by
  subst h
  exact k
theorem ev_of {α : Type} {o : Option α} {r : α} (h : o = some r) : Ev (fun _ => o) r := ⟨0, fun _ _ => h⟩
theorem rd_at (xs : List Int) (i : Nat) (h : i < xs.length) : rd xs (i : Int) = xs[i] := by
  unfold rd
  rw [Int.toNat_natCast, List.getD_eq_getElem?_getD, List.getElem?_eq_getElem h]
  rfl
theorem l1In_val (a b c : Int) : spec_l1In.f a b c = some (decide (b ≤ a ∧ a ≤ c)) := by
  unfold spec_l1In.f
  by_cases h : a ≥ b
  · rw [if_pos h]; simp [h]
  · rw [if_neg h]; simp [h]
theorem inRange_val (a b c : Int) : impl_InRange.f a b c = some (decide (b ≤ a ∧ a ≤ c)) := by
  unfold impl_InRange.f
  by_cases h : b ≤ a
  · rw [if_pos h]; simp [h]
  · rw [if_neg h]; simp [h]
def resInts (a0 : Int) (l : List Int) (a2 a3 a4 : Int) : List Int := [a0, a2, a3, a4, (l.length : Int)] ++ l
theorem resInts_len (a0 : Int) (l : List Int) (a2 a3 a4 : Int) : (resInts a0 l a2 a3 a4).length = l.length + 5 := by simp [resInts]
theorem spec_ResourceInts_val (a0 : Int) (l : List Int) (a2 a3 a4 : Int) (hl : l.length ≤ 1099511627776) : spec_ResourceInts.f a0 l a2 a3 a4 = some (resInts a0 l a2 a3 a4) := by
  unfold spec_ResourceInts.f
  rw [Option.bind_some, if_pos (by simp only [List.length_cons, List.length_nil]; omega)]
  rfl
theorem impl_ResourceInts_val (a0 : Int) (l : List Int) (a2 a3 a4 : Int) (hl : l.length ≤ 1099511627776) : impl_ResourceInts.f a0 l a2 a3 a4 = some (resInts a0 l a2 a3 a4) := by
  unfold impl_ResourceInts.f
  rw [Option.bind_some, if_pos (by simp only [List.length_cons, List.length_nil]; omega)]
  rfl
def isAddr (a b c : Int) : Bool := decide (1 ≤ a ∧ a ≤ 9) && (decide (0 ≤ b ∧ b ≤ 99) && decide (0 ≤ c ∧ c ≤ 99))
theorem spec_IsAddress_val (a b c : Int) : spec_IsAddress.f a b c = some (isAddr a b c) := by
  unfold spec_IsAddress.f isAddr
  simp only [l1In_val, Option.bind_some]
  by_cases h1 : 1 ≤ a ∧ a ≤ 9 <;> by_cases h2 : 0 ≤ b ∧ b ≤ 99 <;> simp [h1, h2]
theorem impl_IsAddress_val (a b c : Int) : impl_IsAddress.f a b c = some (isAddr a b c) := by
  unfold impl_IsAddress.f isAddr
  simp only [inRange_val, Option.bind_some]
  by_cases h1 : 1 ≤ a ∧ a ≤ 9 <;> by_cases h2 : 0 ≤ b ∧ b ≤ 99 <;> simp [h1, h2]
def okB (l : List Int) : Bool := l.all fun x => decide (0 ≤ x ∧ x ≤ 255)
theorem spec_l5Bytes_l0 (xs : List Int) (hn : xs.length ≤ 1099511627776) : ∀ (d i : Nat), i + d = xs.length → Ev (fun k => spec_l5Bytes.l0 k xs (i : Int)) (okB (xs.drop i)) := by
  intro d
  induction d with
  | zero =>
    intro i hd
    refine Ev.step (fun _ => spec_l5Bytes.l0.eq_2 ..) (ev_neg (by omega) (ev_of ?_))
    rw [List.drop_eq_nil_of_le (by omega)]
    rfl
  | succ d ih =>
    intro i hd
    have hlt : i < xs.length := by omega
    refine Ev.step (fun _ => spec_l5Bytes.l0.eq_2 ..) (ev_pos (by omega) (ev_pos (by omega) (ev_bind0 (l1In_val _ _ _) ?_)))
    rw [rd_at xs i hlt, List.drop_eq_getElem_cons hlt, okB, List.all_cons]
    by_cases h : 0 ≤ xs[i]'hlt ∧ xs[i]'hlt ≤ 255
    · refine ev_pos (decide_eq_true h) ?_
      rw [w64 (by omega) (by omega), decide_eq_true h, Bool.true_and]
      exact ih (i + 1) (by omega)
    · refine ev_neg (by simp only [decide_eq_true_eq]; exact h) (ev_of ?_)
      rw [decide_eq_false h, Bool.false_and]
theorem impl_allIn_l0 (xs : List Int) (hn : xs.length ≤ 1099511627776) : ∀ (d i : Nat), i + d = xs.length → Ev (fun k => impl_allIn.l0 k 0 255 xs (xs.length : Int) (i : Int)) (okB (xs.drop i)) := by
  intro d
  induction d with
  | zero =>
    intro i hd
    refine Ev.step (fun _ => impl_allIn.l0.eq_2 ..) (ev_neg (by omega) (ev_of ?_))
    rw [List.drop_eq_nil_of_le (by omega)]
    rfl
  | succ d ih =>
    intro i hd
    have hlt : i < xs.length := by omega
    refine Ev.step (fun _ => impl_allIn.l0.eq_2 ..) (ev_pos (by omega) (ev_pos (by omega) (ev_pos (by omega) (ev_bind0 (inRange_val _ _ _) ?_))))
    rw [rd_at xs i hlt, List.drop_eq_getElem_cons hlt, okB, List.all_cons]
    by_cases h : 0 ≤ xs[i]'hlt ∧ xs[i]'hlt ≤ 255
    · refine ev_pos (decide_eq_true h) ?_
      rw [w64 (by omega) (by omega), decide_eq_true h, Bool.true_and]
      exact ih (i + 1) (by omega)
    · refine ev_neg (by simp only [decide_eq_true_eq]; exact h) (ev_of ?_)
      rw [decide_eq_false h, Bool.false_and]
theorem spec_l5Bytes_ev (xs : List Int) (hn : xs.length ≤ 1099511627776) : Ev (fun k => spec_l5Bytes.f k xs) (okB xs) := by
  unfold spec_l5Bytes.f
  exact spec_l5Bytes_l0 xs hn xs.length 0 (by omega)
theorem impl_allIn_ev (xs : List Int) (hn : xs.length ≤ 1099511627776) : Ev (fun k => impl_allIn.f k xs 0 255) (okB xs) := by
  unfold impl_allIn.f
  exact impl_allIn_l0 xs hn xs.length 0 (by omega)
def zeroA (a b c : Int) : Bool := a == 0 && (b == 0 && (c == 0))
def isRes (k : Int) (l : List Int) (a b c : Int) : Bool :=
  if k = 1 ∨ k = 2 then decide (l.length ≤ 6) && (okB l && zeroA a b c)
  else if k = 3 then decide (l.length = 0) && isAddr a b c
  else if k = 4 then decide (l.length = 0) && zeroA a b c else false
theorem len0 (l : List Int) : ((l.length : Int) == 0) = decide (l.length = 0) := by
  rw [Bool.eq_iff_iff]
  simp
theorem okB_nil (l : List Int) (h : l.length = 0) : okB l = true := by
  rw [List.eq_nil_of_length_eq_zero h]
  rfl
theorem spec_IsResource_ev (k : Int) (l : List Int) (a b c : Int) (hn : l.length ≤ 1099511627776) : Ev (fun n => spec_IsResource.f n k l a b c) (isRes k l a b c) := by
  unfold spec_IsResource.f
  refine ev_bind0 (l1In_val _ _ _) ?_
  by_cases hk : 1 ≤ k ∧ k ≤ 4
  · refine ev_pos (decide_eq_true hk) (Ev.bind (spec_l5Bytes_ev l hn) ?_)
    by_cases ho : okB l = true
    · refine ev_pos ho (Ev.step (fun _ => spec_IsResource.j0.eq_2 ..) ?_)
      by_cases hl : l.length ≤ 6
      · refine ev_neg (by simp only [decide_eq_true_eq]; omega) ?_
        by_cases h3 : k = 3
        · refine ev_pos h3 (ev_bind0 (spec_IsAddress_val _ _ _) ?_)
          have e : isRes k l a b c = (decide (l.length = 0) && isAddr a b c) := by unfold isRes; rw [if_neg (by omega), if_pos h3]
          rw [e]
          by_cases ha : isAddr a b c = true
          · refine ev_pos ha (ev_of ?_)
            rw [len0, ha, Bool.and_true]
          · refine ev_neg ha (ev_of ?_)
            rw [Bool.eq_false_iff.2 ha, Bool.and_false]
        · refine ev_neg h3 ?_
          by_cases hz : zeroA a b c = true
          · refine ev_pos hz ?_
            by_cases h4 : k = 4
            · refine ev_pos h4 (ev_of ?_)
              unfold isRes
              rw [if_neg (by omega), if_neg h3, if_pos h4, hz, Bool.and_true, len0]
            · refine ev_neg h4 (ev_of ?_)
              unfold isRes
              rw [if_pos (by omega), hz, ho, decide_eq_true hl]
              rfl
          · refine ev_neg hz (ev_of ?_)
            unfold isRes
            have hz' := Bool.eq_false_iff.2 hz
            by_cases h4 : k = 4
            · rw [if_neg (by omega), if_neg h3, if_pos h4, hz', Bool.and_false]
            · rw [if_pos (by omega), hz', Bool.and_false, Bool.and_false]
      · refine ev_pos (decide_eq_true (by omega)) (ev_of ?_)
        unfold isRes
        rw [decide_eq_false hl, decide_eq_false (show ¬ l.length = 0 by omega)]
        simp
    · refine ev_neg ho (Ev.step (fun _ => spec_IsResource.j0.eq_2 ..) (ev_pos rfl (ev_of ?_)))
      have hne : ¬ l.length = 0 := fun h => ho (okB_nil l h)
      unfold isRes
      rw [Bool.eq_false_iff.2 ho, decide_eq_false hne]
      simp
  · refine ev_neg (by simp only [decide_eq_true_eq]; exact hk) (Ev.step (fun _ => spec_IsResource.j0.eq_2 ..) (ev_pos rfl (ev_of ?_)))
    unfold isRes
    rw [if_neg (by omega), if_neg (by omega), if_neg (by omega)]
theorem impl_IsResource_ev (k : Int) (l : List Int) (a b c : Int) (hn : l.length ≤ 1099511627776) : Ev (fun n => impl_IsResource.f n k l a b c) (isRes k l a b c) := by
  have body : ∀ q : Bool, (q = true ↔ k = 1 ∨ k = 2) → Ev (fun n => impl_IsResource.j0 n k q k l a b c) (isRes k l a b c) := by
    intro q hq
    refine Ev.step (fun _ => impl_IsResource.j0.eq_2 ..) ?_
    by_cases h : q = true
    · refine ev_pos h ?_
      have e : isRes k l a b c = (decide (l.length ≤ 6) && (okB l && zeroA a b c)) := by unfold isRes; rw [if_pos (hq.1 h)]
      rw [e]
      by_cases hl : l.length ≤ 6
      · refine ev_pos (by omega) (Ev.bind (impl_allIn_ev l hn) ?_)
        rw [decide_eq_true hl, Bool.true_and]
        by_cases ho : okB l = true
        · refine ev_pos ho (ev_of ?_)
          rw [ho, Bool.true_and]
          rfl
        · refine ev_neg ho (ev_of ?_)
          rw [Bool.eq_false_iff.2 ho, Bool.false_and]
      · refine ev_neg (by omega) (ev_of ?_)
        rw [decide_eq_false hl, Bool.false_and]
    · refine ev_neg h ?_
      have hk : ¬ (k = 1 ∨ k = 2) := fun hh => h (hq.2 hh)
      by_cases h3 : k = 3
      · have e : isRes k l a b c = (decide (l.length = 0) && isAddr a b c) := by unfold isRes; rw [if_neg hk, if_pos h3]
        rw [e]
        refine ev_pos h3 ?_
        by_cases hl : l.length = 0
        · refine ev_pos (by omega) (ev_bind0 (impl_IsAddress_val _ _ _) (ev_of ?_))
          rw [decide_eq_true hl, Bool.true_and]
        · refine ev_neg (by omega) (ev_of ?_)
          rw [decide_eq_false hl, Bool.false_and]
      · refine ev_neg h3 ?_
        by_cases h4 : k = 4
        · have e : isRes k l a b c = (decide (l.length = 0) && zeroA a b c) := by unfold isRes; rw [if_neg hk, if_neg h3, if_pos h4]
          rw [e]
          refine ev_pos h4 ?_
          by_cases hl : l.length = 0
          · refine ev_pos (by omega) (ev_of ?_)
            rw [decide_eq_true hl, Bool.true_and]
            rfl
          · refine ev_neg (by omega) (ev_of ?_)
            rw [decide_eq_false hl, Bool.false_and]
        · have e : isRes k l a b c = false := by unfold isRes; rw [if_neg hk, if_neg h3, if_neg h4]
          rw [e]
          exact ev_neg h4 (Ev.now _)
  unfold impl_IsResource.f
  by_cases h1 : k = 1
  · exact ev_pos h1 (body _ (by simp [h1]))
  · exact ev_neg h1 (body _ (by simp [h1]))
theorem tmod_twice (a b : Int) (h1 : 1 ≤ b) (h2 : b ≤ 1000000000000) : Int.tmod (wrap64 (Int.tmod a b + b)) b = a % b := by
  have hlt : Int.tmod a b < b := Int.tmod_lt_of_pos a (by omega)
  have hgt : -b < Int.tmod a b := by
    have h := Int.tmod_lt_of_pos (-a) (show 0 < b by omega)
    rw [Int.neg_tmod] at h
    omega
  rw [w64 (by omega) (by omega), Int.tmod_eq_emod_of_nonneg (by omega), Int.add_emod_right]
  have e : Int.tmod a b = a - b * (a.tdiv b) := Int.tmod_def a b
  rw [e, Int.sub_mul_emod_self_left]
theorem spec_Mod_val (a b : Int) (h1 : 1 ≤ b) (h2 : b ≤ 1000000000000) : spec_Mod.f a b = some (a % b) := by
  unfold spec_Mod.f
  rw [l1In_val]
  simp only [Option.bind_some, h1, h2, and_self, decide_true, if_true]
  rw [if_neg (by omega), tmod_twice a b h1 h2]
theorem impl_Mod_val (a b : Int) (h1 : 1 ≤ b) (h2 : b ≤ 1000000000000) : impl_Mod.f a b = some (a % b) := by
  unfold impl_Mod.f
  rw [inRange_val]
  simp only [Option.bind_some, h1, h2, and_self, decide_true, if_true]
  rw [if_neg (by omega), tmod_twice a b h1 h2]
def hstep (h v : Int) : Int := (h * 1000003 + v % 2147483647 + 13) % 2147483647
def hashOf (l : List Int) : Int := l.foldl hstep 11
theorem hstep_range (h v : Int) : 0 ≤ hstep h v ∧ hstep h v < 2147483647 := by unfold hstep; omega
theorem hstep_wrap (h v : Int) (h0 : 0 ≤ h) (h1 : h < 2147483647) : Int.tmod (wrap64 ((wrap64 ((wrap64 (h * 1000003)) + v % 2147483647)) + 13)) 2147483647 = hstep h v := by
  have e1 : wrap64 (h * 1000003) = h * 1000003 := w64 (by omega) (by omega)
  have e2 : wrap64 (h * 1000003 + v % 2147483647) = h * 1000003 + v % 2147483647 := w64 (by omega) (by omega)
  rw [e1, e2, w64 (by omega) (by omega), Int.tmod_eq_emod_of_nonneg (by omega)]
  rfl
theorem spec_Hash_l0 (xs : List Int) (hn : xs.length ≤ 4611686018427387904) : ∀ (d i : Nat) (h : Int), i + d = xs.length → 0 ≤ h → h < 2147483647 → Ev (fun k => spec_Hash.l0 k xs h (i : Int)) ((xs.drop i).foldl hstep h) := by
  intro d
  induction d with
  | zero =>
    intro i h hd h0 h1
    refine Ev.step (fun _ => spec_Hash.l0.eq_2 ..) (ev_neg (by omega) (ev_of ?_))
    rw [List.drop_eq_nil_of_le (by omega)]
    rfl
  | succ d ih =>
    intro i h hd h0 h1
    refine Ev.step (fun _ => spec_Hash.l0.eq_2 ..) (ev_pos (by omega) (ev_pos (by omega) (ev_bind0 (spec_Mod_val _ _ (by omega) (by omega)) ?_)))
    rw [hstep_wrap h _ h0 h1, w64 (by omega) (by omega), List.drop_eq_getElem_cons (show i < xs.length by omega), List.foldl_cons, ← rd_at xs i (by omega)]
    exact ih (i + 1) _ (by omega) (hstep_range _ _).1 (hstep_range _ _).2
theorem spec_Hash_ev (xs : List Int) (hn : xs.length ≤ 4611686018427387904) : Ev (fun k => spec_Hash.f k xs) (hashOf xs) := by
  unfold spec_Hash.f
  exact spec_Hash_l0 xs hn xs.length 0 11 (by omega) (by omega) (by omega)
theorem impl_Hash_l0 (xs : List Int) (hn : xs.length ≤ 4611686018427387904) : ∀ (d i : Nat) (h : Int), i + d = xs.length → 0 ≤ h → h < 2147483647 → Ev (fun k => impl_Hash.l0 k h xs (xs.length : Int) (i : Int)) ((xs.drop i).foldl hstep h) := by
  intro d
  induction d with
  | zero =>
    intro i h hd h0 h1
    refine Ev.step (fun _ => impl_Hash.l0.eq_2 ..) (ev_neg (by omega) (ev_of ?_))
    rw [List.drop_eq_nil_of_le (by omega)]
    rfl
  | succ d ih =>
    intro i h hd h0 h1
    refine Ev.step (fun _ => impl_Hash.l0.eq_2 ..) (ev_pos (by omega) (ev_pos (by omega) (ev_pos (by omega) (ev_bind0 (impl_Mod_val _ _ (by omega) (by omega)) ?_))))
    rw [hstep_wrap h _ h0 h1, w64 (by omega) (by omega), List.drop_eq_getElem_cons (show i < xs.length by omega), List.foldl_cons, ← rd_at xs i (by omega)]
    exact ih (i + 1) _ (by omega) (hstep_range _ _).1 (hstep_range _ _).2
theorem impl_Hash_ev (xs : List Int) (hn : xs.length ≤ 4611686018427387904) : Ev (fun k => impl_Hash.f k xs) (hashOf xs) := by
  unfold impl_Hash.f
  exact impl_Hash_l0 xs hn xs.length 0 11 (by omega) (by omega) (by omega)
theorem spec_DigestOf_ev (a0 : Int) (l : List Int) (a2 a3 a4 : Int) (hl : l.length ≤ 1099511627776) : Ev (fun k => spec_DigestOf.f k a0 l a2 a3 a4) (hashOf (resInts a0 l a2 a3 a4)) := by
  unfold spec_DigestOf.f
  exact ev_bind0 (spec_ResourceInts_val a0 l a2 a3 a4 hl) (Ev.bind (spec_Hash_ev _ (by rw [resInts_len]; omega)) (Ev.now _))
theorem impl_DigestOf_ev (a0 : Int) (l : List Int) (a2 a3 a4 : Int) (hl : l.length ≤ 1099511627776) : Ev (fun k => impl_DigestOf.f k a0 l a2 a3 a4) (hashOf (resInts a0 l a2 a3 a4)) := by
  unfold impl_DigestOf.f
  exact ev_bind0 (impl_ResourceInts_val a0 l a2 a3 a4 hl) (Ev.bind (impl_Hash_ev _ (by rw [resInts_len]; omega)) (Ev.now _))
theorem big_val (l : List Int) : laws_big.f l = some (decide ((l.length : Int) > 1048576)) := rfl
theorem l1New_l0 (l : List Int) (hl : l.length ≤ 1099511627776) : ∀ (d i : Nat) (h : Int), i + d = l.length → ∃ h', Ev (fun k => spec_l1New.l0 k l h (i : Int)) (l, 0, h') := by
  intro d
  induction d with
  | zero =>
    intro i h hd
    exact ⟨h, Ev.step (fun _ => spec_l1New.l0.eq_2 ..) (ev_neg (by omega) (Ev.now _))⟩
  | succ d ih =>
    intro i h hd
    by_cases h4 : (i : Int) < 4000
    · obtain ⟨h', e⟩ := ih (i + 1) _ (by omega)
      refine ⟨h', Ev.step (fun _ => spec_l1New.l0.eq_2 ..) (ev_pos (by omega) (ev_pos h4 (ev_pos (by omega) ?_)))⟩
      rw [w64 (x := (i : Int) + 1) (by omega) (by omega)]
      exact e
    · exact ⟨h, Ev.step (fun _ => spec_l1New.l0.eq_2 ..) (ev_pos (by omega) (ev_neg h4 (Ev.now _)))⟩
theorem l1New_ev (l : List Int) (hl : l.length ≤ 1099511627776) : ∃ h, Ev (fun k => spec_l1New.f k l) (l, 0, h) := by
  unfold spec_l1New.f
  exact l1New_l0 l hl l.length 0 _ (by omega)
theorem and255 (y : Int) : 0 ≤ Go.bits .and .i64 y 255 ∧ Go.bits .and .i64 y 255 ≤ 255 := by
  have h : (BitVec.ofInt 64 y &&& BitVec.ofInt 64 255).toNat ≤ 255 := by
    rw [BitVec.toNat_and]
    exact Nat.le_trans Nat.and_le_right (by decide)
  have e : Go.bits .and .i64 y 255 = IntKind.i64.wrap ((BitVec.ofInt 64 y &&& BitVec.ofInt 64 255).toNat : Int) := rfl
  rw [e, IntKind.wrap_i64]
  omega
theorem l1Byte_some (b : List Int) (hb : b.length ≤ 1099511627776) (i h : Int) (h0 : 0 ≤ i) (h1 : i ≤ 1099511627776) : ∃ x i' h', spec_l1Byte.f b i h = some (x, i', h') ∧ 0 ≤ x ∧ x ≤ 255 ∧ 0 ≤ i' ∧ i' ≤ 1099511627776 := by
  unfold spec_l1Byte.f
  by_cases c : i < (b.length : Int)
  · rw [if_pos c, if_pos h0, w64 (x := i + 1) (by omega) (by omega)]
    exact ⟨_, _, _, rfl, (and255 _).1, (and255 _).2, by omega, by omega⟩
  · rw [if_neg c]
    exact ⟨_, _, _, rfl, (and255 _).1, (and255 _).2, h0, h1⟩
theorem l1Below_some (b : List Int) (hb : b.length ≤ 1099511627776) (i h n : Int) (h0 : 0 ≤ i) (h1 : i ≤ 1099511627776) : ∃ x i' h', spec_l1Below.f b i h n = some (x, i', h') ∧ 0 ≤ x ∧ (0 < n → x < n) ∧ (n ≤ 0 → x = 0) ∧ 0 ≤ i' ∧ i' ≤ 1099511627776 := by
  unfold spec_l1Below.f
  by_cases c : n ≤ 0
  · rw [if_pos c]
    exact ⟨_, _, _, rfl, by omega, fun h => by omega, fun _ => rfl, h0, h1⟩
  rw [if_neg c]
  by_cases c2 : n ≤ 256
  · rw [if_pos c2]
    obtain ⟨x, i', h', e, hx0, hx1, hi0, hi1⟩ := l1Byte_some b hb i h h0 h1
    rw [e, Option.bind_some, if_neg (by omega)]
    refine ⟨_, _, _, rfl, ?_, fun _ => ?_, fun h => by omega, hi0, hi1⟩
    · rw [Int.tmod_eq_emod_of_nonneg hx0]; exact Int.emod_nonneg _ (by omega)
    · rw [Int.tmod_eq_emod_of_nonneg hx0]; exact Int.emod_lt_of_pos _ (by omega)
  · rw [if_neg c2]
    obtain ⟨x, i', h', e, hx0, hx1, hi0, hi1⟩ := l1Byte_some b hb i h h0 h1
    rw [e, Option.bind_some]
    obtain ⟨y, i2, h2, e2, hy0, hy1, hi20, hi21⟩ := l1Byte_some b hb i' h' hi0 hi1
    rw [e2, Option.bind_some]
    obtain ⟨z, i3, h3, e3, hz0, hz1, hi30, hi31⟩ := l1Byte_some b hb i2 h2 hi20 hi21
    rw [e3, Option.bind_some, if_neg (by omega)]
    have ew : wrap64 ((wrap64 ((wrap64 (x * 65536)) + (wrap64 (y * 256)))) + z) = x * 65536 + y * 256 + z := by
      rw [w64 (x := x * 65536) (by omega) (by omega), w64 (x := y * 256) (by omega) (by omega), w64 (x := x * 65536 + y * 256) (by omega) (by omega), w64 (by omega) (by omega)]
    refine ⟨_, _, _, rfl, ?_, fun _ => ?_, fun h => by omega, hi30, hi31⟩
    · rw [ew, Int.tmod_eq_emod_of_nonneg (by omega)]; exact Int.emod_nonneg _ (by omega)
    · rw [ew, Int.tmod_eq_emod_of_nonneg (by omega)]; exact Int.emod_lt_of_pos _ (by omega)
theorem l1Once_some (b : List Int) (hb : b.length ≤ 1099511627776) (i h n : Int) (h0 : 0 ≤ i) (h1 : i ≤ 1099511627776) : ∃ x i' h', spec_l1Once.f b i h n = some (x, i', h') ∧ 0 ≤ i' ∧ i' ≤ 1099511627776 := by
  unfold spec_l1Once.f
  obtain ⟨x, i', h', e, _, _, _, hi0, hi1⟩ := l1Below_some b hb i h n h0 h1
  rw [e, Option.bind_some]
  exact ⟨_, _, _, rfl, hi0, hi1⟩
theorem l1Int_some (b : List Int) (hb : b.length ≤ 1099511627776) (i h : Int) (l : List Int) (hl : 0 < l.length) (h0 : 0 ≤ i) (h1 : i ≤ 1099511627776) : ∃ x i' h', spec_l1Int.f b i h l = some (x, i', h') ∧ x ∈ l ∧ 0 ≤ i' ∧ i' ≤ 1099511627776 := by
  unfold spec_l1Int.f
  obtain ⟨x, i', h', e, hx0, hx1, _, hi0, hi1⟩ := l1Below_some b hb i h (l.length : Int) h0 h1
  have hx := hx1 (by omega)
  rw [e, Option.bind_some, if_pos hx0, if_pos hx]
  refine ⟨_, _, _, rfl, ?_, hi0, hi1⟩
  obtain ⟨j, rfl⟩ := Int.eq_ofNat_of_zero_le hx0
  show rd l (j : Int) ∈ l
  rw [rd_at l j (by omega)]
  exact List.getElem_mem _
theorem l4Draw_some (b : List Int) (hb : b.length ≤ 1099511627776) (i h : Int) (h0 : 0 ≤ i) (h1 : i ≤ 1099511627776) : ∃ x y z i' h', spec_l4Draw.f b i h = some (x, y, z, i', h') ∧ (1 ≤ x ∧ x ≤ 3) ∧ (0 ≤ y ∧ y ≤ 2) ∧ (0 ≤ z ∧ z ≤ 2) ∧ 0 ≤ i' ∧ i' ≤ 1099511627776 := by
  unfold spec_l4Draw.f
  obtain ⟨x, i2, h2, e2, hx0, hx1, _, hi20, hi21⟩ := l1Below_some b hb i h 3 h0 h1
  obtain ⟨y, i3, h3, e3, hy0, hy1, _, hi30, hi31⟩ := l1Below_some b hb i2 h2 3 hi20 hi21
  obtain ⟨z, i4, h4, e4, hz0, hz1, _, hi40, hi41⟩ := l1Below_some b hb i3 h3 3 hi30 hi31
  have hx := hx1 (by omega)
  have hy := hy1 (by omega)
  have hz := hz1 (by omega)
  rw [e2, Option.bind_some, e3, Option.bind_some, e4, Option.bind_some, w64 (x := 1 + x) (by omega) (by omega)]
  exact ⟨_, _, _, _, _, rfl, by omega, by omega, by omega, hi40, hi41⟩
theorem l5Body_l0 (b : List Int) (hb : b.length ≤ 1099511627776) : ∀ (d : Nat) (out : List Int) (i h : Int), out.length + d ≤ 100 → (∀ x ∈ out, 0 ≤ x ∧ x ≤ 8) → 0 ≤ i → i ≤ 1099511627776 →
    ∃ (r : List Int) (i' h' : Int), Ev (fun k => spec_l5Body.l0 k out (d : Int) b i h) (r, i', h') ∧ r.length ≤ out.length + d ∧ (∀ x ∈ r, 0 ≤ x ∧ x ≤ 8) ∧ 0 ≤ i' ∧ i' ≤ 1099511627776 := by
  intro d
  induction d with
  | zero =>
    intro out i h hl hw h0 h1
    exact ⟨out, i, h, Ev.step (fun _ => spec_l5Body.l0.eq_2 ..) (ev_neg (by omega) (Ev.now _)), by omega, hw, h0, h1⟩
  | succ d ih =>
    intro out i h hl hw h0 h1
    obtain ⟨x, i2, h2, e2, hx0, hx1, _, hi0, hi1⟩ := l1Below_some b hb i h 9 h0 h1
    have hx := hx1 (by omega)
    obtain ⟨r, i', h', e, hr, hrw, hi20, hi21⟩ := ih (out ++ [x]) i2 h2 (by rw [List.length_append, List.length_singleton]; omega) (fun y hy => by
      rcases List.mem_append.1 hy with hy | hy
      · exact hw y hy
      · have := List.mem_singleton.1 hy
        omega) hi0 hi1
    rw [List.length_append, List.length_singleton] at hr
    refine ⟨r, i', h', Ev.step (fun _ => spec_l5Body.l0.eq_2 ..) (ev_pos (by omega) (ev_bind0 e2 (ev_pos (by omega) ?_))), by omega, hrw, hi20, hi21⟩
    rw [w64 (by omega) (by omega), show ((d + 1 : Nat) : Int) - 1 = (d : Int) by omega]
    exact e
theorem l5Body_ev (b : List Int) (hb : b.length ≤ 1099511627776) (i h : Int) (h0 : 0 ≤ i) (h1 : i ≤ 1099511627776) :
    ∃ (r : List Int) (i' h' : Int), Ev (fun k => spec_l5Body.f k b i h) (r, i', h') ∧ r.length ≤ 4 ∧ (∀ x ∈ r, 0 ≤ x ∧ x ≤ 8) ∧ 0 ≤ i' ∧ i' ≤ 1099511627776 := by
  unfold spec_l5Body.f
  obtain ⟨x, i2, h2, e2, hx0, hx1, _, hi0, hi1⟩ := l1Below_some b hb i h 5 h0 h1
  have hx := hx1 (by omega)
  obtain ⟨r, i', h', e, hr, hrw, hi20, hi21⟩ := l5Body_l0 b hb x.toNat [] i2 h2 (by simp only [List.length_nil]; omega) (fun y hy => by simp at hy) hi0 hi1
  rw [Int.toNat_of_nonneg hx0] at e
  rw [List.length_nil] at hr
  exact ⟨r, i', h', ev_bind0 e2 e, by omega, hrw, hi20, hi21⟩
theorem l5Draw_ev (b : List Int) (hb : b.length ≤ 1099511627776) (i h : Int) (h0 : 0 ≤ i) (h1 : i ≤ 1099511627776) :
    ∃ (kd : Int) (r : List Int) (x y z i' h' : Int), Ev (fun k => spec_l5Draw.f k b i h) (kd, r, x, y, z, i', h') ∧ (1 ≤ kd ∧ kd ≤ 4) ∧ r.length ≤ 4 ∧ (∀ u ∈ r, 0 ≤ u ∧ u ≤ 8) ∧
      ((kd = 3 ∧ r = [] ∧ (1 ≤ x ∧ x ≤ 3) ∧ (0 ≤ y ∧ y ≤ 2) ∧ (0 ≤ z ∧ z ≤ 2)) ∨ (kd ≠ 3 ∧ x = 0 ∧ y = 0 ∧ z = 0 ∧ (kd = 4 → r = []))) ∧ 0 ≤ i' ∧ i' ≤ 1099511627776 := by
  unfold spec_l5Draw.f
  obtain ⟨q, i2, h2, e2, hq0, hq1, _, hi0, hi1⟩ := l1Below_some b hb i h 6 h0 h1
  by_cases c0 : q = 0
  · obtain ⟨x, y, z, i3, h3, e3, hx, hy, hz, hi30, hi31⟩ := l4Draw_some b hb i2 h2 hi0 hi1
    exact ⟨3, [], x, y, z, i3, h3, ev_bind0 e2 (ev_pos c0 (ev_bind0 e3 (Ev.now _))), by omega, by simp, fun u hu => by simp at hu, .inl ⟨rfl, rfl, hx, hy, hz⟩, hi30, hi31⟩
  by_cases c1 : q = 1
  · exact ⟨4, [], 0, 0, 0, i2, h2, ev_bind0 e2 (ev_neg c0 (ev_pos c1 (Ev.now _))), by omega, by simp, fun u hu => by simp at hu, .inr ⟨by omega, rfl, rfl, rfl, fun _ => rfl⟩, hi0, hi1⟩
  obtain ⟨t, i3, h3, e3, ht0, ht1, _, hi30, hi31⟩ := l1Below_some b hb i2 h2 2 hi0 hi1
  have ht := ht1 (by omega)
  obtain ⟨r, i4, h4, e4, hr, hw, hi40, hi41⟩ := l5Body_ev b hb i3 h3 hi30 hi31
  refine ⟨1 + t, r, 0, 0, 0, i4, h4, ev_bind0 e2 (ev_neg c0 (ev_neg c1 (ev_bind0 e3 (Ev.bind e4 (ev_of ?_))))), by omega, hr, hw, .inr ⟨by omega, rfl, rfl, rfl, fun h => by omega⟩, hi40, hi41⟩
  rw [w64 (x := 1 + t) (by omega) (by omega)]
theorem l4Raw_some (b : List Int) (hb : b.length ≤ 1099511627776) (i h : Int) (h0 : 0 ≤ i) (h1 : i ≤ 1099511627776) : ∃ x i' h', spec_l4Raw.f b i h = some (x, i', h') ∧ (-9223372036854775808 ≤ x ∧ x ≤ 9223372036854775807) ∧ 0 ≤ i' ∧ i' ≤ 1099511627776 := by
  unfold spec_l4Raw.f
  obtain ⟨y, i2, h2, e2, hm, hi20, hi21⟩ := l1Int_some b hb i h [(-1), 0, 9, 10, 99, 100, 9223372036854775807, (-9223372036854775808)] (by decide) h0 h1
  rw [e2, Option.bind_some]
  simp only [List.mem_cons, List.not_mem_nil, or_false] at hm
  exact ⟨_, _, _, rfl, by show _ ≤ y ∧ y ≤ _; omega, hi20, hi21⟩
theorem l4Any_some (b : List Int) (hb : b.length ≤ 1099511627776) (i h : Int) (h0 : 0 ≤ i) (h1 : i ≤ 1099511627776) : ∃ x y z i' h', spec_l4Any.f b i h = some (x, y, z, i', h') ∧ (-9223372036854775808 ≤ x ∧ x ≤ 9223372036854775807) ∧ (-9223372036854775808 ≤ y ∧ y ≤ 9223372036854775807) ∧ (-9223372036854775808 ≤ z ∧ z ≤ 9223372036854775807) ∧ 0 ≤ i' ∧ i' ≤ 1099511627776 := by
  unfold spec_l4Any.f
  obtain ⟨x, y, z, i2, h2, e, hx, hy, hz, hi0, hi1⟩ := l4Draw_some b hb i h h0 h1
  obtain ⟨q, i3, h3, e3, _, _, _, hi30, hi31⟩ := l1Below_some b hb i2 h2 9 hi0 hi1
  obtain ⟨r, i4, h4, e4, hr, hi40, hi41⟩ := l4Raw_some b hb i3 h3 hi30 hi31
  rw [e, Option.bind_some, e3, Option.bind_some]
  by_cases c0 : q = 0
  · rw [if_pos c0, e4, Option.bind_some]
    exact ⟨_, _, _, _, _, rfl, hr, by show _ ≤ y ∧ y ≤ _; omega, by show _ ≤ z ∧ z ≤ _; omega, hi40, hi41⟩
  rw [if_neg c0]
  by_cases c1 : q = 1
  · rw [if_pos c1, e4, Option.bind_some]
    exact ⟨_, _, _, _, _, rfl, by show _ ≤ x ∧ x ≤ _; omega, hr, by show _ ≤ z ∧ z ≤ _; omega, hi40, hi41⟩
  rw [if_neg c1]
  by_cases c2 : q = 2
  · rw [if_pos c2, e4, Option.bind_some]
    exact ⟨_, _, _, _, _, rfl, by show _ ≤ x ∧ x ≤ _; omega, by show _ ≤ y ∧ y ≤ _; omega, hr, hi40, hi41⟩
  · rw [if_neg c2]
    exact ⟨_, _, _, _, _, rfl, by show _ ≤ x ∧ x ≤ _; omega, by show _ ≤ y ∧ y ≤ _; omega, by show _ ≤ z ∧ z ≤ _; omega, hi30, hi31⟩
theorem l5Any_ev (b : List Int) (hb : b.length ≤ 1099511627776) (i h : Int) (h0 : 0 ≤ i) (h1 : i ≤ 1099511627776) :
    ∃ (kd : Int) (r : List Int) (x y z i' h' : Int), Ev (fun k => spec_l5Any.f k b i h) (kd, r, x, y, z, i', h') ∧ r.length ≤ 7 ∧ 0 ≤ i' ∧ i' ≤ 1099511627776 := by
  unfold spec_l5Any.f
  obtain ⟨kd, r, x, y, z, i2, h2, e, _, hr, _, _, hi0, hi1⟩ := l5Draw_ev b hb i h h0 h1
  obtain ⟨q, i3, h3, e3, _, _, _, hi30, hi31⟩ := l1Below_some b hb i2 h2 9 hi0 hi1
  by_cases c0 : q = 0
  · obtain ⟨u, i4, h4, e4, _, hi40, hi41⟩ := l1Int_some b hb i3 h3 [0, 5, 3, 4] (by decide) hi30 hi31
    exact ⟨_, _, _, _, _, _, _, Ev.bind e (ev_bind0 e3 (ev_pos c0 (ev_bind0 e4 (Ev.now _)))), by show r.length ≤ _; omega, hi40, hi41⟩
  by_cases c1 : q = 1
  · obtain ⟨u, i4, h4, e4, _, hi40, hi41⟩ := l1Int_some b hb i3 h3 [(-1), 255, 256] (by decide) hi30 hi31
    exact ⟨_, _, _, _, _, _, _, Ev.bind e (ev_bind0 e3 (ev_neg c0 (ev_pos c1 (ev_bind0 e4 (ev_pos (show r.length < _ by omega) (Ev.now _)))))), by show (r ++ [u]).length ≤ _; rw [List.length_append, List.length_singleton]; omega, hi40, hi41⟩
  by_cases c2 : q = 2
  · exact ⟨_, _, _, _, _, _, _, Ev.bind e (ev_bind0 e3 (ev_neg c0 (ev_neg c1 (ev_pos c2 (Ev.now _))))), by show ([1, 2, 3, 4, 5, 6, 7] : List Int).length ≤ _; simp, hi30, hi31⟩
  by_cases c3 : q = 3
  · obtain ⟨u, v, s, i4, h4, e4, _, _, _, hi40, hi41⟩ := l4Any_some b hb i3 h3 hi30 hi31
    exact ⟨_, _, _, _, _, _, _, Ev.bind e (ev_bind0 e3 (ev_neg c0 (ev_neg c1 (ev_neg c2 (ev_pos c3 (ev_bind0 e4 (Ev.now _))))))), by show r.length ≤ _; omega, hi40, hi41⟩
  · exact ⟨_, _, _, _, _, _, _, Ev.bind e (ev_bind0 e3 (ev_neg c0 (ev_neg c1 (ev_neg c2 (ev_neg c3 (Ev.now _)))))), by show r.length ≤ _; omega, hi30, hi31⟩
theorem getD_at {α : Type} (xs : List α) (z : α) (i : Nat) (h : i < xs.length) : xs.getD ((i : Int)).toNat z = xs[i] := by
  rw [Int.toNat_natCast, List.getD_eq_getElem?_getD, List.getElem?_eq_getElem h]
  rfl
theorem rd1Part (xs : List S63) (i : Nat) (h : i < xs.length) : rd_T63 xs (i : Int) = xs[i] := getD_at xs z63 i h
def ls1Part (x : S63) : List Int := x.f1.f1
theorem chainI (A : Nat → Option Bool) (B : Nat → Option Int) (C : Option Bool) (N : Nat → Option Bool) (f h : Int) (q u b : Bool) (hA : Ev A q) (hB : Ev B h) (hC : C = some u) (hN : Ev N b) : Ev (fun k => (A k).bind fun t => (if t = true then ((B k).bind fun t1 => (if t1 = f then (C.bind fun t2 => (if t2 = true then (N k) else (some false))) else (some false))) else (some false))) ((q && (decide (h = f) && u)) && b) := by
  cases q with
  | false => exact Ev.bind hA (ev_neg (by decide) (Ev.now _))
  | true =>
    refine Ev.bind hA (ev_pos rfl (Ev.bind hB ?_))
    by_cases e : h = f
    · rw [decide_eq_true e]
      refine ev_pos e (ev_bind0 hC ?_)
      cases u with
      | false => exact ev_neg (by decide) (Ev.now _)
      | true => exact ev_pos rfl hN
    · rw [decide_eq_false e]
      exact ev_neg e (Ev.now _)
theorem chainS (A : Nat → Option Bool) (B : Nat → Option Int) (C : Option Bool) (N : Nat → Option Bool) (f h : Int) (q u b : Bool) (hA : Ev A q) (hB : Ev B h) (hC : C = some u) (hN : Ev N b) : Ev (fun k => (A k).bind fun t => (if t = true then ((B k).bind fun t1 => (if f = t1 then (C.bind fun t2 => (if t2 = true then (N k) else (some false))) else (some false))) else (some false))) ((q && (decide (h = f) && u)) && b) := by
  cases q with
  | false => exact Ev.bind hA (ev_neg (by decide) (Ev.now _))
  | true =>
    refine Ev.bind hA (ev_pos rfl (Ev.bind hB ?_))
    by_cases e : h = f
    · rw [decide_eq_true e]
      refine ev_pos e.symm (ev_bind0 hC ?_)
      cases u with
      | false => exact ev_neg (by decide) (Ev.now _)
      | true => exact ev_pos rfl hN
    · rw [decide_eq_false e]
      exact ev_neg (fun x => e x.symm) (Ev.now _)
def okPart (x : S63) : Bool := isRes x.f1.f0 x.f1.f1 x.f1.f2.f0 x.f1.f2.f1 x.f1.f2.f2 && (decide (hashOf (resInts x.f1.f0 x.f1.f1 x.f1.f2.f0 x.f1.f2.f1 x.f1.f2.f2) = x.f0) && decide (1 ≤ x.f2 ∧ x.f2 ≤ 1000))
theorem okS (x : S63) (hn : (ls1Part x).length ≤ 1048576) (N : Nat → Option Bool) (b : Bool) (hN : Ev N b) : Ev (fun k => (spec_IsResource.f k x.f1.f0 x.f1.f1 x.f1.f2.f0 x.f1.f2.f1 x.f1.f2.f2).bind fun t => (if t = true then ((spec_DigestOf.f k x.f1.f0 x.f1.f1 x.f1.f2.f0 x.f1.f2.f1 x.f1.f2.f2).bind fun t1 => (if x.f0 = t1 then ((spec_l1In.f x.f2 1 1000).bind fun t2 => (if t2 = true then (N k) else (some false))) else (some false))) else (some false))) (okPart x && b) :=
  chainS (fun k => spec_IsResource.f k x.f1.f0 x.f1.f1 x.f1.f2.f0 x.f1.f2.f1 x.f1.f2.f2) (fun k => spec_DigestOf.f k x.f1.f0 x.f1.f1 x.f1.f2.f0 x.f1.f2.f1 x.f1.f2.f2) (spec_l1In.f x.f2 1 1000) N x.f0 _ _ _ b (spec_IsResource_ev _ _ _ _ _ (by unfold ls1Part at hn; omega)) (spec_DigestOf_ev _ _ _ _ _ (by unfold ls1Part at hn; omega)) (l1In_val _ _ _) hN
theorem okI (x : S63) (hn : (ls1Part x).length ≤ 1048576) (N : Nat → Option Bool) (b : Bool) (hN : Ev N b) : Ev (fun k => (impl_IsResource.f k x.f1.f0 x.f1.f1 x.f1.f2.f0 x.f1.f2.f1 x.f1.f2.f2).bind fun t => (if t = true then ((impl_DigestOf.f k x.f1.f0 x.f1.f1 x.f1.f2.f0 x.f1.f2.f1 x.f1.f2.f2).bind fun t1 => (if t1 = x.f0 then ((impl_InRange.f x.f2 1 1000).bind fun t2 => (if t2 = true then (N k) else (some false))) else (some false))) else (some false))) (okPart x && b) :=
  chainI (fun k => impl_IsResource.f k x.f1.f0 x.f1.f1 x.f1.f2.f0 x.f1.f2.f1 x.f1.f2.f2) (fun k => impl_DigestOf.f k x.f1.f0 x.f1.f1 x.f1.f2.f0 x.f1.f2.f1 x.f1.f2.f2) (impl_InRange.f x.f2 1 1000) N x.f0 _ _ _ b (impl_IsResource_ev _ _ _ _ _ (by unfold ls1Part at hn; omega)) (impl_DigestOf_ev _ _ _ _ _ (by unfold ls1Part at hn; omega)) (inRange_val _ _ _) hN
def Chain (xs : List S63) (i : Nat) : Prop := ∀ j, i ≤ j → (h : j < xs.length) → okPart xs[j] = true ∧ (0 < j → (xs[j - 1]'(by omega)).f0 < xs[j].f0)
theorem Chain.done (xs : List S63) (i : Nat) (h : xs.length ≤ i) : Chain xs i := fun j hj hl => by omega
theorem Chain.step (xs : List S63) (i : Nat) (h : i < xs.length) : Chain xs i ↔ (okPart xs[i] = true ∧ (0 < i → (xs[i - 1]'(by omega)).f0 < xs[i].f0)) ∧ Chain xs (i + 1) :=
  ⟨fun H => ⟨H i (Nat.le_refl _) h, fun j hj hl => H j (by omega) hl⟩, fun H j hj hl => by
    by_cases e : j = i
    · subst e
      exact H.1
    · exact H.2 j (by omega) hl⟩
theorem store_l0 (xs : List S63) (hn : xs.length ≤ 1048576) (hi : ∀ x ∈ xs, (ls1Part x).length ≤ 1048576) : ∀ (d i : Nat), i + d = xs.length → ∃ b : Bool, Ev (fun k => spec_IsStore.l0 k xs (i : Int)) (b && decide ((xs.length : Int) ≤ 30)) ∧ Ev (fun k => impl_IsStore.l0 k xs xs (xs.length : Int) (i : Int)) b ∧ (b = true ↔ Chain xs i) := by
  intro d
  induction d with
  | zero =>
    intro i hd
    exact ⟨true, Ev.step (fun _ => spec_IsStore.l0.eq_2 ..) (ev_neg (by omega) (Ev.now _)), Ev.step (fun _ => impl_IsStore.l0.eq_2 ..) (ev_neg (by omega) (Ev.now _)), fun _ => Chain.done xs i (by omega), fun _ => rfl⟩
  | succ d ih =>
    intro i hd
    have hx : i < xs.length := by omega
    have hl := hi _ (List.getElem_mem hx)
    obtain ⟨b, s1, s2, s3⟩ := ih (i + 1) (by omega)
    have w1 : wrap64 ((i : Int) + 1) = ((i + 1 : Nat) : Int) := by rw [w64 (by omega) (by omega)]; rfl
    by_cases h0 : i = 0
    · subst h0
      refine ⟨okPart xs[0] && b, ?_, ?_, ?_⟩
      · refine Ev.step (fun _ => spec_IsStore.l0.eq_2 ..) (ev_pos (by omega) (ev_pos (by omega) ?_))
        rw [rd1Part xs 0 hx, w1, Bool.and_assoc]
        exact okS _ hl _ _ (ev_neg (by omega) s1)
      · refine Ev.step (fun _ => impl_IsStore.l0.eq_2 ..) (ev_pos (by omega) (ev_pos (by omega) (ev_pos (by omega) (ev_neg (by omega) ?_))))
        rw [rd1Part xs 0 hx, w1]
        exact okI _ hl _ _ s2
      · rw [Chain.step xs 0 hx, Bool.and_eq_true, s3]
        exact ⟨fun h => ⟨⟨h.1, fun h0 => by omega⟩, h.2⟩, fun h => ⟨h.1.1, h.2⟩⟩
    · have hp : i - 1 < xs.length := by omega
      have w0 : wrap64 ((i : Int) - 1) = ((i - 1 : Nat) : Int) := by rw [w64 (by omega) (by omega)]; omega
      by_cases hs : (xs[i - 1]).f0 ≥ (xs[i]).f0
      · refine ⟨false, ?_, ?_, ?_⟩
        · refine Ev.step (fun _ => spec_IsStore.l0.eq_2 ..) (ev_pos (by omega) (ev_pos (by omega) ?_))
          rw [rd1Part xs i hx, w1, w0, rd1Part xs (i - 1) hp]
          have := okS _ hl (fun k => if (i : Int) > 0 then (if 0 ≤ (((i - 1 : Nat) : Int)) then (if (((i - 1 : Nat) : Int)) < (xs.length : Int) then (if (xs[i - 1]).f0 ≥ (xs[i]).f0 then (some false) else (spec_IsStore.l0 k xs ((i + 1 : Nat) : Int))) else (none)) else (none)) else (spec_IsStore.l0 k xs ((i + 1 : Nat) : Int))) false (ev_pos (by omega) (ev_pos (by omega) (ev_pos (by omega) (ev_pos hs (Ev.now _)))))
          rw [Bool.and_false] at this
          exact this
        · refine Ev.step (fun _ => impl_IsStore.l0.eq_2 ..) (ev_pos (by omega) (ev_pos (by omega) (ev_pos (by omega) (ev_pos (by omega) ?_))))
          rw [rd1Part xs i hx, w0, rd1Part xs (i - 1) hp]
          exact ev_pos (by omega) (ev_pos (by omega) (ev_pos hs (Ev.now _)))
        · rw [Chain.step xs i hx]
          exact ⟨fun h => (by cases h), fun h => by have := h.1.2 (by omega); omega⟩
      · refine ⟨okPart xs[i] && b, ?_, ?_, ?_⟩
        · refine Ev.step (fun _ => spec_IsStore.l0.eq_2 ..) (ev_pos (by omega) (ev_pos (by omega) ?_))
          rw [rd1Part xs i hx, w1, w0, rd1Part xs (i - 1) hp, Bool.and_assoc]
          exact okS _ hl _ _ (ev_pos (by omega) (ev_pos (by omega) (ev_pos (by omega) (ev_neg hs s1))))
        · refine Ev.step (fun _ => impl_IsStore.l0.eq_2 ..) (ev_pos (by omega) (ev_pos (by omega) (ev_pos (by omega) (ev_pos (by omega) ?_))))
          rw [rd1Part xs i hx, w0, w1, rd1Part xs (i - 1) hp]
          exact ev_pos (by omega) (ev_pos (by omega) (ev_neg hs (okI _ hl _ _ s2)))
        · rw [Chain.step xs i hx, Bool.and_eq_true, s3]
          exact ⟨fun h => ⟨⟨h.1, fun _ => by omega⟩, h.2⟩, fun h => ⟨h.1.1, h.2⟩⟩
def Good (xs : List S63) : Prop := xs.length ≤ 30 ∧ Chain xs 0
theorem store_ev (xs : List S63) (hn : xs.length ≤ 1048576) (hi : ∀ x ∈ xs, (ls1Part x).length ≤ 1048576) : ∃ b : Bool, Ev (fun k => spec_IsStore.f k xs) b ∧ Ev (fun k => impl_IsStore.f k xs) b ∧ (b = true ↔ Good xs) := by
  unfold spec_IsStore.f impl_IsStore.f
  obtain ⟨b, s1, s2, s3⟩ := store_l0 xs hn hi xs.length 0 (by omega)
  by_cases h : (xs.length : Int) > 30
  · rw [decide_eq_false (show ¬ (xs.length : Int) ≤ 30 by omega), Bool.and_false] at s1
    exact ⟨false, s1, ev_pos h (Ev.now _), fun h => (by cases h), fun h' => by have := h'.1; omega⟩
  · rw [decide_eq_true (show (xs.length : Int) ≤ 30 by omega), Bool.and_true] at s1
    exact ⟨b, s1, ev_neg h s2, fun hb => ⟨by omega, s3.1 hb⟩, fun h' => s3.2 h'.2⟩
theorem l5Copy_val (a : Int) (l : List Int) (b c d : Int) (hl : l.length ≤ 1048576) : spec_l5Copy.f a l b c d = some (a, l, b, c, d) := by
  unfold spec_l5Copy.f
  rw [Option.bind_some, if_pos (by simp; omega), List.nil_append]
theorem copyResource_val (a : Int) (l : List Int) (b c d : Int) (hl : l.length ≤ 1048576) : impl_copyResource.f a l b c d = some (a, l, b, c, d) := by
  unfold impl_copyResource.f slices_Clone_int_int.f
  rw [Option.bind_some, if_pos (by simp; omega), List.nil_append, Option.bind_some]
theorem find_l0 (xs : List S63) (a : Int) (hn : xs.length ≤ 1048576) : ∀ (d i : Nat), i + d = xs.length → ∃ t : Int, Ev (fun k => spec_l7Find.l0 k xs a (i : Int)) t ∧ Ev (fun k => impl_partAt.l0 k xs a (i : Int)) t ∧ (t = -1 ∨ ∃ j : Nat, t = (j : Int) ∧ j < xs.length) := by
  intro d
  induction d with
  | zero =>
    intro i hd
    exact ⟨-1, Ev.step (fun _ => spec_l7Find.l0.eq_2 ..) (ev_neg (by omega) (Ev.now _)), Ev.step (fun _ => impl_partAt.l0.eq_2 ..) (ev_neg (by omega) (Ev.now _)), .inl rfl⟩
  | succ d ih =>
    intro i hd
    have hlt : i < xs.length := by omega
    by_cases h : (xs[i]).f0 = a
    · refine ⟨(i : Int), Ev.step (fun _ => spec_l7Find.l0.eq_2 ..) (ev_pos (by omega) (ev_pos (by omega) ?_)), Ev.step (fun _ => impl_partAt.l0.eq_2 ..) (ev_pos (by omega) (ev_pos (by omega) ?_)), .inr ⟨i, rfl, hlt⟩⟩
      · rw [rd1Part xs i hlt]
        exact ev_pos h (Ev.now _)
      · rw [rd1Part xs i hlt]
        exact ev_pos h (Ev.now _)
    · obtain ⟨t, e1, e2, ht⟩ := ih (i + 1) (by omega)
      refine ⟨t, Ev.step (fun _ => spec_l7Find.l0.eq_2 ..) (ev_pos (by omega) (ev_pos (by omega) ?_)), Ev.step (fun _ => impl_partAt.l0.eq_2 ..) (ev_pos (by omega) (ev_pos (by omega) ?_)), ht⟩
      · rw [rd1Part xs i hlt, w64 (x := (i : Int) + 1) (by omega) (by omega)]
        exact ev_neg h e1
      · rw [rd1Part xs i hlt, w64 (x := (i : Int) + 1) (by omega) (by omega)]
        exact ev_neg h e2
theorem snoc_take {α : Type} (xs : List α) (i : Nat) (h : i < xs.length) : xs.take i ++ [xs[i]] = xs.take (i + 1) := (List.take_succ_eq_append_getElem h).symm
theorem l7Copy_l0 (xs : List S63) (hn : xs.length ≤ 1048576) (hi : ∀ x ∈ xs, (ls1Part x).length ≤ 1048576) : ∀ (d i : Nat), i + d = xs.length → Ev (fun k => spec_l7Copy.l0 k xs (xs.take i) (i : Int)) xs := by
  intro d
  induction d with
  | zero =>
    intro i hd
    refine Ev.step (fun _ => spec_l7Copy.l0.eq_2 ..) (ev_neg (by omega) (ev_of ?_))
    rw [List.take_of_length_le (by omega)]
  | succ d ih =>
    intro i hd
    have hlt : i < xs.length := by omega
    refine Ev.step (fun _ => spec_l7Copy.l0.eq_2 ..) (ev_pos (by omega) (ev_pos (by omega) ?_))
    rw [rd1Part xs i hlt]
    refine ev_bind0 (l5Copy_val _ _ _ _ _ (hi _ (List.getElem_mem hlt))) (ev_pos (by rw [List.length_take]; omega) ?_)
    rw [w64 (by omega) (by omega), show (xs.take i ++ [(⟨(xs[i]).f0, ⟨(xs[i]).f1.f0, (xs[i]).f1.f1, ⟨(xs[i]).f1.f2.f0, (xs[i]).f1.f2.f1, (xs[i]).f1.f2.f2⟩⟩, (xs[i]).f2⟩ : S63)]) = xs.take (i + 1) from snoc_take xs i hlt]
    exact ih (i + 1) (by omega)
theorem l7Copy_ev (xs : List S63) (hn : xs.length ≤ 1048576) (hi : ∀ x ∈ xs, (ls1Part x).length ≤ 1048576) : Ev (fun k => spec_l7Copy.f k xs) xs := l7Copy_l0 xs hn hi xs.length 0 (by omega)
theorem copyParts_l0 (xs : List S63) (hn : xs.length ≤ 1048576) (hi : ∀ x ∈ xs, (ls1Part x).length ≤ 1048576) : ∀ (d i : Nat), i + d = xs.length → Ev (fun k => impl_copyParts.l0 k (xs.take i) xs (xs.length : Int) (i : Int)) xs := by
  intro d
  induction d with
  | zero =>
    intro i hd
    refine Ev.step (fun _ => impl_copyParts.l0.eq_2 ..) (ev_neg (by omega) (ev_of ?_))
    rw [List.take_of_length_le (by omega)]
  | succ d ih =>
    intro i hd
    have hlt : i < xs.length := by omega
    refine Ev.step (fun _ => impl_copyParts.l0.eq_2 ..) (ev_pos (by omega) (ev_pos (by omega) (ev_pos (by omega) ?_)))
    rw [rd1Part xs i hlt]
    refine ev_bind0 (copyResource_val _ _ _ _ _ (hi _ (List.getElem_mem hlt))) (ev_pos (by rw [List.length_take]; omega) ?_)
    rw [w64 (by omega) (by omega), show (xs.take i ++ [(⟨(xs[i]).f0, ⟨(xs[i]).f1.f0, (xs[i]).f1.f1, ⟨(xs[i]).f1.f2.f0, (xs[i]).f1.f2.f1, (xs[i]).f1.f2.f2⟩⟩, (xs[i]).f2⟩ : S63)]) = xs.take (i + 1) from snoc_take xs i hlt]
    exact ih (i + 1) (by omega)
theorem copyParts_ev (xs : List S63) (hn : xs.length ≤ 1048576) (hi : ∀ x ∈ xs, (ls1Part x).length ≤ 1048576) : Ev (fun k => impl_copyParts.f k xs) xs := copyParts_l0 xs hn hi xs.length 0 (by omega)
def putOut (xs : List S63) (d t : Int) (q : S36) : List S63 := if 0 ≤ t then put_use xs t else xs.take (put_at xs d) ++ (⟨d, q, 1⟩ : S63) :: xs.drop (put_at xs d)
theorem putOut_length (xs : List S63) (d t : Int) (q : S36) : (putOut xs d t q).length ≤ xs.length + 1 := by
  unfold putOut put_use
  split
  · rw [List.length_set]
    omega
  · rw [List.length_append, List.length_cons, List.length_take, List.length_drop]
    omega
theorem putOut_lists (xs : List S63) (d t : Int) (q : S36) (ht : 0 ≤ t → t < (xs.length : Int)) : (putOut xs d t q).map ls1Part = xs.map ls1Part ∨ (putOut xs d t q).map ls1Part = (xs.take (put_at xs d)).map ls1Part ++ q.f1 :: (xs.drop (put_at xs d)).map ls1Part := by
  unfold putOut put_use
  split
  · rename_i h
    obtain ⟨j, rfl⟩ := Int.eq_ofNat_of_zero_le h
    have hj : j < xs.length := by have := ht h; omega
    refine .inl ?_
    rw [rd1Part xs j hj, Int.toNat_natCast, List.map_set]
    apply List.ext_getElem?
    intro i
    rw [List.getElem?_set]
    split
    · rename_i e
      subst e
      rw [if_pos (by rw [List.length_map]; exact hj), List.getElem?_map, List.getElem?_eq_getElem hj]
      rfl
    · rfl
  · refine .inr ?_
    rw [List.map_append, List.map_cons]
    rfl
theorem putOut_mem (xs : List S63) (d t : Int) (q : S36) (N : Nat) (ht : 0 ≤ t → t < (xs.length : Int)) (hi : ∀ x ∈ xs, (ls1Part x).length ≤ N) (hq : q.f1.length ≤ N) : ∀ x ∈ putOut xs d t q, (ls1Part x).length ≤ N := by
  intro x hx
  have hm : ls1Part x ∈ (putOut xs d t q).map ls1Part := List.mem_map_of_mem hx
  rcases putOut_lists xs d t q ht with e | e
  · rw [e] at hm
    obtain ⟨y, hy, e2⟩ := List.mem_map.1 hm
    rw [← e2]
    exact hi y hy
  · rw [e] at hm
    rcases List.mem_append.1 hm with hm | hm
    · obtain ⟨y, hy, e2⟩ := List.mem_map.1 hm
      rw [← e2]
      exact hi y (List.mem_of_mem_take hy)
    · rcases List.mem_cons.1 hm with e2 | hm
      · rw [e2]
        exact hq
      · obtain ⟨y, hy, e2⟩ := List.mem_map.1 hm
        rw [← e2]
        exact hi y (List.mem_of_mem_drop hy)
theorem putPart_ev (xs : List S63) (q : S36) (hn : xs.length ≤ 1048576) (hi : ∀ x ∈ xs, (ls1Part x).length ≤ 1048576) (hq : q.f1.length ≤ 1048576) :
    ∃ (t : Int) (R : List S63 × Bool), Ev (fun k => spec_l7Find.f k xs (hashOf (resInts q.f0 q.f1 q.f2.f0 q.f2.f1 q.f2.f2))) t ∧ (0 ≤ t → t < (xs.length : Int)) ∧ Ev (fun k => spec_PutPart.f k xs q.f0 q.f1 q.f2.f0 q.f2.f1 q.f2.f2) R ∧ Ev (fun k => impl_PutPart.f k xs q.f0 q.f1 q.f2.f0 q.f2.f1 q.f2.f2) R ∧
      ((R = (xs, false) ∧ ¬ (Good xs ∧ Good (putOut xs (hashOf (resInts q.f0 q.f1 q.f2.f0 q.f2.f1 q.f2.f2)) t q))) ∨ (R = (putOut xs (hashOf (resInts q.f0 q.f1 q.f2.f0 q.f2.f1 q.f2.f2)) t q, true) ∧ Good xs ∧ Good (putOut xs (hashOf (resInts q.f0 q.f1 q.f2.f0 q.f2.f1 q.f2.f2)) t q))) := by
  have d1 := spec_DigestOf_ev q.f0 q.f1 q.f2.f0 q.f2.f1 q.f2.f2 (by omega)
  have d2 := impl_DigestOf_ev q.f0 q.f1 q.f2.f0 q.f2.f1 q.f2.f2 (by omega)
  generalize hashOf (resInts q.f0 q.f1 q.f2.f0 q.f2.f1 q.f2.f2) = d at d1 d2 ⊢
  obtain ⟨b, b1, b2, b3⟩ := store_ev xs hn hi
  obtain ⟨t, e1, e2, ht⟩ := find_l0 xs d hn xs.length 0 (Nat.zero_add _)
  have ht' : 0 ≤ t → t < (xs.length : Int) := fun h => by
    rcases ht with ht | ⟨j, ht, hj⟩
    · omega
    · omega
  have cs := l7Copy_ev xs hn hi
  have ci := copyParts_ev xs hn hi
  cases b with
  | false => exact ⟨t, (xs, false), e1, ht', Ev.bind b1 (ev_neg (by decide) (Ev.bind cs (Ev.now _))), Ev.bind ci (Ev.bind b2 (ev_neg (by decide) (Ev.now _))), .inl ⟨rfl, fun h => by have := b3.2 h.1; cases this⟩⟩
  | true =>
    have hg := b3.1 rfl
    have h30 := hg.1
    have hpl := put_at_le xs d
    have hyl := putOut_length xs d t q
    obtain ⟨b', s1, s2, s3⟩ := store_ev (putOut xs d t q) (by omega) (putOut_mem xs d t q 1048576 ht' hi hq)
    have dl := l7Copy_ev (xs.drop (put_at xs d)) (by rw [List.length_drop]; omega) (fun x hx => hi x (List.mem_of_mem_drop hx))
    have m1 : Ev (fun k => spec_PutPart.mid k xs xs t d q.f0 q.f1 q.f2.f0 q.f2.f1 q.f2.f2) (putOut xs d t q) := by
      unfold spec_PutPart.mid putOut
      by_cases h : 0 ≤ t
      · rw [if_pos h]
        exact ev_pos h (ev_pos (ht' h) (Ev.now _))
      · rw [if_neg h]
        refine ev_neg h (Ev.bind cs (ev_bind0 (l5Copy_val _ _ _ _ _ hq) (Ev.bind dl (ev_pos ⟨hpl, by rw [List.length_drop]; omega⟩ (ev_of ?_)))))
        rw [List.append_assoc]
        rfl
    have m2 : Ev (fun _ => impl_PutPart.mid xs t d q.f0 q.f1 q.f2.f0 q.f2.f1 q.f2.f2) (putOut xs d t q) := by
      unfold impl_PutPart.mid putOut
      by_cases h : 0 ≤ t
      · rw [if_pos h, if_pos h]
        exact ev_pos (ht' h) (Ev.now _)
      · rw [if_neg h, if_neg h]
        exact (ev_bind0 (copyResource_val _ _ _ _ _ hq) (ev_pos (by omega) (Ev.now _)))
    cases b' with
    | false => exact ⟨t, (xs, false), e1, ht', Ev.bind b1 (ev_pos rfl (Ev.bind d1 (Ev.bind e1 (Ev.bind cs (Ev.bind m1 (Ev.bind s1 (ev_neg (by decide) (Ev.bind cs (Ev.now _))))))))), Ev.bind ci (Ev.bind b2 (ev_pos rfl (Ev.bind d2 (Ev.bind e2 (Ev.bind m2 (Ev.bind s2 (ev_neg (by decide) (Ev.bind ci (Ev.now _))))))))), .inl ⟨rfl, fun h => by have := s3.2 h.2; cases this⟩⟩
    | true => exact ⟨t, (putOut xs d t q, true), e1, ht', Ev.bind b1 (ev_pos rfl (Ev.bind d1 (Ev.bind e1 (Ev.bind cs (Ev.bind m1 (Ev.bind s1 (ev_pos rfl (Ev.now _)))))))), Ev.bind ci (Ev.bind b2 (ev_pos rfl (Ev.bind d2 (Ev.bind e2 (Ev.bind m2 (Ev.bind s2 (ev_pos rfl (Ev.now _)))))))), .inr ⟨rfl, hg, s3.1 rfl⟩⟩
def Small (xs : List S63) (n : Nat) : Prop := xs.length ≤ n ∧ ∀ x ∈ xs, (ls1Part x).length ≤ 8
theorem small_ok {xs : List S63} {n : Nat} (h : Small xs n) (hn : n ≤ 1048576) : xs.length ≤ 1048576 ∧ ∀ x ∈ xs, (ls1Part x).length ≤ 1048576 := ⟨Nat.le_trans h.1 hn, fun x hx => Nat.le_trans (h.2 x hx) (by decide)⟩
theorem small_set {xs : List S63} {n : Nat} (h : Small xs n) (i : Nat) (x : S63) (hx : (ls1Part x).length ≤ 8) : Small (xs.set i x) n := ⟨by rw [List.length_set]; exact h.1, fun y hy => by
  rcases List.mem_or_eq_of_mem_set hy with hy | rfl
  · exact h.2 y hy
  · exact hx⟩
theorem l7Draw_l0 (b : List Int) (hb : b.length ≤ 1099511627776) : ∀ (d : Nat) (xs : List S63) (i h : Int), xs.length + d ≤ 100 → (∀ x ∈ xs, (ls1Part x).length ≤ 8) → 0 ≤ i → i ≤ 1099511627776 →
    ∃ (r : List S63) (i' h' : Int), Ev (fun k => spec_l7Draw.l0 k xs (d : Int) b i h) (r, i', h') ∧ Small r (xs.length + d) ∧ 0 ≤ i' ∧ i' ≤ 1099511627776 := by
  intro d
  induction d with
  | zero =>
    intro xs i h hl hw h0 h1
    exact ⟨xs, i, h, Ev.step (fun _ => spec_l7Draw.l0.eq_2 ..) (ev_neg (by omega) (Ev.now _)), ⟨by omega, hw⟩, h0, h1⟩
  | succ d ih =>
    intro xs i h hl hw h0 h1
    obtain ⟨kd, r, x, y, z, i2, h2, e2, _, hr4, _, _, hi0, hi1⟩ := l5Draw_ev b hb i h h0 h1
    obtain ⟨t, R, _, ht, s2, _, hR⟩ := putPart_ev xs ⟨kd, r, ⟨x, y, z⟩⟩ (by omega) (fun u hu => Nat.le_trans (hw u hu) (by decide)) (Nat.le_trans hr4 (by decide))
    have hR1 : R.1.length ≤ xs.length + 1 ∧ ∀ u ∈ R.1, (ls1Part u).length ≤ 8 := by
      rcases hR with ⟨rfl, _⟩ | ⟨rfl, _⟩
      · exact ⟨Nat.le_succ _, hw⟩
      · exact ⟨putOut_length .., putOut_mem _ _ _ _ 8 ht hw (Nat.le_trans hr4 (by decide))⟩
    obtain ⟨q, i', h', e, hq, hj0, hj1⟩ := ih R.1 i2 h2 (by omega) hR1.2 hi0 hi1
    refine ⟨q, i', h', Ev.step (fun _ => spec_l7Draw.l0.eq_2 ..) (ev_pos (by omega) (Ev.bind e2 (Ev.bind s2 ?_))), ⟨by have := hq.1; omega, hq.2⟩, hj0, hj1⟩
    rw [show wrap64 (((d + 1 : Nat) : Int) - 1) = (d : Int) by rw [w64 (by omega) (by omega)]; omega]
    exact e
theorem l7Draw_ev (b : List Int) (hb : b.length ≤ 1099511627776) (i h : Int) (h0 : 0 ≤ i) (h1 : i ≤ 1099511627776) : ∃ (r : List S63) (i' h' : Int), Ev (fun k => spec_l7Draw.f k b i h) (r, i', h') ∧ Small r 7 ∧ 0 ≤ i' ∧ i' ≤ 1099511627776 := by
  unfold spec_l7Draw.f
  obtain ⟨n, i2, h2, e2, hn0, hn1, _, hi0, hi1⟩ := l1Below_some b hb i h 7 h0 h1
  have hn := hn1 (by omega)
  obtain ⟨d, rfl⟩ := Int.eq_ofNat_of_zero_le hn0
  obtain ⟨r, i', h', e, hr, hj⟩ := l7Draw_l0 b hb d [] i2 h2 (by simp; omega) (fun _ hx => by cases hx) hi0 hi1
  exact ⟨r, i', h', ev_bind0 e2 e, ⟨by have := hr.1; simp at this; omega, hr.2⟩, hj⟩
theorem l7Any_ev (b : List Int) (hb : b.length ≤ 1099511627776) (i h : Int) (h0 : 0 ≤ i) (h1 : i ≤ 1099511627776) : ∃ (r : List S63) (i' h' : Int), Ev (fun k => spec_l7Any.f k b i h) (r, i', h') ∧ Small r 8 ∧ 0 ≤ i' ∧ i' ≤ 1099511627776 := by
  unfold spec_l7Any.f
  obtain ⟨xs, i1, h1', e1, hs, hi0, hi1⟩ := l7Draw_ev b hb i h h0 h1
  have hs8 : Small xs 8 := ⟨Nat.le_succ_of_le hs.1, hs.2⟩
  by_cases c : (xs.length : Int) = 0
  · exact ⟨xs, i1, h1', Ev.bind e1 (ev_pos c (Ev.now _)), hs8, hi0, hi1⟩
  obtain ⟨t, i2, h2, e2, ht0, ht1, _, hj0, hj1⟩ := l1Below_some b hb i1 h1' (xs.length : Int) hi0 hi1
  have ht := ht1 (by omega)
  obtain ⟨j, rfl⟩ := Int.eq_ofNat_of_zero_le ht0
  have hj : j < xs.length := by omega
  have hx8 := hs.2 _ (List.getElem_mem hj)
  obtain ⟨n, i3, h3, e3, _, _, _, hk0, hk1⟩ := l1Below_some b hb i2 h2 9 hj0 hj1
  by_cases n0 : n = 0
  · exact ⟨_, i3, h3, Ev.bind e1 (ev_neg c (ev_bind0 e2 (ev_bind0 e3 (ev_pos n0 (ev_pos ht0 (ev_pos ht (Ev.now _))))))), small_set hs8 _ _ (by rw [rd1Part xs j hj]; exact hx8), hk0, hk1⟩
  by_cases n1 : n = 1
  · obtain ⟨v, i4, h4, e4, _, hl0, hl1⟩ := l1Int_some b hb i3 h3 [0, 1000, 1001, 9223372036854775807] (by decide) hk0 hk1
    exact ⟨_, i4, h4, Ev.bind e1 (ev_neg c (ev_bind0 e2 (ev_bind0 e3 (ev_neg n0 (ev_pos n1 (ev_bind0 e4 (ev_pos ht0 (ev_pos ht (Ev.now _))))))))), small_set hs8 _ _ (by rw [rd1Part xs j hj]; exact hx8), hl0, hl1⟩
  by_cases n2 : n = 2
  · obtain ⟨kd, r, x, y, z, i4, h4, e4, hr7, hl0, hl1⟩ := l5Any_ev b hb i3 h3 hk0 hk1
    exact ⟨_, i4, h4, Ev.bind e1 (ev_neg c (ev_bind0 e2 (ev_bind0 e3 (ev_neg n0 (ev_neg n1 (ev_pos n2 (Ev.bind e4 (ev_pos ht0 (ev_pos ht (Ev.now _)))))))))), small_set hs8 _ _ (Nat.le_succ_of_le hr7), hl0, hl1⟩
  by_cases n3 : n = 3
  · refine ⟨_, i3, h3, Ev.bind e1 (ev_neg c (ev_bind0 e2 (ev_bind0 e3 (ev_neg n0 (ev_neg n1 (ev_neg n2 (ev_pos n3 (ev_pos (show 0 < (xs.length : Int) by omega) (ev_pos (show xs.length < 1954687338268 by have := hs.1; omega) (Ev.now _)))))))))), ⟨by rw [List.length_append, List.length_singleton]; have := hs.1; exact (show xs.length + 1 ≤ 8 by omega), fun u hu => ?_⟩, hk0, hk1⟩
    rcases List.mem_append.1 hu with hu | hu
    · exact hs.2 u hu
    · rw [List.mem_singleton.1 hu, show rd_T63 xs 0 = xs[0]'(by omega) from rd1Part xs 0 (by omega)]
      exact hs.2 _ (List.getElem_mem _)
  · exact ⟨xs, i3, h3, Ev.bind e1 (ev_neg c (ev_bind0 e2 (ev_bind0 e3 (ev_neg n0 (ev_neg n1 (ev_neg n2 (ev_neg n3 (Ev.now _)))))))), hs8, hk0, hk1⟩
theorem drawPut_ev (l : List Int) (hl : l.length ≤ 1099511627776) : ∃ (xs : List S63) (q : S36), Ev (fun k => spec_DrawPutPart.f k l) (xs, q.f0, q.f1, q.f2.f0, q.f2.f1, q.f2.f2) ∧ Small xs 8 ∧ q.f1.length ≤ 8 := by
  unfold spec_DrawPutPart.f
  obtain ⟨h, e0⟩ := l1New_ev l hl
  obtain ⟨xs, i1, h1, e1, hs, hi0, hi1⟩ := l7Any_ev l hl 0 h (by omega) (by omega)
  obtain ⟨kd, r, x, y, z, i2, h2, e2, hr7, hj0, hj1⟩ := l5Any_ev l hl i1 h1 hi0 hi1
  by_cases c : (xs.length : Int) > 0
  · obtain ⟨o, i3, h3, e3, hk0, hk1⟩ := l1Once_some l hl i2 h2 3 hj0 hj1
    cases o with
    | true =>
      obtain ⟨t, i4, h4, e4, ht0, ht1, _, _, _⟩ := l1Below_some l hl i3 h3 (xs.length : Int) hk0 hk1
      have ht := ht1 (by omega)
      obtain ⟨j, rfl⟩ := Int.eq_ofNat_of_zero_le ht0
      have hj : j < xs.length := by omega
      refine ⟨xs, (rd_T63 xs (j : Int)).f1, Ev.bind e0 (Ev.bind e1 (Ev.bind e2 (ev_pos c (ev_bind0 e3 (ev_pos rfl (ev_bind0 e4 (ev_pos ht0 (ev_pos ht (Ev.now _))))))))), hs, ?_⟩
      rw [rd1Part xs j hj]
      exact hs.2 _ (List.getElem_mem hj)
    | false => exact ⟨xs, ⟨kd, r, ⟨x, y, z⟩⟩, Ev.bind e0 (Ev.bind e1 (Ev.bind e2 (ev_pos c (ev_bind0 e3 (ev_neg (show ¬ (false = true) by decide) (Ev.now _)))))), hs, Nat.le_succ_of_le hr7⟩
  · exact ⟨xs, ⟨kd, r, ⟨x, y, z⟩⟩, Ev.bind e0 (Ev.bind e1 (Ev.bind e2 (ev_neg c (Ev.now _)))), hs, Nat.le_succ_of_le hr7⟩
theorem drawEq_ev (l : List Int) (hl : l.length ≤ 1099511627776) : ∃ xs ys : List S63, Ev (fun k => spec_DrawEqualStores.f k l) (xs, ys) ∧ Small xs 8 ∧ Small ys 8 := by
  unfold spec_DrawEqualStores.f
  obtain ⟨h, e0⟩ := l1New_ev l hl
  obtain ⟨xs, i1, h1, e1, hs, hi0, hi1⟩ := l7Any_ev l hl 0 h (by omega) (by omega)
  obtain ⟨o, i3, h3, e3, hk0, hk1⟩ := l1Once_some l hl i1 h1 2 hi0 hi1
  cases o with
  | true => exact ⟨xs, xs, Ev.bind e0 (Ev.bind e1 (ev_bind0 e3 (ev_pos rfl (Ev.bind (l7Copy_ev xs (small_ok hs (by decide)).1 (small_ok hs (by decide)).2) (Ev.now _))))), hs, hs⟩
  | false =>
    obtain ⟨ys, i4, h4, e4, hs4, _, _⟩ := l7Any_ev l hl i3 h3 hk0 hk1
    exact ⟨xs, ys, Ev.bind e0 (Ev.bind e1 (ev_bind0 e3 (ev_neg (show ¬ (false = true) by decide) (Ev.bind e4 (Ev.now _))))), hs, hs4⟩
theorem slices_Equal_int_int_l0 (xs ys : List Int) (hl : xs.length = ys.length) (hn : xs.length ≤ 9223372036854775807) : ∀ (d i : Nat), i + d = xs.length → Ev (fun k => slices_Equal_int_int.l0 k xs ys (xs.length : Int) (i : Int)) (decide (xs.drop i = ys.drop i)) := by
  intro d
  induction d with
  | zero =>
    intro i hd
    refine Ev.step (fun _ => slices_Equal_int_int.l0.eq_2 ..) (ev_neg (by omega) (ev_of ?_))
    rw [List.drop_eq_nil_of_le (by omega), List.drop_eq_nil_of_le (by omega)]
    rfl
  | succ d ih =>
    intro i hd
    refine Ev.step (fun _ => slices_Equal_int_int.l0.eq_2 ..) (ev_pos (by omega) (ev_pos (by omega) (ev_pos (by omega) (ev_pos (by omega) ?_))))
    rw [rd_at xs i (by omega), rd_at ys i (by omega), List.drop_eq_getElem_cons (show i < xs.length by omega), List.drop_eq_getElem_cons (show i < ys.length by omega)]
    by_cases he : xs[i]'(by omega) = ys[i]'(by omega)
    · refine ev_pos he ?_
      rw [w64 (by omega) (by omega)]
      have h := ih (i + 1) (by omega)
      simp only [he, List.cons.injEq, true_and]
      exact h
    · exact ev_neg he (ev_of (congrArg some (decide_eq_false (fun h => he (List.cons.inj h).1)).symm))
theorem slices_Equal_int_int_ev (xs ys : List Int) (hn : xs.length ≤ 9223372036854775807) : Ev (fun k => slices_Equal_int_int.f k xs ys) (decide (xs = ys)) := by
  unfold slices_Equal_int_int.f
  by_cases hl : xs.length = ys.length
  · exact ev_pos (by omega) (slices_Equal_int_int_l0 xs ys hl hn xs.length 0 (by omega))
  · refine ev_neg (by omega) (ev_of ?_)
    rw [decide_eq_false (fun h => hl (by rw [h]))]
theorem spec_EqualInts_l0 (xs ys : List Int) (hl : xs.length = ys.length) (hn : xs.length ≤ 9223372036854775807) : ∀ (d i : Nat), i + d = xs.length → Ev (fun k => spec_EqualInts.l0 k xs ys (i : Int)) (decide (xs.drop i = ys.drop i)) := by
  intro d
  induction d with
  | zero =>
    intro i hd
    refine Ev.step (fun _ => spec_EqualInts.l0.eq_2 ..) (ev_neg (by omega) (ev_of ?_))
    rw [List.drop_eq_nil_of_le (by omega), List.drop_eq_nil_of_le (by omega)]
    rfl
  | succ d ih =>
    intro i hd
    refine Ev.step (fun _ => spec_EqualInts.l0.eq_2 ..) (ev_pos (by omega) (ev_pos (by omega) (ev_pos (by omega) ?_)))
    rw [rd_at xs i (by omega), rd_at ys i (by omega), List.drop_eq_getElem_cons (show i < xs.length by omega), List.drop_eq_getElem_cons (show i < ys.length by omega)]
    by_cases he : xs[i]'(by omega) = ys[i]'(by omega)
    · refine ev_pos he ?_
      rw [w64 (by omega) (by omega)]
      have h := ih (i + 1) (by omega)
      simp only [he, List.cons.injEq, true_and]
      exact h
    · exact ev_neg he (ev_of (congrArg some (decide_eq_false (fun h => he (List.cons.inj h).1)).symm))
theorem spec_EqualInts_ev (xs ys : List Int) (hn : xs.length ≤ 9223372036854775807) : Ev (fun k => spec_EqualInts.f k xs ys) (decide (xs = ys)) := by
  unfold spec_EqualInts.f
  by_cases hl : xs.length = ys.length
  · exact ev_pos (by omega) (spec_EqualInts_l0 xs ys hl hn xs.length 0 (by omega))
  · refine ev_neg (by omega) (ev_of ?_)
    rw [decide_eq_false (fun h => hl (by rw [h]))]
def eqR (a0 : Int) (l : List Int) (a2 a3 a4 : Int) (b0 : Int) (m : List Int) (b2 b3 b4 : Int) : Bool := decide (a0 = b0 ∧ (a2 == b2 && (a3 == b3 && (a4 == b4))) = true ∧ l = m)
theorem spec_EqualResources_ev (a0 : Int) (l : List Int) (a2 a3 a4 : Int) (b0 : Int) (m : List Int) (b2 b3 b4 : Int) (hl : l.length ≤ 9223372036854775807) : Ev (fun k => spec_EqualResources.f k a0 l a2 a3 a4 b0 m b2 b3 b4) (eqR a0 l a2 a3 a4 b0 m b2 b3 b4) := by
  unfold spec_EqualResources.f
  by_cases h : a0 = b0
  · refine ev_pos h ?_
    by_cases h2 : (a2 == b2 && (a3 == b3 && (a4 == b4))) = true
    · refine ev_pos h2 ?_
      have e : eqR a0 l a2 a3 a4 b0 m b2 b3 b4 = decide (l = m) := by unfold eqR; exact decide_eq_decide.2 ⟨fun w => w.2.2, fun w => ⟨h, h2, w⟩⟩
      rw [e]
      exact Ev.bind (spec_EqualInts_ev l m hl) (Ev.now _)
    · exact ev_neg h2 (ev_of (congrArg some (decide_eq_false (fun w => h2 w.2.1)).symm))
  · exact ev_neg h (ev_of (congrArg some (decide_eq_false (fun w => h w.1)).symm))
theorem impl_EqualResources_ev (a0 : Int) (l : List Int) (a2 a3 a4 : Int) (b0 : Int) (m : List Int) (b2 b3 b4 : Int) (hl : l.length ≤ 9223372036854775807) : Ev (fun k => impl_EqualResources.f k a0 l a2 a3 a4 b0 m b2 b3 b4) (eqR a0 l a2 a3 a4 b0 m b2 b3 b4) := by
  unfold impl_EqualResources.f
  by_cases h : a0 = b0
  · refine ev_pos h ?_
    by_cases h2 : (a2 == b2 && (a3 == b3 && (a4 == b4))) = true
    · refine ev_pos h2 ?_
      have e : eqR a0 l a2 a3 a4 b0 m b2 b3 b4 = decide (l = m) := by unfold eqR; exact decide_eq_decide.2 ⟨fun w => w.2.2, fun w => ⟨h, h2, w⟩⟩
      rw [e]
      exact Ev.bind (slices_Equal_int_int_ev l m hl) (Ev.now _)
    · exact ev_neg h2 (ev_of (congrArg some (decide_eq_false (fun w => h2 w.2.1)).symm))
  · exact ev_neg h (ev_of (congrArg some (decide_eq_false (fun w => h w.1)).symm))
noncomputable def dec (p : Prop) : Bool := @decide p (Classical.propDecidable p)
theorem dec_true {p : Prop} (h : p) : dec p = true := @decide_eq_true p (Classical.propDecidable p) h
theorem dec_false {p : Prop} (h : ¬ p) : dec p = false := @decide_eq_false p (Classical.propDecidable p) h
theorem dec_iff {p q : Prop} (h : p ↔ q) : dec p = dec q := by rw [propext h]
theorem decide_dec {p q : Prop} [Decidable p] (h : p ↔ q) : decide p = dec q := by
  by_cases c : p
  · rw [decide_eq_true c, dec_true (h.1 c)]
  · rw [decide_eq_false c, dec_false (fun w => c (h.2 w))]
theorem eqPart_ev (x y : S63) (hl : (ls1Part x).length ≤ 9223372036854775807) : Ev (fun k => impl_EqualStores_c1.f k x.f0 x.f1.f0 x.f1.f1 x.f1.f2.f0 x.f1.f2.f1 x.f1.f2.f2 x.f2 y.f0 y.f1.f0 y.f1.f1 y.f1.f2.f0 y.f1.f2.f1 y.f1.f2.f2 y.f2) (dec (x = y)) := by
  unfold impl_EqualStores_c1.f
  obtain ⟨d, ⟨kd, bd, ⟨ho, pa, qu⟩⟩, us⟩ := x
  obtain ⟨d', ⟨kd', bd', ⟨ho', pa', qu'⟩⟩, us'⟩ := y
  by_cases h : d = d'
  · refine ev_pos h ?_
    by_cases h2 : us = us'
    · refine ev_pos h2 ?_
      have e := impl_EqualResources_ev kd bd ho pa qu kd' bd' ho' pa' qu' hl
      have e2 : eqR kd bd ho pa qu kd' bd' ho' pa' qu' = dec ((⟨d, ⟨kd, bd, ⟨ho, pa, qu⟩⟩, us⟩ : S63) = ⟨d', ⟨kd', bd', ⟨ho', pa', qu'⟩⟩, us'⟩) := by
        unfold eqR
        refine decide_dec ⟨fun w => ?_, fun w => ?_⟩
        · obtain ⟨rfl, w2, rfl⟩ := w
          simp only [Bool.and_eq_true, beq_iff_eq] at w2
          obtain ⟨rfl, rfl, rfl⟩ := w2
          rw [h, h2]
        · injection w with w1 w2 w3
          injection w2 with v1 v2 v3
          injection v3 with u1 u2 u3
          exact ⟨v1, by rw [u1, u2, u3]; simp, v2⟩
      rw [← e2]
      exact Ev.bind e (Ev.now _)
    · exact ev_neg h2 (ev_of (congrArg some (dec_false (fun w => h2 (congrArg (fun z : S63 => z.f2) w))).symm))
  · exact ev_neg h (ev_of (congrArg some (dec_false (fun w => h (congrArg (fun z : S63 => z.f0) w))).symm))
theorem eqStores_l0 (xs ys : List S63) (hn : xs.length ≤ 1048576) (hl : xs.length = ys.length) (hi : ∀ x ∈ xs, (ls1Part x).length ≤ 1048576) : ∀ (d i : Nat), i + d = xs.length → Ev (fun k => impl_EqualStores.l0 k ys xs (xs.length : Int) (i : Int)) (dec (xs.drop i = ys.drop i)) := by
  intro d
  induction d with
  | zero =>
    intro i hd
    refine Ev.step (fun _ => impl_EqualStores.l0.eq_2 ..) (ev_neg (by omega) (ev_of ?_))
    rw [List.drop_eq_nil_of_le (by omega), List.drop_eq_nil_of_le (by omega)]
    exact congrArg some (dec_true rfl).symm
  | succ d ih =>
    intro i hd
    have hx : i < xs.length := by omega
    have hy : i < ys.length := by omega
    refine Ev.step (fun _ => impl_EqualStores.l0.eq_2 ..) (ev_pos (by omega) (ev_pos (by omega) (ev_pos (by omega) (ev_pos (by omega) ?_))))
    rw [rd1Part xs i hx, rd1Part ys i hy, w64 (x := (i : Int) + 1) (by omega) (by omega), List.drop_eq_getElem_cons hx, List.drop_eq_getElem_cons hy]
    have e := eqPart_ev xs[i] ys[i] (Nat.le_trans (hi _ (List.getElem_mem hx)) (by decide))
    by_cases c : xs[i] = ys[i]
    · rw [dec_true c] at e
      have := ih (i + 1) (by omega)
      rw [show dec (xs[i] :: xs.drop (i + 1) = ys[i] :: ys.drop (i + 1)) = dec (xs.drop (i + 1) = ys.drop (i + 1)) from dec_iff ⟨fun w => by injection w, fun w => by rw [c, w]⟩]
      exact Ev.bind e (ev_pos rfl this)
    · rw [dec_false c] at e
      rw [dec_false (fun w => c (by injection w))]
      exact Ev.bind e (ev_neg (by decide) (Ev.now _))
theorem eqStores_ev (xs ys : List S63) (hn : xs.length ≤ 1048576) (hi : ∀ x ∈ xs, (ls1Part x).length ≤ 1048576) : Ev (fun k => impl_EqualStores.f k xs ys) (dec (xs = ys)) := by
  unfold impl_EqualStores.f
  by_cases h : (xs.length : Int) = (ys.length : Int)
  · exact ev_pos h (eqStores_l0 xs ys hn (by omega) hi xs.length 0 (by omega))
  · exact ev_neg h (ev_of (congrArg some (dec_false (fun w => h (by rw [w]))).symm))
def szs (xs : List S63) : Int := (xs.map (fun x => ((ls1Part x).length : Int) + 1)).sum
def uss (xs : List S63) : Int := (xs.map (fun x => (((ls1Part x).length : Int) + 1) * x.f2)).sum
def Used (xs : List S63) : Prop := ∀ x ∈ xs, (ls1Part x).length ≤ 8 ∧ 1 ≤ x.f2 ∧ x.f2 ≤ 1000
theorem szs_cons (x : S63) (r : List S63) : szs (x :: r) = ((ls1Part x).length : Int) + 1 + szs r := by unfold szs; rw [List.map_cons, List.sum_cons]
theorem uss_cons (x : S63) (r : List S63) : uss (x :: r) = (((ls1Part x).length : Int) + 1) * x.f2 + uss r := by unfold uss; rw [List.map_cons, List.sum_cons]
theorem mul_bounds {n u : Int} (h0 : 1 ≤ n) (h1 : n ≤ 9) (h2 : 1 ≤ u) (h3 : u ≤ 1000) : n ≤ n * u ∧ n * u ≤ 9000 := by
  constructor
  · calc n = n * 1 := (Int.mul_one n).symm
      _ ≤ n * u := Int.mul_le_mul_of_nonneg_left h2 (by omega)
  · calc n * u ≤ n * 1000 := Int.mul_le_mul_of_nonneg_left h3 (by omega)
      _ ≤ 9000 := by omega
theorem sums_bound : ∀ (xs : List S63), Used xs → 0 ≤ szs xs ∧ szs xs ≤ uss xs ∧ uss xs ≤ 9000 * (xs.length : Int)
  | [], _ => by simp [szs, uss]
  | x :: r, h => by
    obtain ⟨h1, h2, h3⟩ := sums_bound r (fun y hy => h y (List.mem_cons_of_mem _ hy))
    obtain ⟨b1, b2, b3⟩ := h x (List.mem_cons_self ..)
    have := mul_bounds (n := ((ls1Part x).length : Int) + 1) (by omega) (by omega) b2 b3
    rw [szs_cons, uss_cons, List.length_cons]
    omega
theorem clamp {u : Int} (h0 : 1 ≤ u) (h1 : u ≤ 1000) : mn (mx u 0) 1000 = u := by unfold mn mx; omega
theorem stored_l0 (xs : List S63) (hn : xs.length ≤ 1000) (hu : Used xs) : ∀ (d i : Nat) (a c : Int), i + d = xs.length → 0 ≤ a → 0 ≤ c → a + szs (xs.drop i) ≤ 1000000000 → c + uss (xs.drop i) ≤ 1000000000 → Ev (fun k => impl_StoredSize.l0 k a c xs (xs.length : Int) (i : Int)) (a + szs (xs.drop i), c + uss (xs.drop i)) := by
  intro d
  induction d with
  | zero =>
    intro i a c hd h0 h1 _ _
    refine Ev.step (fun _ => impl_StoredSize.l0.eq_2 ..) (ev_neg (by omega) (ev_of ?_))
    rw [List.drop_eq_nil_of_le (by omega)]
    simp [szs, uss]
  | succ d ih =>
    intro i a c hd h0 h1 h2 h3
    have hx : i < xs.length := by omega
    obtain ⟨b1, b2, b3⟩ := hu _ (List.getElem_mem hx)
    have hb := sums_bound (xs.drop (i + 1)) (fun y hy => hu y (List.mem_of_mem_drop hy))
    have hm := mul_bounds (n := ((ls1Part xs[i]).length : Int) + 1) (by omega) (by omega) b2 b3
    rw [List.drop_eq_getElem_cons hx, szs_cons] at h2
    rw [List.drop_eq_getElem_cons hx, uss_cons] at h3
    refine Ev.step (fun _ => impl_StoredSize.l0.eq_2 ..) (ev_pos (by omega) (ev_pos (by omega) (ev_pos (by omega) ?_)))
    rw [rd1Part xs i hx, clamp b2 b3, w64 (x := (i : Int) + 1) (by omega) (by omega), List.drop_eq_getElem_cons hx, szs_cons, uss_cons]
    have es : impl_SizeOf.f (xs[i]).f1.f0 (xs[i]).f1.f1 (xs[i]).f1.f2.f0 (xs[i]).f1.f2.f1 (xs[i]).f1.f2.f2 = some (((ls1Part xs[i]).length : Int) + 1) := by
      unfold impl_SizeOf.f
      rw [w64 (by omega) (by show ((ls1Part xs[i]).length : Int) + 1 ≤ _; omega)]
      rfl
    refine ev_bind0 es ?_
    rw [w64 (x := (((ls1Part xs[i]).length : Int) + 1) * (xs[i]).f2) (by omega) (by omega), w64 (x := a + (((ls1Part xs[i]).length : Int) + 1)) (by omega) (by omega), w64 (x := c + (((ls1Part xs[i]).length : Int) + 1) * (xs[i]).f2) (by omega) (by omega)]
    have := ih (i + 1) (a + (((ls1Part xs[i]).length : Int) + 1)) (c + (((ls1Part xs[i]).length : Int) + 1) * (xs[i]).f2) (by omega) (by omega) (by omega) (by omega) (by omega)
    rw [Int.add_assoc a, Int.add_assoc c] at this
    exact this
theorem stored_ev (xs : List S63) (hn : xs.length ≤ 1000) (hu : Used xs) : Ev (fun k => impl_StoredSize.f k xs) (szs xs, uss xs) := by
  unfold impl_StoredSize.f
  have hb := sums_bound xs hu
  have := stored_l0 xs hn hu xs.length 0 0 0 (by omega) (by omega) (by omega) (by rw [List.drop_zero]; omega) (by rw [List.drop_zero]; omega)
  rw [List.drop_zero, Int.zero_add, Int.zero_add] at this
  exact this
theorem find_whole (xs : List S63) (a : Int) (hn : xs.length ≤ 1048576) : ∀ (d i : Nat), i + d = xs.length → ∃ t : Int, Ev (fun k => spec_l7Find.l0 k xs a (i : Int)) t ∧ Ev (fun k => impl_partAt.l0 k xs a (i : Int)) t ∧ ((t = -1 ∧ ∀ j, i ≤ j → (h : j < xs.length) → (xs[j]).f0 ≠ a) ∨ ∃ j : Nat, t = (j : Int) ∧ ∃ h : j < xs.length, (xs[j]).f0 = a) := by
  intro d
  induction d with
  | zero =>
    intro i hd
    exact ⟨-1, Ev.step (fun _ => spec_l7Find.l0.eq_2 ..) (ev_neg (by omega) (Ev.now _)), Ev.step (fun _ => impl_partAt.l0.eq_2 ..) (ev_neg (by omega) (Ev.now _)), .inl ⟨rfl, fun j hj h => by omega⟩⟩
  | succ d ih =>
    intro i hd
    have hlt : i < xs.length := by omega
    by_cases h : (xs[i]).f0 = a
    · refine ⟨(i : Int), Ev.step (fun _ => spec_l7Find.l0.eq_2 ..) (ev_pos (by omega) (ev_pos (by omega) ?_)), Ev.step (fun _ => impl_partAt.l0.eq_2 ..) (ev_pos (by omega) (ev_pos (by omega) ?_)), .inr ⟨i, rfl, hlt, h⟩⟩
      · rw [rd1Part xs i hlt]
        exact ev_pos h (Ev.now _)
      · rw [rd1Part xs i hlt]
        exact ev_pos h (Ev.now _)
    · obtain ⟨t, e1, e2, ht⟩ := ih (i + 1) (by omega)
      refine ⟨t, Ev.step (fun _ => spec_l7Find.l0.eq_2 ..) (ev_pos (by omega) (ev_pos (by omega) ?_)), Ev.step (fun _ => impl_partAt.l0.eq_2 ..) (ev_pos (by omega) (ev_pos (by omega) ?_)), ?_⟩
      · rw [rd1Part xs i hlt, w64 (x := (i : Int) + 1) (by omega) (by omega)]
        exact ev_neg h e1
      · rw [rd1Part xs i hlt, w64 (x := (i : Int) + 1) (by omega) (by omega)]
        exact ev_neg h e2
      · rcases ht with ⟨ht, hall⟩ | ht
        · refine .inl ⟨ht, fun j hj hl => ?_⟩
          by_cases e : j = i
          · subst e
            exact h
          · exact hall j (by omega) hl
        · exact .inr ht
theorem get_ev (xs : List S63) (a : Int) (hn : xs.length ≤ 1048576) (hi : ∀ x ∈ xs, (ls1Part x).length ≤ 1048576) :
    (∀ x ∈ xs, x.f0 ≠ a) ∧ Ev (fun k => spec_GetPart.f k xs a) (0, [], 0, 0, 0, false) ∧ Ev (fun k => impl_GetPart.f k xs a) (0, [], 0, 0, 0, false) ∨
    ∃ (j : Nat) (h : j < xs.length), (xs[j]).f0 = a ∧ Ev (fun k => spec_GetPart.f k xs a) ((xs[j]).f1.f0, (xs[j]).f1.f1, (xs[j]).f1.f2.f0, (xs[j]).f1.f2.f1, (xs[j]).f1.f2.f2, true) ∧ Ev (fun k => impl_GetPart.f k xs a) ((xs[j]).f1.f0, (xs[j]).f1.f1, (xs[j]).f1.f2.f0, (xs[j]).f1.f2.f1, (xs[j]).f1.f2.f2, true) := by
  unfold spec_GetPart.f impl_GetPart.f spec_l7Find.f impl_partAt.f
  obtain ⟨t, e1, e2, ht⟩ := find_whole xs a hn xs.length 0 (Nat.zero_add _)
  rcases ht with ⟨rfl, hall⟩ | ⟨j, rfl, hj, ha⟩
  · refine .inl ⟨fun x hx => ?_, Ev.bind e1 (ev_pos (by omega) (Ev.now _)), Ev.bind e2 (ev_pos (by omega) (Ev.now _))⟩
    obtain ⟨j, hj, rfl⟩ := List.mem_iff_getElem.1 hx
    exact hall j (Nat.zero_le _) hj
  · have hx := hi _ (List.getElem_mem hj)
    refine .inr ⟨j, hj, ha, Ev.bind e1 (ev_neg (by omega) (ev_pos (by omega) (ev_pos (by omega) ?_))), Ev.bind e2 (ev_neg (by omega) (ev_pos (by omega) (ev_pos (by omega) ?_)))⟩
    · rw [rd1Part xs j hj]
      exact ev_bind0 (l5Copy_val _ _ _ _ _ hx) (Ev.now _)
    · rw [rd1Part xs j hj]
      exact ev_bind0 (copyResource_val _ _ _ _ _ hx) (Ev.now _)
def dec1 (x : S63) : S63 := ⟨x.f0, x.f1, wrap64 (x.f2 - 1)⟩
theorem okPart_uses (x : S63) (h : okPart x = true) : 1 ≤ x.f2 ∧ x.f2 ≤ 1000 := by
  unfold okPart at h
  simp only [Bool.and_eq_true, decide_eq_true_eq] at h
  exact h.2.2
def took (xs : List S63) (j : Nat) (h : j < xs.length) : List S63 := if (xs[j]).f2 = 1 then xs.take j ++ xs.drop (j + 1) else xs.take j ++ dec1 xs[j] :: xs.drop (j + 1)
theorem good_uses (xs : List S63) (h : Good xs) : ∀ x ∈ xs, 1 ≤ x.f2 ∧ x.f2 ≤ 1000 := by
  intro x hx
  obtain ⟨i, hi, rfl⟩ := List.mem_iff_getElem.1 hx
  exact okPart_uses _ (h.2 i (Nat.zero_le _) hi).1
theorem ev_unique {α : Type} {g : Nat → Option α} {r s : α} (h : Ev g r) (k : Ev g s) : r = s := by
  obtain ⟨K, h⟩ := h
  obtain ⟨L, k⟩ := k
  have h1 := h (K + L) (Nat.le_add_right _ _)
  rw [k (K + L) (Nat.le_add_left _ _)] at h1
  exact (Option.some.inj h1).symm
theorem takeI_ev (xs : List S63) (a : Int) (hg : Good xs) (hi : ∀ x ∈ xs, (ls1Part x).length ≤ 1048576) (j : Nat) (hj : j < xs.length) (hf : Ev (fun k => impl_partAt.f k xs a) (j : Int)) : Ev (fun k => impl_TakePart.f k xs a) (took xs j hj, true) := by
  have hn : xs.length ≤ 1048576 := Nat.le_trans hg.1 (by decide)
  obtain ⟨b, _, b2, b3⟩ := store_ev xs hn hi
  obtain rfl : b = true := b3.2 hg
  have hu := good_uses xs hg
  have hx := hu _ (List.getElem_mem hj)
  have hd : ¬ decide ((j : Int) < 0) = true := by rw [decide_eq_false (by omega)]; decide
  unfold impl_TakePart.f
  refine Ev.bind (copyParts_ev xs hn hi) (Ev.bind hf (Ev.bind b2 (ev_pos rfl (Ev.step (fun _ => impl_TakePart.j0.eq_2 ..) (ev_neg hd (ev_pos (by omega) (ev_pos (by omega) ?_)))))))
  rw [rd1Part xs j hj, w64 (x := (j : Int) + 1) (by omega) (by omega), Int.toNat_natCast]
  by_cases h1 : (xs[j]).f2 = 1
  · have e : took xs j hj = xs.eraseIdx j := by
      unfold took
      rw [if_pos h1, List.eraseIdx_eq_take_drop_succ]
    rw [e]
    exact ev_pos h1 (ev_pos (by omega) (ev_pos (by omega) (ev_pos (by omega) (Ev.now _))))
  · have e : took xs j hj = xs.set j (dec1 xs[j]) := by
      unfold took
      rw [if_neg h1, List.set_eq_take_append_cons_drop, if_pos hj]
    rw [e]
    exact ev_neg h1 (Ev.now _)
theorem good_lt (xs : List S63) (h : Good xs) : ∀ (d i : Nat) (hd : i + d + 1 < xs.length), (xs[i]'(by omega)).f0 < (xs[i + d + 1]).f0 := by
  intro d
  induction d with
  | zero =>
    intro i hd
    exact (h.2 (i + 1) (Nat.zero_le _) hd).2 (by omega)
  | succ d ih =>
    intro i hd
    have h1 := ih i (by omega)
    have h2 := (h.2 (i + d + 1 + 1) (Nat.zero_le _) (by omega)).2 (by omega)
    exact Int.lt_trans h1 h2
theorem good_uniq (xs : List S63) (h : Good xs) (i j : Nat) (hi : i < xs.length) (hj : j < xs.length) (e : (xs[i]).f0 = (xs[j]).f0) : i = j := by
  rcases Nat.lt_trichotomy i j with c | c | c
  · have := good_lt xs h (j - i - 1) i (by omega)
    simp only [show i + (j - i - 1) + 1 = j by omega] at this
    omega
  · exact c
  · have := good_lt xs h (i - j - 1) j (by omega)
    simp only [show j + (i - j - 1) + 1 = i by omega] at this
    omega
theorem put_use_at (xs : List S63) (j : Nat) (hj : j < xs.length) : put_use xs (j : Int) = xs.set j ⟨(xs[j]).f0, (xs[j]).f1, wrap64 ((xs[j]).f2 + 1)⟩ := by
  unfold put_use
  rw [rd1Part xs j hj, Int.toNat_natCast]
theorem took_use (xs : List S63) (j : Nat) (hj : j < xs.length) (h1 : 1 ≤ (xs[j]).f2) (h2 : (xs[j]).f2 ≤ 1000) (h' : j < (put_use xs (j : Int)).length) : took (put_use xs (j : Int)) j h' = xs := by
  have e := put_use_at xs j hj
  have eg : (put_use xs (j : Int))[j] = ⟨(xs[j]).f0, (xs[j]).f1, wrap64 ((xs[j]).f2 + 1)⟩ := by
    simp only [e, List.getElem_set_self]
  have ew : wrap64 ((xs[j]).f2 + 1) = (xs[j]).f2 + 1 := w64 (by omega) (by omega)
  unfold took
  rw [eg, if_neg (by show ¬ wrap64 ((xs[j]).f2 + 1) = 1; rw [ew]; omega)]
  have ed : dec1 (⟨(xs[j]).f0, (xs[j]).f1, wrap64 ((xs[j]).f2 + 1)⟩ : S63) = xs[j] := by
    unfold dec1
    rw [show wrap64 (wrap64 ((xs[j]).f2 + 1) - 1) = (xs[j]).f2 by rw [ew, w64 (by omega) (by omega)]; omega]
  rw [ed, e, List.take_set_of_le (Nat.le_refl j), List.drop_set_of_lt (Nat.lt_succ_self j), ← List.drop_eq_getElem_cons hj, List.take_append_drop]
theorem took_new (xs : List S63) (p : Nat) (hp : p ≤ xs.length) (x : S63) (hx : x.f2 = 1) (h' : p < (xs.take p ++ x :: xs.drop p).length) : took (xs.take p ++ x :: xs.drop p) p h' = xs := by
  have hl : (xs.take p).length = p := by rw [List.length_take]; omega
  have eg : (xs.take p ++ x :: xs.drop p)[p] = x := by
    rw [List.getElem_append_right (by omega)]
    simp only [hl, Nat.sub_self, List.getElem_cons_zero]
  unfold took
  rw [eg, if_pos hx, List.take_left' hl, List.drop_append, List.drop_eq_nil_of_le (by omega), List.nil_append, hl, show p + 1 - p = 1 by omega, List.drop_succ_cons, List.drop_zero, List.take_append_drop]
theorem find_at (xs : List S63) (a : Int) (hg : Good xs) (j : Nat) (hj : j < xs.length) (ha : (xs[j]).f0 = a) : Ev (fun k => impl_partAt.f k xs a) (j : Int) := by
  unfold impl_partAt.f
  obtain ⟨t, _, e2, ht⟩ := find_whole xs a (Nat.le_trans hg.1 (by decide)) xs.length 0 (Nat.zero_add _)
  rcases ht with ⟨_, hall⟩ | ⟨i, rfl, hi, hia⟩
  · exact absurd ha (hall j (Nat.zero_le _) hj)
  · obtain rfl := good_uniq xs hg i j hi hj (hia.trans ha.symm)
    exact e2
theorem get_at (xs : List S63) (a : Int) (hg : Good xs) (hi : ∀ x ∈ xs, (ls1Part x).length ≤ 1048576) (j : Nat) (hj : j < xs.length) (ha : (xs[j]).f0 = a) : Ev (fun k => spec_GetPart.f k xs a) ((xs[j]).f1.f0, (xs[j]).f1.f1, (xs[j]).f1.f2.f0, (xs[j]).f1.f2.f1, (xs[j]).f1.f2.f2, true) ∧ Ev (fun k => impl_GetPart.f k xs a) ((xs[j]).f1.f0, (xs[j]).f1.f1, (xs[j]).f1.f2.f0, (xs[j]).f1.f2.f1, (xs[j]).f1.f2.f2, true) := by
  rcases get_ev xs a (Nat.le_trans hg.1 (by decide)) hi with ⟨h, _⟩ | ⟨i, hx, hia, e⟩
  · exact absurd ha (h _ (List.getElem_mem hj))
  · obtain rfl := good_uniq xs hg i j hx hj (hia.trans ha.symm)
    exact e
theorem szs_append (a b : List S63) : szs (a ++ b) = szs a + szs b := by unfold szs; rw [List.map_append, List.sum_append]
theorem uss_append (a b : List S63) : uss (a ++ b) = uss a + uss b := by unfold uss; rw [List.map_append, List.sum_append]
theorem sums_new (xs : List S63) (p : Nat) (x : S63) (hx : x.f2 = 1) : szs (xs.take p ++ x :: xs.drop p) = szs xs + (((ls1Part x).length : Int) + 1) ∧ uss (xs.take p ++ x :: xs.drop p) = uss xs + (((ls1Part x).length : Int) + 1) := by
  have h1 : szs xs = szs (xs.take p) + szs (xs.drop p) := by rw [← szs_append, List.take_append_drop]
  have h2 : uss xs = uss (xs.take p) + uss (xs.drop p) := by rw [← uss_append, List.take_append_drop]
  rw [szs_append, uss_append, szs_cons, uss_cons, hx, h1, h2, Int.mul_one]
  omega
theorem sums_set (xs : List S63) (j : Nat) (hj : j < xs.length) (x : S63) (hl : ls1Part x = ls1Part xs[j]) (hu : x.f2 = (xs[j]).f2 + 1) : szs (xs.set j x) = szs xs ∧ uss (xs.set j x) = uss xs + (((ls1Part x).length : Int) + 1) := by
  have e := List.set_eq_take_append_cons_drop (l := xs) (i := j) (a := x)
  rw [if_pos hj] at e
  have ex : xs = xs.take j ++ xs[j] :: xs.drop (j + 1) := by rw [← List.drop_eq_getElem_cons hj, List.take_append_drop]
  have h1 : szs xs = szs (xs.take j) + (((ls1Part xs[j]).length : Int) + 1 + szs (xs.drop (j + 1))) := by rw [← szs_cons, ← szs_append, ← ex]
  have h2 : uss xs = uss (xs.take j) + ((((ls1Part xs[j]).length : Int) + 1) * (xs[j]).f2 + uss (xs.drop (j + 1))) := by rw [← uss_cons, ← uss_append, ← ex]
  rw [e, szs_append, uss_append, szs_cons, uss_cons, h1, h2, hl, hu, Int.mul_add, Int.mul_one]
  omega
theorem get_is (xs : List S63) (a : Int) (hg : Good xs) (hi : ∀ x ∈ xs, (ls1Part x).length ≤ 1048576) (j : Nat) (hj : j < xs.length) (p : S63) (hp : xs[j] = p) (ha : p.f0 = a) : Ev (fun k => spec_GetPart.f k xs a) (p.f1.f0, p.f1.f1, p.f1.f2.f0, p.f1.f2.f1, p.f1.f2.f2, true) ∧ Ev (fun k => impl_GetPart.f k xs a) (p.f1.f0, p.f1.f1, p.f1.f2.f0, p.f1.f2.f1, p.f1.f2.f2, true) := by
  subst hp
  exact get_at xs a hg hi j hj ha
theorem rest_of {l0 : List Int} {xs ys : List S63} {d : Int} {q h : S36} {had : Bool} {s t : List S63} {p : Bool}
    (eT : Ev (fun k => impl_TakePart.f k ys d) (xs, true)) (eE : Ev (fun k => impl_EqualStores.f k xs xs) true)
    (eG : Ev (fun k => impl_GetPart.f k xs d) (h.f0, h.f1, h.f2.f0, h.f2.f1, h.f2.f2, had))
    (eA : Ev (fun k => impl_StoredSize.f k xs) (szs xs, uss xs)) (eC : Ev (fun k => impl_StoredSize.f k ys) (szs ys, uss ys))
    (eZ : impl_SizeOf.f q.f0 q.f1 q.f2.f0 q.f2.f1 q.f2.f2 = some ((q.f1.length : Int) + 1))
    (c1 : if had = true then szs ys = szs xs else szs ys = wrap64 (szs xs + ((q.f1.length : Int) + 1))) (c2 : uss ys = wrap64 (uss xs + ((q.f1.length : Int) + 1))) (c3 : szs xs ≤ uss xs)
    (eW : Ev (fun k => spec_DrawEqualStores.f k l0) (s, t)) (x1 : Ev (fun k => impl_EqualStores.f k s t) p) (x2 : Ev (fun k => impl_EqualStores.f k t s) p) (x3 : Ev (fun k => impl_EqualStores.f k s s) true) :
    ∃ K, ∀ k, K ≤ k → laws_FnParts.rest k l0 xs ys d q.f0 q.f1 q.f2.f0 q.f2.f1 q.f2.f2 := by
  obtain ⟨K0, eT⟩ := eT
  obtain ⟨K1, eE⟩ := eE
  obtain ⟨K2, eG⟩ := eG
  obtain ⟨K3, eA⟩ := eA
  obtain ⟨K4, eC⟩ := eC
  obtain ⟨K5, eW⟩ := eW
  obtain ⟨K6, x1⟩ := x1
  obtain ⟨K7, x2⟩ := x2
  obtain ⟨K8, x3⟩ := x3
  exact ⟨K0 + K1 + K2 + K3 + K4 + K5 + K6 + K7 + K8, fun k hk => ⟨xs, had, _, _, _, _, _, _, _, _, _, _, s, t, p, eT k (by omega), eE k (by omega), eG k (by omega), eA k (by omega), eC k (by omega), eZ, c1, c2, c3, eW k (by omega), x1 k (by omega), x2 k (by omega), x3 k (by omega)⟩⟩
theorem done_of {l0 : List Int} {xs ys : List S63} {d : Int} {q y o : S36} {was : Bool} 
    (d1 : Ev (fun k => impl_DigestOf.f k q.f0 q.f1 q.f2.f0 q.f2.f1 q.f2.f2) d) (d2 : Ev (fun k => spec_DigestOf.f k q.f0 q.f1 q.f2.f0 q.f2.f1 q.f2.f2) d)
    (eY : Ev (fun k => impl_GetPart.f k ys d) (y.f0, y.f1, y.f2.f0, y.f2.f1, y.f2.f2, true)) (eO : Ev (fun k => spec_GetPart.f k xs d) (o.f0, o.f1, o.f2.f0, o.f2.f1, o.f2.f2, was))
    (iI : Ev (fun k => impl_IsStore.f k ys) true)
    (h : ∃ K, ∀ k, K ≤ k → (was = true ∧ spec_EqualResources.f k o.f0 o.f1 o.f2.f0 o.f2.f1 o.f2.f2 q.f0 q.f1 q.f2.f0 q.f2.f1 q.f2.f2 = some false ∧ impl_EqualResources.f k y.f0 y.f1 y.f2.f0 y.f2.f1 y.f2.f2 o.f0 o.f1 o.f2.f0 o.f2.f1 o.f2.f2 = some true) ∨
     (((was = true ∧ spec_EqualResources.f k o.f0 o.f1 o.f2.f0 o.f2.f1 o.f2.f2 q.f0 q.f1 q.f2.f0 q.f2.f1 q.f2.f2 = some true) ∨ was = false) ∧ impl_EqualResources.f k y.f0 y.f1 y.f2.f0 y.f2.f1 y.f2.f2 q.f0 q.f1 q.f2.f0 q.f2.f1 q.f2.f2 = some true ∧ laws_FnParts.rest k l0 xs ys d q.f0 q.f1 q.f2.f0 q.f2.f1 q.f2.f2)) :
    ∃ K, ∀ k, K ≤ k → laws_FnParts.done k l0 xs ys q.f0 q.f1 q.f2.f0 q.f2.f1 q.f2.f2 := by
  obtain ⟨K0, d1⟩ := d1
  obtain ⟨K1, d2⟩ := d2
  obtain ⟨K2, eY⟩ := eY
  obtain ⟨K3, eO⟩ := eO
  obtain ⟨K4, iI⟩ := iI
  obtain ⟨K5, h⟩ := h
  exact ⟨K0 + K1 + K2 + K3 + K4 + K5, fun k hk => ⟨d, d, _, _, _, _, _, _, _, _, _, _, was, d1 k (by omega), eY k (by omega), d2 k (by omega), eO k (by omega), iI k (by omega), h k (by omega)⟩⟩
theorem eqR_self (q : S36) : eqR q.f0 q.f1 q.f2.f0 q.f2.f1 q.f2.f2 q.f0 q.f1 q.f2.f0 q.f2.f1 q.f2.f2 = true := by
  unfold eqR
  exact decide_eq_true ⟨rfl, by simp, rfl⟩
theorem eqR_true {o q : S36} (h : eqR o.f0 o.f1 o.f2.f0 o.f2.f1 o.f2.f2 q.f0 q.f1 q.f2.f0 q.f2.f1 q.f2.f2 = true) : o = q := by
  unfold eqR at h
  obtain ⟨a, b, c⟩ := of_decide_eq_true h
  obtain ⟨k, bd, ⟨ho, pa, qu⟩⟩ := o
  obtain ⟨k', bd', ⟨ho', pa', qu'⟩⟩ := q
  simp only [Bool.and_eq_true, beq_iff_eq] at a b c
  obtain ⟨rfl, rfl, rfl⟩ := b
  subst a
  subst c
  rfl
theorem FnParts : ∀ (x0 : List Int), (x0.length ≤ 9223372036854775807 ∧ ∀ y ∈ x0, (Lit.int .u8 y).wf = true) → ∃ k, laws_FnParts.f k x0 := by
  intro l _
  by_cases hb : (l.length : Int) > 1048576
  · exact ⟨0, .inl (by rw [big_val, decide_eq_true hb])⟩
  have eB : laws_big.f l = some false := by rw [big_val, decide_eq_false hb]
  obtain ⟨xs, q, ⟨K0, eD⟩, hs, hq⟩ := drawPut_ev l (by omega)
  have hso := small_ok hs (by decide)
  obtain ⟨t, R, ef, ht, _, ⟨K1, eI⟩, hR⟩ := putPart_ev xs q hso.1 hso.2 (Nat.le_trans hq (by decide))
  rcases hR with ⟨rfl, _⟩ | ⟨rfl, g1, g2⟩
  · obtain ⟨K2, e2⟩ := eqStores_ev xs xs hso.1 hso.2
    rw [dec_true rfl] at e2
    exact ⟨K0 + K1 + K2, .inr ⟨eB, xs, _, _, _, _, _, xs, false, eD _ (by omega), eI _ (by omega), .inl ⟨rfl, e2 _ (by omega)⟩⟩⟩
  · have d1 := impl_DigestOf_ev q.f0 q.f1 q.f2.f0 q.f2.f1 q.f2.f2 (by omega)
    have d2 := spec_DigestOf_ev q.f0 q.f1 q.f2.f0 q.f2.f1 q.f2.f2 (by omega)
    generalize hashOf (resInts q.f0 q.f1 q.f2.f0 q.f2.f1 q.f2.f2) = d at ef eI g2 d1 d2
    obtain ⟨s', t', eW, hs', ht'⟩ := drawEq_ev l (by omega)
    have hso' := small_ok hs' (by decide)
    have hto' := small_ok ht' (by decide)
    have x1 := eqStores_ev s' t' hso'.1 hso'.2
    have x2 := eqStores_ev t' s' hto'.1 hto'.2
    have x3 := eqStores_ev s' s' hso'.1 hso'.2
    rw [dec_true rfl] at x3
    rw [show dec (t' = s') = dec (s' = t') from dec_iff ⟨fun w => w.symm, fun w => w.symm⟩] at x2
    have hys8 := putOut_mem xs d t q 8 ht hs.2 hq
    have hys : ∀ x ∈ putOut xs d t q, (ls1Part x).length ≤ 1048576 := fun x hx => Nat.le_trans (hys8 x hx) (by decide)
    have hyn : (putOut xs d t q).length ≤ 1048576 := Nat.le_trans g2.1 (by decide)
    obtain ⟨bI, _, iI, bg⟩ := store_ev (putOut xs d t q) hyn hys
    obtain rfl : bI = true := bg.2 g2
    have ux : Used xs := fun x hx => ⟨hs.2 x hx, good_uses xs g1 x hx⟩
    have uy : Used (putOut xs d t q) := fun x hx => ⟨hys8 x hx, good_uses _ g2 x hx⟩
    have sx := stored_ev xs (by have := hs.1; omega) ux
    have sy := stored_ev (putOut xs d t q) (by have := g2.1; omega) uy
    have bx := sums_bound xs ux
    have ezs := eqStores_ev xs xs hso.1 hso.2
    rw [dec_true rfl] at ezs
    have eSz : impl_SizeOf.f q.f0 q.f1 q.f2.f0 q.f2.f1 q.f2.f2 = some ((q.f1.length : Int) + 1) := by
      unfold impl_SizeOf.f
      rw [w64 (by omega) (by omega)]
    obtain ⟨tt, f1, _, hw⟩ := find_whole xs d hso.1 xs.length 0 (Nat.zero_add _)
    obtain rfl : t = tt := ev_unique ef f1
    have eWE : Ev (fun k => spec_DrawEqualStores.f k l) (s', t') := eW
    suffices hd : ∃ K, ∀ k, K ≤ k → laws_FnParts.done k l xs (putOut xs d t q) q.f0 q.f1 q.f2.f0 q.f2.f1 q.f2.f2 by
      obtain ⟨K2, e2⟩ := hd
      exact ⟨K0 + K1 + K2, .inr ⟨eB, xs, _, _, _, _, _, _, true, eD _ (by omega), eI _ (by omega), .inr ⟨rfl, e2 _ (by omega)⟩⟩⟩
    have hq64 : q.f1.length ≤ 9223372036854775807 := by omega
    have hl1 := hs.1
    rcases hw with ⟨rfl, hno⟩ | ⟨j, rfl, hj, hjd⟩
    · have hp := put_at_le xs d
      have eO : putOut xs d (-1) q = xs.take (put_at xs d) ++ (⟨d, q, 1⟩ : S63) :: xs.drop (put_at xs d) := by
        unfold putOut
        rw [if_neg (by decide)]
      generalize put_at xs d = p at hp eO
      generalize putOut xs d (-1) q = ys at *
      have hl : (xs.take p).length = p := by rw [List.length_take]; omega
      have hpy : p < ys.length := by rw [eO, List.length_append, hl, List.length_cons]; omega
      have eg : ys[p] = (⟨d, q, 1⟩ : S63) := by
        subst eO
        rw [List.getElem_append_right (by omega)]
        simp only [hl, Nat.sub_self, List.getElem_cons_zero]
      have eY := (get_is ys d g2 hys p hpy _ eg rfl).2
      have eT := takeI_ev ys d g2 hys p hpy (find_at ys d g2 p hpy (by rw [eg]))
      have etk : took ys p hpy = xs := by
        subst eO
        exact took_new xs p hp _ rfl hpy
      rw [etk] at eT
      rcases get_ev xs d hso.1 hso.2 with ⟨_, gs, gi⟩ | ⟨i, hi, hia, _⟩
      · have es := sums_new xs p (⟨d, q, 1⟩ : S63) rfl
        rw [← eO] at es
        obtain ⟨es1, es2⟩ := es
        have es1' : szs ys = szs xs + ((q.f1.length : Int) + 1) := es1
        have es2' : uss ys = uss xs + ((q.f1.length : Int) + 1) := es2
        obtain ⟨KR, hR⟩ := rest_of (l0 := l) (xs := xs) (ys := ys) (d := d) (q := q) (h := ⟨0, [], ⟨0, 0, 0⟩⟩) (had := false) eT ezs gi sx sy eSz (by rw [if_neg (by decide), w64 (by omega) (by omega)]; exact es1') (by rw [w64 (by omega) (by omega)]; exact es2') bx.2.1 eW x1 x2 x3
        obtain ⟨KE, hE⟩ := impl_EqualResources_ev q.f0 q.f1 q.f2.f0 q.f2.f1 q.f2.f2 q.f0 q.f1 q.f2.f0 q.f2.f1 q.f2.f2 hq64
        rw [eqR_self] at hE
        exact done_of (y := q) (o := ⟨0, [], ⟨0, 0, 0⟩⟩) (was := false) d1 d2 eY gs iI ⟨KR + KE, fun k hk => .inr ⟨.inr rfl, hE k (by omega), hR k (by omega)⟩⟩
      · exact absurd hia (hno i (Nat.zero_le _) hi)
    · have eO : putOut xs d (j : Int) q = put_use xs (j : Int) := by
        unfold putOut
        rw [if_pos (by omega)]
      generalize putOut xs d (j : Int) q = ys at *
      subst eO
      have hux := ux _ (List.getElem_mem hj)
      have ep := put_use_at xs j hj
      have hpy : j < (put_use xs (j : Int)).length := by rw [ep, List.length_set]; exact hj
      have eg : (put_use xs (j : Int))[j] = ⟨(xs[j]).f0, (xs[j]).f1, wrap64 ((xs[j]).f2 + 1)⟩ := by
        simp only [ep, List.getElem_set_self]
      have eY := (get_is _ d g2 hys j hpy _ eg hjd).2
      obtain ⟨gs, gi⟩ := get_is xs d g1 hso.2 j hj _ rfl hjd
      have eT := takeI_ev _ d g2 hys j hpy (find_at _ d g2 j hpy (by rw [eg]; exact hjd))
      rw [took_use xs j hj hux.2.1 hux.2.2 hpy] at eT
      obtain ⟨KE, hE⟩ := spec_EqualResources_ev (xs[j]).f1.f0 (xs[j]).f1.f1 (xs[j]).f1.f2.f0 (xs[j]).f1.f2.f1 (xs[j]).f1.f2.f2 q.f0 q.f1 q.f2.f0 q.f2.f1 q.f2.f2 (Nat.le_trans hux.1 (by decide))
      have hF := impl_EqualResources_ev (xs[j]).f1.f0 (xs[j]).f1.f1 (xs[j]).f1.f2.f0 (xs[j]).f1.f2.f1 (xs[j]).f1.f2.f2 (xs[j]).f1.f0 (xs[j]).f1.f1 (xs[j]).f1.f2.f0 (xs[j]).f1.f2.f1 (xs[j]).f1.f2.f2 (Nat.le_trans hux.1 (by decide))
      rw [eqR_self] at hF
      obtain ⟨KF, hF⟩ := hF
      refine done_of (y := (xs[j]).f1) (o := (xs[j]).f1) (was := true) d1 d2 eY gs iI ?_
      cases hc : eqR (xs[j]).f1.f0 (xs[j]).f1.f1 (xs[j]).f1.f2.f0 (xs[j]).f1.f2.f1 (xs[j]).f1.f2.f2 q.f0 q.f1 q.f2.f0 q.f2.f1 q.f2.f2 with
      | false =>
        rw [hc] at hE
        exact ⟨KE + KF, fun k hk => .inl ⟨rfl, hE k (by omega), hF k (by omega)⟩⟩
      | true =>
        rw [hc] at hE
        have eq := eqR_true hc
        have es := sums_set xs j hj ⟨(xs[j]).f0, (xs[j]).f1, wrap64 ((xs[j]).f2 + 1)⟩ rfl (w64 (by omega) (by omega))
        rw [← ep] at es
        obtain ⟨es1, es2⟩ := es
        have es2' : uss (put_use xs (j : Int)) = uss xs + ((q.f1.length : Int) + 1) := by
          rw [← eq]
          exact es2
        obtain ⟨KR, hR⟩ := rest_of (l0 := l) (xs := xs) (ys := put_use xs (j : Int)) (d := d) (q := q) (h := (xs[j]).f1) (had := true) eT ezs gi sx sy eSz (by rw [if_pos rfl]; exact es1) (by rw [w64 (by omega) (by omega)]; exact es2') bx.2.1 eW x1 x2 x3
        exact ⟨KE + KF + KR, fun k hk => .inr ⟨.inl ⟨rfl, hE k (by omega)⟩, by have := hF k (by omega); rw [eq] at this ⊢; exact this, hR k (by omega)⟩⟩

end Go.Proofs.Ytlpfobakbgipbaa.Pure
