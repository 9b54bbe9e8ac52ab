/- The pure statement behind the law FnKeyedHash: over numbers and lists the law answers true, at every input that the row's bounds let in. -/
import Derived.Test.YtgcidlnhgpjdpabQFnKeyedHashx2
import Derived.Test.YtgcidlnhgpjdpabQFnKeyedHashg
namespace Go.Proofs.Ytgcidlnhgpjdpab.Pure
open Go Go.RowKit Go.Proofs.Ytgcidlnhgpjdpab.QFnKeyedHash Go.Proofs.YtgcidlnhgpjdpabW.PrintWords Go.Proofs.YtgcidlnhgpjdpabW.PrintLast Go.Proofs.YtgcidlnhgpjdpabW.PrintMore
set_option linter.unusedVariables false
set_option linter.unusedSimpArgs false
set_option maxRecDepth 100000

theorem w64 {x : Int} (h0 : -9223372036854775808 ≤ x) (h1 : x ≤ 9223372036854775807) : wrap64 x = x := by unfold wrap64; omega
theorem wf8 {x : Int} (h : (Lit.int .u8 x).wf = true) : 0 ≤ x ∧ x ≤ 255 := by
  simp [Lit.wf, IntKind.min, IntKind.max, IntKind.signed, IntKind.bits] at h
  omega
theorem ev_pos {α : Type} {c : Prop} [Decidable c] {g f : Nat → Option α} {r : α} (h : c) (k : Ev g r) : Ev (fun n => if c then g n else f n) r := by
  obtain ⟨K, hK⟩ := k
  exact ⟨K, fun n hn => (if_pos h).trans (hK n hn)⟩
theorem ev_neg {α : Type} {c : Prop} [Decidable c] {g f : Nat → Option α} {r : α} (h : ¬ c) (k : Ev f r) : Ev (fun n => if c then g n else f n) r := by
  obtain ⟨K, hK⟩ := k
  exact ⟨K, fun n hn => (if_neg h).trans (hK n hn)⟩
theorem ev_bind0 {α β : Type} {o : Option α} {f : Nat → α → Option β} {a : α} {r : β} (h : o = some a) (k : Ev (fun n => f n a) r) : Ev (fun n => o.bind (f n)) r := by
  subst h
  exact k
theorem ev_of {α : Type} {o : Option α} {r : α} (h : o = some r) : Ev (fun _ => o) r := ⟨0, fun _ _ => h⟩
theorem rd_at (xs : List Int) (i : Nat) (h : i < xs.length) : rd xs (i : Int) = xs[i] := by
  unfold rd
  rw [Int.toNat_natCast, List.getD_eq_getElem?_getD, List.getElem?_eq_getElem h]
  rfl
theorem l1In_val (a b c : Int) : spec_l1In.f a b c = some (decide (b ≤ a ∧ a ≤ c)) := by
  unfold spec_l1In.f
  by_cases h : a ≥ b
  · rw [if_pos h]; simp [h]
  · rw [if_neg h]; simp [h]
theorem inRange_val (a b c : Int) : impl_InRange.f a b c = some (decide (b ≤ a ∧ a ≤ c)) := by
  unfold impl_InRange.f
  by_cases h : b ≤ a
  · rw [if_pos h]; simp [h]
  · rw [if_neg h]; simp [h]
theorem tmod_twice (a b : Int) (h1 : 1 ≤ b) (h2 : b ≤ 1000000000000) : Int.tmod (wrap64 (Int.tmod a b + b)) b = a % b := by
  have hlt : Int.tmod a b < b := Int.tmod_lt_of_pos a (by omega)
  have hgt : -b < Int.tmod a b := by
    have h := Int.tmod_lt_of_pos (-a) (show 0 < b by omega)
    rw [Int.neg_tmod] at h
    omega
  rw [w64 (by omega) (by omega), Int.tmod_eq_emod_of_nonneg (by omega), Int.add_emod_right]
  have e : Int.tmod a b = a - b * (a.tdiv b) := Int.tmod_def a b
  rw [e, Int.sub_mul_emod_self_left]
theorem spec_Mod_val (a b : Int) (h1 : 1 ≤ b) (h2 : b ≤ 1000000000000) : spec_Mod.f a b = some (a % b) := by
  unfold spec_Mod.f
  rw [l1In_val]
  simp only [Option.bind_some, h1, h2, and_self, decide_true, if_true]
  rw [if_neg (by omega), tmod_twice a b h1 h2]
theorem impl_Mod_val (a b : Int) (h1 : 1 ≤ b) (h2 : b ≤ 1000000000000) : impl_Mod.f a b = some (a % b) := by
  unfold impl_Mod.f
  rw [inRange_val]
  simp only [Option.bind_some, h1, h2, and_self, decide_true, if_true]
  rw [if_neg (by omega), tmod_twice a b h1 h2]
def hstep (h v : Int) : Int := (h * 1000003 + v % 2147483647 + 13) % 2147483647
def hashOf (l : List Int) : Int := l.foldl hstep 11
theorem hstep_range (h v : Int) : 0 ≤ hstep h v ∧ hstep h v < 2147483647 := by unfold hstep; omega
theorem hfold_range (l : List Int) : ∀ h : Int, 0 ≤ h → h < 2147483647 → 0 ≤ l.foldl hstep h ∧ l.foldl hstep h < 2147483647 := by
  induction l with
  | nil => intro h h0 h1; exact ⟨h0, h1⟩
  | cons v l ih => intro h _ _; exact ih _ (hstep_range h v).1 (hstep_range h v).2
theorem hashOf_range (l : List Int) : 0 ≤ hashOf l ∧ hashOf l < 2147483647 := hfold_range l 11 (by omega) (by omega)
theorem hstep_wrap (h v : Int) (h0 : 0 ≤ h) (h1 : h < 2147483647) : Int.tmod (wrap64 ((wrap64 ((wrap64 (h * 1000003)) + v % 2147483647)) + 13)) 2147483647 = hstep h v := by
  have e1 : wrap64 (h * 1000003) = h * 1000003 := w64 (by omega) (by omega)
  have e2 : wrap64 (h * 1000003 + v % 2147483647) = h * 1000003 + v % 2147483647 := w64 (by omega) (by omega)
  rw [e1, e2, w64 (by omega) (by omega), Int.tmod_eq_emod_of_nonneg (by omega)]
  rfl
theorem impl_Hash_l0 (xs : List Int) (hn : xs.length ≤ 4611686018427387904) : ∀ (d i : Nat) (h : Int), i + d = xs.length → 0 ≤ h → h < 2147483647 → Ev (fun k => impl_Hash.l0 k h xs (xs.length : Int) (i : Int)) ((xs.drop i).foldl hstep h) := by
  intro d
  induction d with
  | zero =>
    intro i h hd h0 h1
    refine Ev.step (fun _ => impl_Hash.l0.eq_2 ..) (ev_neg (by omega) (ev_of ?_))
    rw [List.drop_eq_nil_of_le (by omega)]
    rfl
  | succ d ih =>
    intro i h hd h0 h1
    refine Ev.step (fun _ => impl_Hash.l0.eq_2 ..) (ev_pos (by omega) (ev_pos (by omega) (ev_pos (by omega) (ev_bind0 (impl_Mod_val _ _ (by omega) (by omega)) ?_))))
    rw [hstep_wrap h _ h0 h1, w64 (by omega) (by omega), List.drop_eq_getElem_cons (show i < xs.length by omega), List.foldl_cons, ← rd_at xs i (by omega)]
    exact ih (i + 1) _ (by omega) (hstep_range _ _).1 (hstep_range _ _).2
theorem impl_Hash_ev (xs : List Int) (hn : xs.length ≤ 4611686018427387904) : Ev (fun k => impl_Hash.f k xs) (hashOf xs) := by
  unfold impl_Hash.f
  exact impl_Hash_l0 xs hn xs.length 0 11 (by omega) (by omega) (by omega)
theorem impl_KeyedHash_ev (a : Int) (l : List Int) (h : l.length ≤ 1048578) : Ev (fun k => impl_KeyedHash.f k a l) (hashOf ([a] ++ l ++ [a])) := by
  unfold impl_KeyedHash.f
  refine ev_bind0 rfl (ev_pos (by simp only [List.length_cons, List.length_nil]; omega) (ev_bind0 rfl (ev_pos (by simp only [List.length_append, List.length_cons, List.length_nil]; omega) ?_)))
  exact Ev.bind (impl_Hash_ev _ (by simp only [List.length_append, List.length_cons, List.length_nil]; omega)) (Ev.now _)
theorem hstep_inj (h h' v : Int) (h0 : 0 ≤ h) (h1 : h < 2147483647) (k0 : 0 ≤ h') (k1 : h' < 2147483647) (e : hstep h v = hstep h' v) : h = h' := by
  unfold hstep at e
  have e1 := Int.emod_eq_emod_iff_emod_sub_eq_zero.1 e
  obtain ⟨t, ht⟩ := Int.dvd_of_emod_eq_zero e1
  have e2 : 1000003 * (h - h') = 2147483647 * t := by rw [← ht, Int.mul_sub]; omega
  clear e e1 ht
  omega
theorem hstep_val (h v v' : Int) (e : hstep h v = hstep h v') : v % 2147483647 = v' % 2147483647 := by
  unfold hstep at e
  omega
theorem hfold_inj (l : List Int) : ∀ h h' : Int, 0 ≤ h → h < 2147483647 → 0 ≤ h' → h' < 2147483647 → l.foldl hstep h = l.foldl hstep h' → h = h' := by
  induction l with
  | nil => intro h h' _ _ _ _ e; exact e
  | cons v l ih =>
    intro h h' a b c d e
    exact hstep_inj h h' v a b c d (ih _ _ (hstep_range h v).1 (hstep_range h v).2 (hstep_range h' v).1 (hstep_range h' v).2 e)
theorem hashOf_set (k v : Int) (l : List Int) (i : Nat) (hi : i < l.length) (hv : v % 2147483647 ≠ l[i] % 2147483647) : hashOf ([k] ++ l.set i v ++ [k]) ≠ hashOf ([k] ++ l ++ [k]) := by
  intro e
  have hs : l.set i v = l.take i ++ v :: l.drop (i + 1) := by rw [List.set_eq_take_append_cons_drop, if_pos hi]
  have hd : l = l.take i ++ l[i] :: l.drop (i + 1) := by rw [← List.drop_eq_getElem_cons hi, List.take_append_drop]
  unfold hashOf at e
  rw [hs] at e
  conv at e => rhs; rw [hd]
  simp only [List.foldl_append, List.foldl_cons, List.foldl_nil] at e
  have r0 := hfold_range (l.take i) (hstep 11 k) (hstep_range _ _).1 (hstep_range _ _).2
  have r1 := hfold_range (l.drop (i + 1)) _ (hstep_range ((l.take i).foldl hstep (hstep 11 k)) v).1 (hstep_range _ _).2
  have r2 := hfold_range (l.drop (i + 1)) _ (hstep_range ((l.take i).foldl hstep (hstep 11 k)) l[i]).1 (hstep_range _ _).2
  have e1 := hstep_inj _ _ _ r1.1 r1.2 r2.1 r2.2 e
  have e2 := hfold_inj _ _ _ (hstep_range _ _).1 (hstep_range _ _).2 (hstep_range _ _).1 (hstep_range _ _).2 e1
  exact hv (hstep_val _ _ _ e2)
theorem rd_byte (l : List Int) (hw : ∀ x ∈ l, (Lit.int .u8 x).wf = true) (i : Int) : 0 ≤ rd l i ∧ rd l i ≤ 255 := by
  unfold rd
  rw [List.getD_eq_getElem?_getD]
  cases h : l[i.toNat]? with
  | none => simp
  | some x => exact wf8 (hw x (List.mem_of_getElem? h))
theorem at_some (l : List Int) (hl : l.length ≤ 1048576) (hw : ∀ x ∈ l, (Lit.int .u8 x).wf = true) (i : Int) (h0 : 0 ≤ i) (h1 : i ≤ 1048576) : ∃ x, laws_at.f l i = some x ∧ 0 ≤ x ∧ x ≤ 255 := by
  unfold laws_at.f
  by_cases c : i < (l.length : Int)
  · have hb := rd_byte l hw i
    rw [if_pos c, if_pos h0, w64 (by omega) (by omega)]
    exact ⟨_, rfl, hb.1, hb.2⟩
  · rw [if_neg c, w64 (x := i * 31) (by omega) (by omega), w64 (x := (l.length : Int) * 7) (by omega) (by omega), w64 (by omega) (by omega), Int.tmod_eq_emod_of_nonneg (by omega)]
    exact ⟨_, rfl, by omega, by omega⟩
theorem impl_BytesToInts_l0 (l : List Int) (hl : l.length ≤ 1099511627776) (hw : ∀ x ∈ l, (Lit.int .u8 x).wf = true) : ∀ (d i : Nat) (out : List Int), i + d = l.length → out.length = i + 1 → Ev (fun k => impl_BytesToInts.l0 k out l (l.length : Int) (i : Int)) (out ++ l.drop i) := by
  intro d
  induction d with
  | zero =>
    intro i out hd ho
    refine Ev.step (fun _ => impl_BytesToInts.l0.eq_2 ..) (ev_neg (by omega) (ev_of ?_))
    rw [List.drop_eq_nil_of_le (by omega), List.append_nil]
  | succ d ih =>
    intro i out hd ho
    refine Ev.step (fun _ => impl_BytesToInts.l0.eq_2 ..) (ev_pos (by omega) (ev_pos (by omega) (ev_pos (by omega) (ev_pos (by omega) ?_))))
    have hb := wf8 (hw _ (List.getElem_mem (show i < l.length by omega)))
    rw [rd_at l i (by omega), w64 (x := (i : Int) + 1) (by omega) (by omega), w64 (x := l[i]'(by omega)) (by omega) (by omega)]
    have h := ih (i + 1) (out ++ [l[i]'(by omega)]) (by omega) (by simp; omega)
    rw [List.append_assoc, List.singleton_append, ← List.drop_eq_getElem_cons (show i < l.length by omega)] at h
    exact h
theorem impl_BytesToInts_ev (l : List Int) (hl : l.length ≤ 1099511627776) (hw : ∀ x ∈ l, (Lit.int .u8 x).wf = true) : Ev (fun k => impl_BytesToInts.f k l) ((l.length : Int) :: l) := by
  unfold impl_BytesToInts.f
  exact impl_BytesToInts_l0 l hl hw l.length 0 _ (by omega) (by simp)
theorem wf8_mk {x : Int} (h0 : 0 ≤ x) (h1 : x ≤ 255) : (Lit.int .u8 x).wf = true := by
  simp [Lit.wf, IntKind.min, IntKind.max, IntKind.signed, IntKind.bits]
  omega
def derOf (a : Int) (s : ByteArray) : Int := if hashOf ([a] ++ (((bytesOf s).length : Int) :: bytesOf s) ++ [a]) = 0 then 1 else hashOf ([a] ++ (((bytesOf s).length : Int) :: bytesOf s) ++ [a])
theorem bytes_wf (s : ByteArray) : ∀ x ∈ bytesOf s, (Lit.int .u8 x).wf = true := by
  intro x hx
  unfold bytesOf at hx
  obtain ⟨b, _, rfl⟩ := List.mem_map.1 hx
  have := b.toNat_lt
  exact wf8_mk (by omega) (by omega)
theorem impl_DeriveFromString_ev (a : Int) (s : ByteArray) (hn : s.size ≤ 1048577) : Ev (fun k => impl_DeriveFromString.f k a s) (derOf a s) := by
  unfold impl_DeriveFromString.f
  rw [List.nil_append]
  have hl := bytesOf_length s
  refine ev_pos (by rw [List.length_nil]; omega) (Ev.bind (impl_BytesToInts_ev _ (by omega) (bytes_wf s)) (Ev.bind (impl_KeyedHash_ev _ _ (by rw [List.length_cons]; omega)) ?_))
  unfold derOf
  generalize hashOf ([a] ++ (((bytesOf s).length : Int) :: bytesOf s) ++ [a]) = h
  by_cases c : h = 0
  · rw [show (if h = 0 then (1 : Int) else h) = 1 from if_pos c]
    exact ev_pos c (Ev.now _)
  · rw [show (if h = 0 then (1 : Int) else h) = h from if_neg c]
    exact ev_neg c (Ev.now _)
theorem big_val (l : List Int) : laws_big.f l = some (decide ((l.length : Int) > 1048576)) := rfl
theorem l1New_l0 (l : List Int) (hl : l.length ≤ 1099511627776) : ∀ (d i : Nat) (h : Int), i + d = l.length → ∃ h', Ev (fun k => spec_l1New.l0 k l h (i : Int)) (l, 0, h') := by
  intro d
  induction d with
  | zero =>
    intro i h hd
    exact ⟨h, Ev.step (fun _ => spec_l1New.l0.eq_2 ..) (ev_neg (by omega) (Ev.now _))⟩
  | succ d ih =>
    intro i h hd
    by_cases h4 : (i : Int) < 4000
    · obtain ⟨h', e⟩ := ih (i + 1) _ (by omega)
      refine ⟨h', Ev.step (fun _ => spec_l1New.l0.eq_2 ..) (ev_pos (by omega) (ev_pos h4 (ev_pos (by omega) ?_)))⟩
      rw [w64 (x := (i : Int) + 1) (by omega) (by omega)]
      exact e
    · exact ⟨h, Ev.step (fun _ => spec_l1New.l0.eq_2 ..) (ev_pos (by omega) (ev_neg h4 (Ev.now _)))⟩
theorem l1New_ev (l : List Int) (hl : l.length ≤ 1099511627776) : ∃ h, Ev (fun k => spec_l1New.f k l) (l, 0, h) := by
  unfold spec_l1New.f
  exact l1New_l0 l hl l.length 0 _ (by omega)
theorem and255 (y : Int) : 0 ≤ Go.bits .and .i64 y 255 ∧ Go.bits .and .i64 y 255 ≤ 255 := by
  have h : (BitVec.ofInt 64 y &&& BitVec.ofInt 64 255).toNat ≤ 255 := by
    rw [BitVec.toNat_and]
    exact Nat.le_trans Nat.and_le_right (by decide)
  have e : Go.bits .and .i64 y 255 = IntKind.i64.wrap ((BitVec.ofInt 64 y &&& BitVec.ofInt 64 255).toNat : Int) := rfl
  rw [e, IntKind.wrap_i64]
  omega
theorem l1Byte_some (b : List Int) (hb : b.length ≤ 1099511627776) (i h : Int) (h0 : 0 ≤ i) (h1 : i ≤ 1099511627776) : ∃ x i' h', spec_l1Byte.f b i h = some (x, i', h') ∧ 0 ≤ x ∧ x ≤ 255 ∧ 0 ≤ i' ∧ i' ≤ 1099511627776 := by
  unfold spec_l1Byte.f
  by_cases c : i < (b.length : Int)
  · rw [if_pos c, if_pos h0, w64 (x := i + 1) (by omega) (by omega)]
    exact ⟨_, _, _, rfl, (and255 _).1, (and255 _).2, by omega, by omega⟩
  · rw [if_neg c]
    exact ⟨_, _, _, rfl, (and255 _).1, (and255 _).2, h0, h1⟩
theorem l1Below_some (b : List Int) (hb : b.length ≤ 1099511627776) (i h n : Int) (h0 : 0 ≤ i) (h1 : i ≤ 1099511627776) : ∃ x i' h', spec_l1Below.f b i h n = some (x, i', h') ∧ 0 ≤ x ∧ (0 < n → x < n) ∧ (n ≤ 0 → x = 0) ∧ 0 ≤ i' ∧ i' ≤ 1099511627776 := by
  unfold spec_l1Below.f
  by_cases c : n ≤ 0
  · rw [if_pos c]
    exact ⟨_, _, _, rfl, by omega, fun h => by omega, fun _ => rfl, h0, h1⟩
  rw [if_neg c]
  by_cases c2 : n ≤ 256
  · rw [if_pos c2]
    obtain ⟨x, i', h', e, hx0, hx1, hi0, hi1⟩ := l1Byte_some b hb i h h0 h1
    rw [e, Option.bind_some, if_neg (by omega)]
    refine ⟨_, _, _, rfl, ?_, fun _ => ?_, fun h => by omega, hi0, hi1⟩
    · rw [Int.tmod_eq_emod_of_nonneg hx0]; exact Int.emod_nonneg _ (by omega)
    · rw [Int.tmod_eq_emod_of_nonneg hx0]; exact Int.emod_lt_of_pos _ (by omega)
  · rw [if_neg c2]
    obtain ⟨x, i', h', e, hx0, hx1, hi0, hi1⟩ := l1Byte_some b hb i h h0 h1
    rw [e, Option.bind_some]
    obtain ⟨y, i2, h2, e2, hy0, hy1, hi20, hi21⟩ := l1Byte_some b hb i' h' hi0 hi1
    rw [e2, Option.bind_some]
    obtain ⟨z, i3, h3, e3, hz0, hz1, hi30, hi31⟩ := l1Byte_some b hb i2 h2 hi20 hi21
    rw [e3, Option.bind_some, if_neg (by omega)]
    have ew : wrap64 ((wrap64 ((wrap64 (x * 65536)) + (wrap64 (y * 256)))) + z) = x * 65536 + y * 256 + z := by
      rw [w64 (x := x * 65536) (by omega) (by omega), w64 (x := y * 256) (by omega) (by omega), w64 (x := x * 65536 + y * 256) (by omega) (by omega), w64 (by omega) (by omega)]
    refine ⟨_, _, _, rfl, ?_, fun _ => ?_, fun h => by omega, hi30, hi31⟩
    · rw [ew, Int.tmod_eq_emod_of_nonneg (by omega)]; exact Int.emod_nonneg _ (by omega)
    · rw [ew, Int.tmod_eq_emod_of_nonneg (by omega)]; exact Int.emod_lt_of_pos _ (by omega)
theorem l1Once_some (b : List Int) (hb : b.length ≤ 1099511627776) (i h n : Int) (h0 : 0 ≤ i) (h1 : i ≤ 1099511627776) : ∃ x i' h', spec_l1Once.f b i h n = some (x, i', h') ∧ 0 ≤ i' ∧ i' ≤ 1099511627776 := by
  unfold spec_l1Once.f
  obtain ⟨x, i', h', e, _, _, _, hi0, hi1⟩ := l1Below_some b hb i h n h0 h1
  rw [e, Option.bind_some]
  exact ⟨_, _, _, rfl, hi0, hi1⟩
theorem l1Int_some (b : List Int) (hb : b.length ≤ 1099511627776) (i h : Int) (l : List Int) (hl : 0 < l.length) (h0 : 0 ≤ i) (h1 : i ≤ 1099511627776) : ∃ x i' h', spec_l1Int.f b i h l = some (x, i', h') ∧ x ∈ l ∧ 0 ≤ i' ∧ i' ≤ 1099511627776 := by
  unfold spec_l1Int.f
  obtain ⟨x, i', h', e, hx0, hx1, _, hi0, hi1⟩ := l1Below_some b hb i h (l.length : Int) h0 h1
  have hx := hx1 (by omega)
  rw [e, Option.bind_some, if_pos hx0, if_pos hx]
  refine ⟨_, _, _, rfl, ?_, hi0, hi1⟩
  obtain ⟨j, rfl⟩ := Int.eq_ofNat_of_zero_le hx0
  show rd l (j : Int) ∈ l
  rw [rd_at l j (by omega)]
  exact List.getElem_mem _
theorem l1Str_some (b : List Int) (hb : b.length ≤ 1099511627776) (i h : Int) (l : List ByteArray) (hl : 0 < l.length) (h0 : 0 ≤ i) (h1 : i ≤ 1099511627776) : ∃ x i' h', spec_l1Str.f b i h l = some (x, i', h') ∧ x ∈ l ∧ 0 ≤ i' ∧ i' ≤ 1099511627776 := by
  unfold spec_l1Str.f
  obtain ⟨x, i', h', e, hx0, hx1, _, hi0, hi1⟩ := l1Below_some b hb i h (l.length : Int) h0 h1
  have hx := hx1 (by omega)
  rw [e, Option.bind_some, if_pos hx0, if_pos hx]
  refine ⟨_, _, _, rfl, ?_, hi0, hi1⟩
  obtain ⟨j, rfl⟩ := Int.eq_ofNat_of_zero_le hx0
  have hj : j < l.length := by omega
  show rdOf ByteArray.empty l (j : Int) ∈ l
  unfold rdOf
  rw [Int.toNat_natCast, List.getD_eq_getElem?_getD, List.getElem?_eq_getElem hj]
  exact List.getElem_mem hj
theorem l3Word_some (b : List Int) (hb : b.length ≤ 1099511627776) (i h : Int) (h0 : 0 ≤ i) (h1 : i ≤ 1099511627776) : ∃ x i' h', spec_l3Word.f b i h = some (x, i', h') ∧ -1 ≤ x ∧ x ≤ 2147483648 ∧ 0 ≤ i' ∧ i' ≤ 1099511627776 := by
  unfold spec_l3Word.f
  obtain ⟨x, i', h', e, hi0, hi1⟩ := l1Once_some b hb i h 10 h0 h1
  rw [e, Option.bind_some]
  by_cases c : x = true
  · obtain ⟨y, i2, h2, e2, hm, hi20, hi21⟩ := l1Int_some b hb i' h' [(-1), 2147483647, 2147483648] (by decide) hi0 hi1
    simp only [List.mem_cons, List.not_mem_nil, or_false] at hm
    rw [if_pos c, e2, Option.bind_some]
    exact ⟨_, _, _, rfl, show -1 ≤ y by omega, show y ≤ _ by omega, hi20, hi21⟩
  · rw [if_neg c]
    obtain ⟨x2, i3, h3, e3, hi30, hi31⟩ := l1Once_some b hb i' h' 4 hi0 hi1
    rw [e3, Option.bind_some]
    by_cases c2 : x2 = true
    · obtain ⟨y, i2, h2, e2, hm, hi20, hi21⟩ := l1Int_some b hb i3 h3 [0, 1, 2147483646] (by decide) hi30 hi31
      simp only [List.mem_cons, List.not_mem_nil, or_false] at hm
      rw [if_pos c2, e2, Option.bind_some]
      exact ⟨_, _, _, rfl, show -1 ≤ y by omega, show y ≤ _ by omega, hi20, hi21⟩
    · obtain ⟨y, i2, h2, e2, hy0, hy1, _, hi20, hi21⟩ := l1Below_some b hb i3 h3 1000000 hi30 hi31
      obtain ⟨z, i4, h4, e4, hz0, hz1, _, hi40, hi41⟩ := l1Below_some b hb i2 h2 2000 hi20 hi21
      have hy := hy1 (by omega)
      have hz := hz1 (by omega)
      have hm0 : 0 ≤ y * z := Int.mul_nonneg hy0 hz0
      have hm1 : y * z ≤ 1000000 * 2000 := Int.mul_le_mul (by omega) (by omega) hz0 (by omega)
      rw [if_neg c2, e2, Option.bind_some, e4, Option.bind_some, w64 (x := y * z) (by omega) (by omega)]
      exact ⟨_, _, _, rfl, by omega, by omega, hi40, hi41⟩
theorem l3Words_l0 (b : List Int) (hb : b.length ≤ 1099511627776) : ∀ (d : Nat) (out : List Int) (i h : Int), out.length + d ≤ 8 → (∀ x ∈ out, -1 ≤ x ∧ x ≤ 2147483648) → 0 ≤ i → i ≤ 1099511627776 → ∃ l i' h', Ev (fun k => spec_l3Words.l0 k out (d : Int) b i h) (l, i', h') ∧ l.length ≤ 8 ∧ (∀ x ∈ l, -1 ≤ x ∧ x ≤ 2147483648) ∧ 0 ≤ i' ∧ i' ≤ 1099511627776 := by
  intro d
  induction d with
  | zero =>
    intro out i h ho hx h0 h1
    exact ⟨out, i, h, Ev.step (fun _ => spec_l3Words.l0.eq_2 ..) (ev_neg (by omega) (Ev.now _)), by omega, hx, h0, h1⟩
  | succ d ih =>
    intro out i h ho hx h0 h1
    obtain ⟨x, i2, h2, e, x0, x1, i20, i21⟩ := l3Word_some b hb i h h0 h1
    obtain ⟨l, i3, h3, e3, hl, hlx, i30, i31⟩ := ih (out ++ [x]) i2 h2 (by rw [List.length_append]; simp only [List.length_cons, List.length_nil]; omega) (fun y hy => by
      rcases List.mem_append.1 hy with q | q
      · exact hx y q
      · rw [List.mem_singleton.1 q]
        exact ⟨x0, x1⟩) i20 i21
    refine ⟨l, i3, h3, Ev.step (fun _ => spec_l3Words.l0.eq_2 ..) (ev_pos (by omega) (ev_bind0 e (ev_pos (by omega) ?_))), hl, hlx, i30, i31⟩
    rw [w64 (by omega) (by omega), show ((d + 1 : Nat) : Int) - 1 = (d : Int) by omega]
    exact e3
theorem l3Words_ev (b : List Int) (hb : b.length ≤ 1099511627776) (i h : Int) (h0 : 0 ≤ i) (h1 : i ≤ 1099511627776) : ∃ l i' h', Ev (fun k => spec_l3Words.f k b i h) (l, i', h') ∧ l.length ≤ 8 ∧ (∀ x ∈ l, -1 ≤ x ∧ x ≤ 2147483648) ∧ 0 ≤ i' ∧ i' ≤ 1099511627776 := by
  unfold spec_l3Words.f
  obtain ⟨x, i2, h2, e, x0, x1, _, i20, i21⟩ := l1Below_some b hb i h 5 h0 h1
  have hx := x1 (by omega)
  obtain ⟨l, i3, h3, e3, hl, hlx, i30, i31⟩ := l3Words_l0 b hb x.toNat [] i2 h2 (by simp only [List.length_nil]; omega) (fun y hy => by cases hy) i20 i21
  rw [Int.toNat_of_nonneg x0] at e3
  exact ⟨l, i3, h3, ev_bind0 e e3, hl, hlx, i30, i31⟩
theorem derOf_range (a : Int) (s : ByteArray) : 1 ≤ derOf a s ∧ derOf a s ≤ 2147483646 := by
  unfold derOf
  have hr := hashOf_range ([a] ++ (((bytesOf s).length : Int) :: bytesOf s) ++ [a])
  split <;> omega
theorem drawKeyed_ev (l : List Int) (hl : l.length ≤ 1048576) : ∃ (key : Int) (b : List Int), Ev (fun k => spec_DrawKeyedHash.f k l) (key, b) ∧ b.length ≤ 8 ∧ ∀ x ∈ b, -1 ≤ x ∧ x ≤ 2147483648 := by
  unfold spec_DrawKeyedHash.f
  obtain ⟨h, e1⟩ := l1New_ev l (by omega)
  obtain ⟨key, i2, h2, e2, _, _, hi20, hi21⟩ := l3Word_some l (by omega) 0 h (by omega) (by omega)
  obtain ⟨b, i3, h3, e3, hb, hx, _, _⟩ := l3Words_ev l (by omega) i2 h2 hi20 hi21
  exact ⟨key, b, Ev.bind e1 (ev_bind0 e2 (Ev.bind e3 (Ev.now _))), hb, hx⟩
theorem drawDer_ev (l : List Int) (hl : l.length ≤ 1048576) : ∃ (key : Int) (s : ByteArray), Ev (fun k => spec_DrawDeriveFromString.f k l) (key, s) ∧ s.size ≤ 4 := by
  unfold spec_DrawDeriveFromString.f
  obtain ⟨h, e1⟩ := l1New_ev l (by omega)
  obtain ⟨key, i2, h2, e2, _, _, hi20, hi21⟩ := l3Word_some l (by omega) 0 h (by omega) (by omega)
  obtain ⟨s, i3, h3, e3, hs, _, _⟩ := l1Str_some l (by omega) i2 h2 [(⟨#[]⟩ : ByteArray), (⟨#[97]⟩ : ByteArray), (⟨#[98]⟩ : ByteArray), (⟨#[97, 98]⟩ : ByteArray), (⟨#[110, 101, 119, 115]⟩ : ByteArray), (⟨#[120]⟩ : ByteArray)] (by simp) hi20 hi21
  refine ⟨key, s, Ev.bind e1 (ev_bind0 e2 (ev_bind0 e3 (Ev.now _))), ?_⟩
  simp only [List.mem_cons, List.not_mem_nil, or_false] at hs
  rcases hs with rfl | rfl | rfl | rfl | rfl | rfl <;> decide
theorem tail_ev (l : List Int) (hl : l.length ≤ 1048576) : Ev (fun k => (spec_DrawDeriveFromString.f k l).bind fun bt => ((impl_DeriveFromString.f k bt.1 bt.2).bind fun t => ((impl_IsValidKey.f t).bind fun u => (some u)))) true := by
  obtain ⟨key, s, e, hs⟩ := drawDer_ev l hl
  have hr := derOf_range key s
  refine Ev.bind e (Ev.bind (impl_DeriveFromString_ev key s (by omega)) (ev_bind0 ?_ (Ev.now true)))
  unfold impl_IsValidKey.f
  rw [inRange_val, decide_eq_true hr]
  rfl
theorem FnKeyedHash : ∀ (x0 : List Int), (x0.length ≤ 9223372036854775807 ∧ ∀ y ∈ x0, (Lit.int .u8 y).wf = true) → ∃ k, laws_FnKeyedHash.f k x0 = some true := by
  intro l ⟨_, hw⟩
  refine Ev.rounds (g := fun k => laws_FnKeyedHash.f k l) ?_
  unfold laws_FnKeyedHash.f
  refine ev_bind0 (big_val l) ?_
  by_cases hb : (l.length : Int) > 1048576
  · exact ev_pos (decide_eq_true hb) (Ev.now true)
  refine ev_neg (by rw [decide_eq_false hb]; decide) ?_
  obtain ⟨key, b, e, hbl, hx⟩ := drawKeyed_ev l (by omega)
  have hr := hashOf_range ([key] ++ b ++ [key])
  have hl1 : ([key] ++ b).length = b.length + 1 := by rw [List.length_append]; simp only [List.length_cons, List.length_nil]; omega
  have hl2 : ([key] ++ b ++ [key]).length = b.length + 2 := by rw [List.length_append, hl1]; rfl
  refine Ev.bind e (Ev.bind (impl_KeyedHash_ev key b (by omega)) (ev_neg (by omega) (ev_neg (by omega) (ev_bind0 rfl (ev_pos (by simp only [List.length_cons, List.length_nil]; omega) (ev_bind0 rfl (ev_pos (Nat.lt_of_le_of_lt (Nat.le_of_eq hl1) (by omega)) (Ev.bind (impl_Hash_ev _ (Nat.le_trans (Nat.le_of_eq hl2) (by omega))) ?_))))))))
  refine Ev.step (fun _ => laws_FnKeyedHash.j0.eq_2 ..) (ev_neg (by simp) ?_)
  by_cases c : (b.length : Int) > 0
  · obtain ⟨a0, q0, a00, a01⟩ := at_some l (by omega) hw 0 (by omega) (by omega)
    obtain ⟨a1, q1, a10, a11⟩ := at_some l (by omega) hw 1 (by omega) (by omega)
    have ht : Int.tmod a0 ((([] : List Int) ++ b).length : Int) = a0 % (b.length : Int) := by rw [List.nil_append, Int.tmod_eq_emod_of_nonneg a00]
    have h0 := Int.emod_nonneg a0 (show (b.length : Int) ≠ 0 by omega)
    have h1 := Int.emod_lt_of_pos a0 c
    refine ev_pos c (ev_bind0 rfl (ev_pos (by simp only [List.length_nil]; omega) (ev_bind0 rfl (ev_bind0 q0 (ev_neg (by simp only [List.nil_append]; omega) ?_)))))
    rw [ht, List.nil_append]
    obtain ⟨i, hi⟩ := Int.eq_ofNat_of_zero_le h0
    rw [hi] at h1 ⊢
    have hlt : i < b.length := by omega
    have hxi := hx _ (List.getElem_mem hlt)
    have hne : (((b[i] + 1) + a1) % 2147483647) % 2147483647 ≠ b[i] % 2147483647 := by omega
    refine ev_pos (by omega) (ev_pos (by omega) (ev_bind0 q1 ?_))
    rw [rd_at b i hlt, w64 (x := b[i] + 1) (by omega) (by omega), w64 (by omega) (by omega)]
    refine ev_bind0 (spec_Mod_val _ _ (by omega) (by omega)) (Ev.bind (impl_KeyedHash_ev key _ (by simp only [List.length_set]; omega)) (ev_neg ?_ (tail_ev l (by omega))))
    exact hashOf_set key _ b i hlt hne
  · exact ev_neg c (tail_ev l (by omega))

end Go.Proofs.Ytgcidlnhgpjdpab.Pure
