/- The pure statement behind the law FnExactDecrypt: over numbers and lists the law answers true, at every input that the row's bounds let in. -/
import Derived.Test.YtgcidlnhgpjdpabQFnExactDecryptx3
import Derived.Test.YtgcidlnhgpjdpabQFnExactDecryptg
namespace Go.Proofs.Ytgcidlnhgpjdpab.Pure
open Go Go.RowKit Go.Proofs.Ytgcidlnhgpjdpab.QFnExactDecrypt Go.Proofs.YtgcidlnhgpjdpabW.PrintWords Go.Proofs.YtgcidlnhgpjdpabW.PrintLast Go.Proofs.YtgcidlnhgpjdpabW.PrintMore
set_option linter.unusedVariables false
set_option linter.unusedSimpArgs false
set_option maxRecDepth 100000

theorem w64 {x : Int} (h0 : -9223372036854775808 ≤ x) (h1 : x ≤ 9223372036854775807) : wrap64 x = x := by unfold wrap64; omega
theorem wf64 {x : Int} (h : (Lit.int .i64 x).wf = true) : -9223372036854775808 ≤ x ∧ x ≤ 9223372036854775807 := by
  simp [Lit.wf, IntKind.min, IntKind.max, IntKind.signed, IntKind.bits] at h
  omega
theorem wf8 {x : Int} (h : (Lit.int .u8 x).wf = true) : 0 ≤ x ∧ x ≤ 255 := by
  simp [Lit.wf, IntKind.min, IntKind.max, IntKind.signed, IntKind.bits] at h
  omega
theorem ev_pos {α : Type} {c : Prop} [Decidable c] {g f : Nat → Option α} {r : α} (h : c) (k : Ev g r) : Ev (fun n => if c then g n else f n) r := by
  obtain ⟨K, hK⟩ := k
  exact ⟨K, fun n hn => (if_pos h).trans (hK n hn)⟩
theorem ev_neg {α : Type} {c : Prop} [Decidable c] {g f : Nat → Option α} {r : α} (h : ¬ c) (k : Ev f r) : Ev (fun n => if c then g n else f n) r := by
  obtain ⟨K, hK⟩ := k
  exact ⟨K, fun n hn => (if_neg h).trans (hK n hn)⟩
theorem ev_bind0 {α β : Type} {o : Option α} {f : Nat → α → Option β} {a : α} {r : β} (h : o = some a) (k : Ev (fun n => f n a) r) : Ev (fun n => o.bind (f n)) r := by
  subst h
  exact k
theorem ev_of {α : Type} {o : Option α} {r : α} (h : o = some r) : Ev (fun _ => o) r := ⟨0, fun _ _ => h⟩
theorem rd_at (xs : List Int) (i : Nat) (h : i < xs.length) : rd xs (i : Int) = xs[i] := by
  unfold rd
  rw [Int.toNat_natCast, List.getD_eq_getElem?_getD, List.getElem?_eq_getElem h]
  rfl
theorem set_take {out xs : List Int} {i : Nat} (h : out.take i = xs.take i) (hl : out.length = xs.length) (hi : i < xs.length) : (out.set ((i : Int)).toNat (rd xs i)).take (i + 1) = xs.take (i + 1) := by
  rw [rd_at xs i hi, Int.toNat_natCast, List.take_succ_eq_append_getElem hi, List.take_succ_eq_append_getElem (by rw [List.length_set]; omega)]
  rw [List.take_set_of_le (Nat.le_refl _), h]
  simp
def seqFrom (m : Int) (n : Nat) : List Int := (List.range n).map fun (j : Nat) => m + (j : Int)
theorem seqFrom_length (m : Int) (n : Nat) : (seqFrom m n).length = n := by simp [seqFrom]
theorem seqFrom_get (m : Int) (n i : Nat) (h : i < n) : (seqFrom m n)[i]'(by rw [seqFrom_length]; exact h) = m + (i : Int) := by simp [seqFrom]
theorem seq_set {x ys : List Int} {i : Nat} (h : x.take i = ys.take i) (hl : x.length = ys.length) (hi : i < ys.length) {v : Int} (hv : ys[i] = v) : (x.set ((i : Int)).toNat v).take (i + 1) = ys.take (i + 1) := by
  subst hv
  rw [Int.toNat_natCast, List.take_succ_eq_append_getElem hi, List.take_succ_eq_append_getElem (by rw [List.length_set]; omega)]
  rw [List.take_set_of_le (Nat.le_refl _), h]
  simp
theorem toByteS_l0 (xs : List Int) (hn : xs.length ≤ 281474976710656) : ∀ (d i : Nat) (out : List Int), i + d = xs.length → out.length = xs.length → out.take i = xs.take i → Ev (fun k => laws_toByteS.l0 k xs out (i : Int)) xs := by
  intro d
  induction d with
  | zero =>
    intro i out hd hl ht
    refine Ev.step (fun _ => laws_toByteS.l0.eq_2 ..) (ev_neg (by omega) (ev_of ?_))
    rw [List.take_of_length_le (by omega), List.take_of_length_le (by omega)] at ht
    rw [ht]
  | succ d ih =>
    intro i out hd hl ht
    refine Ev.step (fun _ => laws_toByteS.l0.eq_2 ..) (ev_pos (by omega) (ev_pos (by omega) (ev_pos (by omega) ?_)))
    rw [w64 (by omega) (by omega)]
    exact ih (i + 1) _ (by omega) (by rw [List.length_set]; exact hl) (set_take ht hl (by omega))
theorem toByteS_ev (xs : List Int) (hn : xs.length ≤ 281474976710656) : Ev (fun k => laws_toByteS.f k xs) xs := by
  unfold laws_toByteS.f
  refine ev_pos (by omega) (ev_pos (by omega) ?_)
  exact toByteS_l0 xs hn xs.length 0 _ (by omega) (by simp) (by simp)
theorem eqByteS_l0 (xs : List Int) (hn : xs.length ≤ 9223372036854775807) : ∀ (d i : Nat), i + d = xs.length → Ev (fun k => laws_eqByteS.l0 k xs xs (i : Int)) true := by
  intro d
  induction d with
  | zero =>
    intro i hd
    exact Ev.step (fun _ => laws_eqByteS.l0.eq_2 ..) (ev_neg (by omega) (Ev.now true))
  | succ d ih =>
    intro i hd
    refine Ev.step (fun _ => laws_eqByteS.l0.eq_2 ..) (ev_pos (by omega) (ev_pos (by omega) (ev_pos (by omega) (ev_pos rfl ?_))))
    rw [w64 (by omega) (by omega)]
    exact ih (i + 1) (by omega)
theorem eqByteS_same (xs : List Int) (hn : xs.length ≤ 9223372036854775807) : Ev (fun k => laws_eqByteS.f k xs xs) true := by
  unfold laws_eqByteS.f
  exact ev_pos rfl (eqByteS_l0 xs hn xs.length 0 (by omega))
def byteFrom (m : Int) (n : Nat) : List Int := (List.range n).map fun (j : Nat) => (m + (j : Int)) % 256
theorem byteFrom_length (m : Int) (n : Nat) : (byteFrom m n).length = n := by simp [byteFrom]
theorem byteFrom_get (m : Int) (n i : Nat) (h : i < n) : (byteFrom m n)[i]'(by rw [byteFrom_length]; exact h) = (m + (i : Int)) % 256 := by simp [byteFrom]
theorem markByteS_l0 : ∀ (d i : Nat) (m : Int) (x : List Int) (s : Int) (n : Nat), n = x.length → i + d = n → m = s + (i : Int) → 0 ≤ s → s + (n : Int) ≤ 4611686018427387904 → x.take i = (byteFrom s n).take i → Ev (fun k => laws_markByteS.l0 k x m (i : Int)) (s + (n : Int), byteFrom s n) := by
  intro d
  induction d with
  | zero =>
    intro i m x s n hn hd hm hs hb ht
    refine Ev.step (fun _ => laws_markByteS.l0.eq_2 ..) (ev_neg (by omega) (ev_of ?_))
    rw [List.take_of_length_le (by omega), List.take_of_length_le (by rw [byteFrom_length]; omega)] at ht
    rw [ht, show m = s + (n : Int) by omega]
  | succ d ih =>
    intro i m x s n hn hd hm hs hb ht
    refine Ev.step (fun _ => laws_markByteS.l0.eq_2 ..) (ev_pos (by omega) (ev_pos (by omega) ?_))
    rw [w64 (x := m + 1) (by omega) (by omega), w64 (x := (i : Int) + 1) (by omega) (by omega)]
    exact ih (i + 1) (m + 1) _ s n (by rw [List.length_set]; exact hn) (by omega) (by omega) hs hb (seq_set ht (by rw [byteFrom_length]; omega) (by rw [byteFrom_length]; omega) (by rw [byteFrom_get _ _ _ (by omega)]; omega))
theorem markByteS_ev (x : List Int) (s : Int) (hs : 0 ≤ s) (hb : s + (x.length : Int) ≤ 4611686018427387904) : Ev (fun k => laws_markByteS.f k x s) (s + (x.length : Int), byteFrom s x.length) := by
  unfold laws_markByteS.f
  exact markByteS_l0 x.length 0 s x s x.length rfl (by omega) (by omega) hs hb rfl
theorem heldByteS_l0 (s : Int) (n : Nat) (hs : 0 ≤ s) (hb : s + (n : Int) ≤ 4611686018427387904) : ∀ (d i : Nat) (m : Int), i + d = n → m = s + (i : Int) → Ev (fun k => laws_heldByteS.l0 k (byteFrom s n) m (i : Int)) (s + (n : Int)) := by
  intro d
  induction d with
  | zero =>
    intro i m hd hm
    refine Ev.step (fun _ => laws_heldByteS.l0.eq_2 ..) (ev_neg (by rw [byteFrom_length]; omega) (ev_of ?_))
    rw [show m = s + (n : Int) by omega]
  | succ d ih =>
    intro i m hd hm
    refine Ev.step (fun _ => laws_heldByteS.l0.eq_2 ..) (ev_pos (by rw [byteFrom_length]; omega) (ev_pos (by omega) (ev_pos ?_ ?_)))
    · rw [rd_at _ i (by rw [byteFrom_length]; omega), byteFrom_get _ _ _ (by omega)]
      omega
    · rw [w64 (x := m + 1) (by omega) (by omega), w64 (x := (i : Int) + 1) (by omega) (by omega)]
      exact ih (i + 1) (m + 1) (by omega) (by omega)
theorem heldByteS_ev (s : Int) (n : Nat) (hs : 0 ≤ s) (hb : s + (n : Int) ≤ 4611686018427387904) : Ev (fun k => laws_heldByteS.f k (byteFrom s n) s) (s + (n : Int)) := by
  unfold laws_heldByteS.f
  exact heldByteS_l0 s n hs hb n 0 s (by omega) (by omega)
theorem l1In_val (a b c : Int) : spec_l1In.f a b c = some (decide (b ≤ a ∧ a ≤ c)) := by
  unfold spec_l1In.f
  by_cases h : a ≥ b
  · rw [if_pos h]; simp [h]
  · rw [if_neg h]; simp [h]
theorem inRange_val (a b c : Int) : impl_InRange.f a b c = some (decide (b ≤ a ∧ a ≤ c)) := by
  unfold impl_InRange.f
  by_cases h : b ≤ a
  · rw [if_pos h]; simp [h]
  · rw [if_neg h]; simp [h]
theorem tmod_twice (a b : Int) (h1 : 1 ≤ b) (h2 : b ≤ 1000000000000) : Int.tmod (wrap64 (Int.tmod a b + b)) b = a % b := by
  have hlt : Int.tmod a b < b := Int.tmod_lt_of_pos a (by omega)
  have hgt : -b < Int.tmod a b := by
    have h := Int.tmod_lt_of_pos (-a) (show 0 < b by omega)
    rw [Int.neg_tmod] at h
    omega
  rw [w64 (by omega) (by omega), Int.tmod_eq_emod_of_nonneg (by omega), Int.add_emod_right]
  have e : Int.tmod a b = a - b * (a.tdiv b) := Int.tmod_def a b
  rw [e, Int.sub_mul_emod_self_left]
theorem spec_Mod_val (a b : Int) (h1 : 1 ≤ b) (h2 : b ≤ 1000000000000) : spec_Mod.f a b = some (a % b) := by
  unfold spec_Mod.f
  rw [l1In_val]
  simp only [Option.bind_some, h1, h2, and_self, decide_true, if_true]
  rw [if_neg (by omega), tmod_twice a b h1 h2]
theorem impl_Mod_val (a b : Int) (h1 : 1 ≤ b) (h2 : b ≤ 1000000000000) : impl_Mod.f a b = some (a % b) := by
  unfold impl_Mod.f
  rw [inRange_val]
  simp only [Option.bind_some, h1, h2, and_self, decide_true, if_true]
  rw [if_neg (by omega), tmod_twice a b h1 h2]
def hstep (h v : Int) : Int := (h * 1000003 + v % 2147483647 + 13) % 2147483647
def hashOf (l : List Int) : Int := l.foldl hstep 11
theorem hstep_range (h v : Int) : 0 ≤ hstep h v ∧ hstep h v < 2147483647 := by unfold hstep; omega
theorem hfold_range (l : List Int) : ∀ h : Int, 0 ≤ h → h < 2147483647 → 0 ≤ l.foldl hstep h ∧ l.foldl hstep h < 2147483647 := by
  induction l with
  | nil => intro h h0 h1; exact ⟨h0, h1⟩
  | cons v l ih => intro h _ _; exact ih _ (hstep_range h v).1 (hstep_range h v).2
theorem hashOf_range (l : List Int) : 0 ≤ hashOf l ∧ hashOf l < 2147483647 := hfold_range l 11 (by omega) (by omega)
theorem hstep_wrap (h v : Int) (h0 : 0 ≤ h) (h1 : h < 2147483647) : Int.tmod (wrap64 ((wrap64 ((wrap64 (h * 1000003)) + v % 2147483647)) + 13)) 2147483647 = hstep h v := by
  have e1 : wrap64 (h * 1000003) = h * 1000003 := w64 (by omega) (by omega)
  have e2 : wrap64 (h * 1000003 + v % 2147483647) = h * 1000003 + v % 2147483647 := w64 (by omega) (by omega)
  rw [e1, e2, w64 (by omega) (by omega), Int.tmod_eq_emod_of_nonneg (by omega)]
  rfl
theorem spec_Hash_l0 (xs : List Int) (hn : xs.length ≤ 4611686018427387904) : ∀ (d i : Nat) (h : Int), i + d = xs.length → 0 ≤ h → h < 2147483647 → Ev (fun k => spec_Hash.l0 k xs h (i : Int)) ((xs.drop i).foldl hstep h) := by
  intro d
  induction d with
  | zero =>
    intro i h hd h0 h1
    refine Ev.step (fun _ => spec_Hash.l0.eq_2 ..) (ev_neg (by omega) (ev_of ?_))
    rw [List.drop_eq_nil_of_le (by omega)]
    rfl
  | succ d ih =>
    intro i h hd h0 h1
    refine Ev.step (fun _ => spec_Hash.l0.eq_2 ..) (ev_pos (by omega) (ev_pos (by omega) (ev_bind0 (spec_Mod_val _ _ (by omega) (by omega)) ?_)))
    rw [hstep_wrap h _ h0 h1, w64 (by omega) (by omega), List.drop_eq_getElem_cons (show i < xs.length by omega), List.foldl_cons, ← rd_at xs i (by omega)]
    exact ih (i + 1) _ (by omega) (hstep_range _ _).1 (hstep_range _ _).2
theorem spec_Hash_ev (xs : List Int) (hn : xs.length ≤ 4611686018427387904) : Ev (fun k => spec_Hash.f k xs) (hashOf xs) := by
  unfold spec_Hash.f
  exact spec_Hash_l0 xs hn xs.length 0 11 (by omega) (by omega) (by omega)
theorem impl_Hash_l0 (xs : List Int) (hn : xs.length ≤ 4611686018427387904) : ∀ (d i : Nat) (h : Int), i + d = xs.length → 0 ≤ h → h < 2147483647 → Ev (fun k => impl_Hash.l0 k h xs (xs.length : Int) (i : Int)) ((xs.drop i).foldl hstep h) := by
  intro d
  induction d with
  | zero =>
    intro i h hd h0 h1
    refine Ev.step (fun _ => impl_Hash.l0.eq_2 ..) (ev_neg (by omega) (ev_of ?_))
    rw [List.drop_eq_nil_of_le (by omega)]
    rfl
  | succ d ih =>
    intro i h hd h0 h1
    refine Ev.step (fun _ => impl_Hash.l0.eq_2 ..) (ev_pos (by omega) (ev_pos (by omega) (ev_pos (by omega) (ev_bind0 (impl_Mod_val _ _ (by omega) (by omega)) ?_))))
    rw [hstep_wrap h _ h0 h1, w64 (by omega) (by omega), List.drop_eq_getElem_cons (show i < xs.length by omega), List.foldl_cons, ← rd_at xs i (by omega)]
    exact ih (i + 1) _ (by omega) (hstep_range _ _).1 (hstep_range _ _).2
theorem impl_Hash_ev (xs : List Int) (hn : xs.length ≤ 4611686018427387904) : Ev (fun k => impl_Hash.f k xs) (hashOf xs) := by
  unfold impl_Hash.f
  exact impl_Hash_l0 xs hn xs.length 0 11 (by omega) (by omega) (by omega)
theorem spec_KeyedHash_ev (a : Int) (l : List Int) (h : l.length ≤ 1048578) : Ev (fun k => spec_KeyedHash.f k a l) (hashOf ([a] ++ l ++ [a])) := by
  unfold spec_KeyedHash.f
  refine ev_bind0 rfl (ev_pos (by simp only [List.length_cons, List.length_nil]; omega) (ev_bind0 rfl (ev_pos (by simp only [List.length_append, List.length_cons, List.length_nil]; omega) ?_)))
  exact Ev.bind (spec_Hash_ev _ (by simp only [List.length_append, List.length_cons, List.length_nil]; omega)) (Ev.now _)
theorem impl_KeyedHash_ev (a : Int) (l : List Int) (h : l.length ≤ 1048578) : Ev (fun k => impl_KeyedHash.f k a l) (hashOf ([a] ++ l ++ [a])) := by
  unfold impl_KeyedHash.f
  refine ev_bind0 rfl (ev_pos (by simp only [List.length_cons, List.length_nil]; omega) (ev_bind0 rfl (ev_pos (by simp only [List.length_append, List.length_cons, List.length_nil]; omega) ?_)))
  exact Ev.bind (impl_Hash_ev _ (by simp only [List.length_append, List.length_cons, List.length_nil]; omega)) (Ev.now _)
theorem rd_byte (l : List Int) (hw : ∀ x ∈ l, (Lit.int .u8 x).wf = true) (i : Int) : 0 ≤ rd l i ∧ rd l i ≤ 255 := by
  unfold rd
  rw [List.getD_eq_getElem?_getD]
  cases h : l[i.toNat]? with
  | none => simp
  | some x => exact wf8 (hw x (List.mem_of_getElem? h))
theorem clone_byte (b : List Int) (hb : b.length ≤ 100000000000000) : slices_Clone_byte_byte.f b = some b := by
  unfold slices_Clone_byte_byte.f
  rw [Option.bind_some, if_pos (by simp only [List.length_nil]; omega), List.nil_append]
def kh (key : Int) (i : Nat) : Int := hashOf ([key] ++ [(i : Int)] ++ [key])
def encV (key b : Int) (i : Nat) : Int := (b + kh key i % 256) % 256
def decV (key b : Int) (i : Nat) : Int := (b - kh key i % 256) % 256
def mapI (f : Int → Nat → Int) (l : List Int) : List Int := (List.range l.length).map fun (i : Nat) => f (rd l (i : Int)) i
theorem mapI_len (f : Int → Nat → Int) (l : List Int) : (mapI f l).length = l.length := by simp [mapI]
theorem mapI_get (f : Int → Nat → Int) (l : List Int) (i : Nat) (h : i < l.length) : (mapI f l)[i]'(by rw [mapI_len]; exact h) = f (rd l (i : Int)) i := by simp [mapI]
theorem mapI_take (f : Int → Nat → Int) (l : List Int) (i : Nat) (h : i < l.length) : (mapI f l).take (i + 1) = (mapI f l).take i ++ [f (rd l (i : Int)) i] := by
  rw [List.take_succ_eq_append_getElem (by rw [mapI_len]; exact h), mapI_get f l i h]
theorem kh_range (key : Int) (i : Nat) : 0 ≤ kh key i ∧ kh key i < 2147483647 := hashOf_range _
theorem spec_Decrypt_l0 (key : Int) (l : List Int) (hl : l.length ≤ 1048576) (hw : ∀ x ∈ l, (Lit.int .u8 x).wf = true) : ∀ (d i : Nat), i + d = l.length → Ev (fun k => spec_Decrypt.l0 k key l ((mapI (decV key) l).take i) (i : Int)) (mapI (decV key) l) := by
  intro d
  induction d with
  | zero =>
    intro i hd
    refine Ev.step (fun _ => spec_Decrypt.l0.eq_2 ..) (ev_neg (by omega) (ev_of ?_))
    rw [List.take_of_length_le (by rw [mapI_len]; omega)]
  | succ d ih =>
    intro i hd
    have hlt : i < l.length := by omega
    have hb := rd_byte l hw (i : Int)
    have hk := kh_range key i
    refine Ev.step (fun _ => spec_Decrypt.l0.eq_2 ..) (ev_pos (by omega) (ev_pos (by omega) (Ev.bind (spec_KeyedHash_ev key [(i : Int)] (by simp)) (ev_bind0 (spec_Mod_val _ _ (by omega) (by omega)) (ev_pos (by rw [List.length_take, mapI_len]; omega) ?_)))))
    have e : (wrap64 ((wrap64 (rd l (i : Int))) - (Int.tmod (kh key i) 256))) % 256 % 256 = decV key (rd l (i : Int)) i := by
      rw [w64 (x := rd l (i : Int)) (by omega) (by omega), Int.tmod_eq_emod_of_nonneg hk.1, w64 (by omega) (by omega)]
      unfold decV
      omega
    unfold kh at e
    rw [e, w64 (x := (i : Int) + 1) (by omega) (by omega), ← mapI_take (decV key) l i hlt]
    exact ih (i + 1) (by omega)
theorem spec_Decrypt_ev (key : Int) (l : List Int) (hl : l.length ≤ 1048576) (hw : ∀ x ∈ l, (Lit.int .u8 x).wf = true) : Ev (fun k => spec_Decrypt.f k key l) (mapI (decV key) l) := by
  unfold spec_Decrypt.f
  exact spec_Decrypt_l0 key l hl hw l.length 0 (by omega)
theorem impl_Decrypt_l0 (key : Int) (l : List Int) (hl : l.length ≤ 1048576) : ∀ (d i : Nat) (x : List Int), i + d = l.length → x.length = l.length → x.take i = (mapI (decV key) l).take i → x.drop i = l.drop i →
    Ev (fun k => impl_Decrypt.l0 k key x (l.length : Int) (i : Int)) (mapI (decV key) l) := by
  intro d
  induction d with
  | zero =>
    intro i x hd hx ht hr
    refine Ev.step (fun _ => impl_Decrypt.l0.eq_2 ..) (ev_neg (by omega) (ev_of ?_))
    rw [List.take_of_length_le (by omega), List.take_of_length_le (by rw [mapI_len]; omega)] at ht
    rw [ht]
  | succ d ih =>
    intro i x hd hx ht hr
    have hlt : i < l.length := by omega
    rw [List.drop_eq_getElem_cons (show i < x.length by omega), List.drop_eq_getElem_cons hlt, List.cons.injEq] at hr
    refine Ev.step (fun _ => impl_Decrypt.l0.eq_2 ..) (ev_pos (by omega) (ev_pos (by omega) (ev_pos (by omega) (Ev.bind (impl_KeyedHash_ev key [(i : Int)] (by simp)) ?_))))
    rw [w64 (x := (i : Int) + 1) (by omega) (by omega)]
    refine ih (i + 1) _ (by omega) (by rw [List.length_set]; exact hx) (seq_set ht (by rw [mapI_len]; exact hx) (by rw [mapI_len]; exact hlt) ?_) ?_
    · rw [mapI_get _ _ _ hlt, rd_at x i (by omega), rd_at l i hlt, hr.1]
      rfl
    · rw [Int.toNat_natCast, List.drop_set_of_lt (by omega)]
      exact hr.2
theorem impl_Decrypt_ev (key : Int) (l : List Int) (hl : l.length ≤ 1048576) : Ev (fun k => impl_Decrypt.f k key l) (mapI (decV key) l) := by
  unfold impl_Decrypt.f
  refine ev_bind0 (clone_byte l (by omega)) ?_
  exact impl_Decrypt_l0 key l hl l.length 0 l (by omega) rfl (by simp) rfl
theorem FnExactDecrypt : ∀ (x0 : Int) (x1 : List Int), ((Lit.int .i64 x0).wf = true) → (x1.length ≤ 9223372036854775807 ∧ ∀ y ∈ x1, (Lit.int .u8 y).wf = true) → ∃ k, laws_FnExactDecrypt.f k x0 x1 = some true := by
  intro key l _ hl
  obtain ⟨hl, hw⟩ := hl
  refine Ev.rounds (g := fun k => laws_FnExactDecrypt.f k key l) ?_
  unfold laws_FnExactDecrypt.f
  by_cases hb : (l.length : Int) > 1048576
  · exact ev_pos hb (Ev.now true)
  refine ev_neg hb ?_
  have ha := mapI_len (decV key) l
  have hs := spec_Decrypt_ev key l (by omega) hw
  have hi := impl_Decrypt_ev key l (by omega)
  refine Ev.bind (toByteS_ev l (by omega)) (Ev.bind hs ?_)
  refine Ev.bind (toByteS_ev l (by omega)) (Ev.bind hi ?_)
  refine Ev.bind (eqByteS_same _ (by omega)) (ev_pos rfl ?_)
  refine Ev.bind (toByteS_ev l (by omega)) ?_
  refine Ev.bind (eqByteS_same l (by omega)) (ev_pos rfl ?_)
  refine Ev.bind (markByteS_ev l 1 (by omega) (by omega)) (ev_neg (by simp only; omega) ?_)
  refine Ev.bind (eqByteS_same _ (by omega)) ?_
  refine Ev.step (fun _ => laws_FnExactDecrypt.j0.eq_2 ..) (ev_neg (by decide) ?_)
  refine Ev.bind (markByteS_ev _ 1 (by omega) (by omega)) ?_
  refine Ev.bind (heldByteS_ev 1 _ (by omega) (by omega)) (ev_neg (by omega) (ev_pos rfl ?_))
  refine Ev.bind (toByteS_ev l (by omega)) (Ev.bind hi ?_)
  refine Ev.bind (eqByteS_same _ (by omega)) (ev_pos rfl ?_)
  exact Ev.bind (heldByteS_ev 1 _ (by omega) (by omega)) (ev_neg (by omega) (ev_pos rfl (Ev.now true)))

end Go.Proofs.Ytgcidlnhgpjdpab.Pure
