/- The pure statement behind the law FnCipher: over numbers and lists the law answers true, at every input that the row's bounds let in. -/
import Derived.Test.YtgcidlnhgpjdpabQFnCipherx3
import Derived.Test.YtgcidlnhgpjdpabQFnCipherg
namespace Go.Proofs.Ytgcidlnhgpjdpab.Pure
open Go Go.RowKit Go.Proofs.Ytgcidlnhgpjdpab.QFnCipher Go.Proofs.YtgcidlnhgpjdpabW.PrintWords Go.Proofs.YtgcidlnhgpjdpabW.PrintLast Go.Proofs.YtgcidlnhgpjdpabW.PrintMore
set_option linter.unusedVariables false
set_option linter.unusedSimpArgs false
set_option maxRecDepth 100000

theorem w64 {x : Int} (h0 : -9223372036854775808 ≤ x) (h1 : x ≤ 9223372036854775807) : wrap64 x = x := by unfold wrap64; omega
theorem wf8 {x : Int} (h : (Lit.int .u8 x).wf = true) : 0 ≤ x ∧ x ≤ 255 := by
  simp [Lit.wf, IntKind.min, IntKind.max, IntKind.signed, IntKind.bits] at h
  omega
theorem ev_pos {α : Type} {c : Prop} [Decidable c] {g f : Nat → Option α} {r : α} (h : c) (k : Ev g r) : Ev (fun n => if c then g n else f n) r := by
  obtain ⟨K, hK⟩ := k
  exact ⟨K, fun n hn => (if_pos h).trans (hK n hn)⟩
theorem ev_neg {α : Type} {c : Prop} [Decidable c] {g f : Nat → Option α} {r : α} (h : ¬ c) (k : Ev f r) : Ev (fun n => if c then g n else f n) r := by
  obtain ⟨K, hK⟩ := k
  exact ⟨K, fun n hn => (if_neg h).trans (hK n hn)⟩
theorem ev_bind0 {α β : Type} {o : Option α} {f : Nat → α → Option β} {a : α} {r : β} (h : o = some a) (k : Ev (fun n => f n a) r) : Ev (fun n => o.bind (f n)) r := by
  subst h
  exact k
theorem ev_of {α : Type} {o : Option α} {r : α} (h : o = some r) : Ev (fun _ => o) r := ⟨0, fun _ _ => h⟩
theorem rd_at (xs : List Int) (i : Nat) (h : i < xs.length) : rd xs (i : Int) = xs[i] := by
  unfold rd
  rw [Int.toNat_natCast, List.getD_eq_getElem?_getD, List.getElem?_eq_getElem h]
  rfl
theorem seq_set {x ys : List Int} {i : Nat} (h : x.take i = ys.take i) (hl : x.length = ys.length) (hi : i < ys.length) {v : Int} (hv : ys[i] = v) : (x.set ((i : Int)).toNat v).take (i + 1) = ys.take (i + 1) := by
  subst hv
  rw [Int.toNat_natCast, List.take_succ_eq_append_getElem hi, List.take_succ_eq_append_getElem (by rw [List.length_set]; omega)]
  rw [List.take_set_of_le (Nat.le_refl _), h]
  simp
theorem inRange_val (a b c : Int) : impl_InRange.f a b c = some (decide (b ≤ a ∧ a ≤ c)) := by
  unfold impl_InRange.f
  by_cases h : b ≤ a
  · rw [if_pos h]; simp [h]
  · rw [if_neg h]; simp [h]
theorem tmod_twice (a b : Int) (h1 : 1 ≤ b) (h2 : b ≤ 1000000000000) : Int.tmod (wrap64 (Int.tmod a b + b)) b = a % b := by
  have hlt : Int.tmod a b < b := Int.tmod_lt_of_pos a (by omega)
  have hgt : -b < Int.tmod a b := by
    have h := Int.tmod_lt_of_pos (-a) (show 0 < b by omega)
    rw [Int.neg_tmod] at h
    omega
  rw [w64 (by omega) (by omega), Int.tmod_eq_emod_of_nonneg (by omega), Int.add_emod_right]
  have e : Int.tmod a b = a - b * (a.tdiv b) := Int.tmod_def a b
  rw [e, Int.sub_mul_emod_self_left]
theorem impl_Mod_val (a b : Int) (h1 : 1 ≤ b) (h2 : b ≤ 1000000000000) : impl_Mod.f a b = some (a % b) := by
  unfold impl_Mod.f
  rw [inRange_val]
  simp only [Option.bind_some, h1, h2, and_self, decide_true, if_true]
  rw [if_neg (by omega), tmod_twice a b h1 h2]
def hstep (h v : Int) : Int := (h * 1000003 + v % 2147483647 + 13) % 2147483647
def hashOf (l : List Int) : Int := l.foldl hstep 11
theorem hstep_range (h v : Int) : 0 ≤ hstep h v ∧ hstep h v < 2147483647 := by unfold hstep; omega
theorem hstep_wrap (h v : Int) (h0 : 0 ≤ h) (h1 : h < 2147483647) : Int.tmod (wrap64 ((wrap64 ((wrap64 (h * 1000003)) + v % 2147483647)) + 13)) 2147483647 = hstep h v := by
  have e1 : wrap64 (h * 1000003) = h * 1000003 := w64 (by omega) (by omega)
  have e2 : wrap64 (h * 1000003 + v % 2147483647) = h * 1000003 + v % 2147483647 := w64 (by omega) (by omega)
  rw [e1, e2, w64 (by omega) (by omega), Int.tmod_eq_emod_of_nonneg (by omega)]
  rfl
theorem impl_Hash_l0 (xs : List Int) (hn : xs.length ≤ 4611686018427387904) : ∀ (d i : Nat) (h : Int), i + d = xs.length → 0 ≤ h → h < 2147483647 → Ev (fun k => impl_Hash.l0 k h xs (xs.length : Int) (i : Int)) ((xs.drop i).foldl hstep h) := by
  intro d
  induction d with
  | zero =>
    intro i h hd h0 h1
    refine Ev.step (fun _ => impl_Hash.l0.eq_2 ..) (ev_neg (by omega) (ev_of ?_))
    rw [List.drop_eq_nil_of_le (by omega)]
    rfl
  | succ d ih =>
    intro i h hd h0 h1
    refine Ev.step (fun _ => impl_Hash.l0.eq_2 ..) (ev_pos (by omega) (ev_pos (by omega) (ev_pos (by omega) (ev_bind0 (impl_Mod_val _ _ (by omega) (by omega)) ?_))))
    rw [hstep_wrap h _ h0 h1, w64 (by omega) (by omega), List.drop_eq_getElem_cons (show i < xs.length by omega), List.foldl_cons, ← rd_at xs i (by omega)]
    exact ih (i + 1) _ (by omega) (hstep_range _ _).1 (hstep_range _ _).2
theorem impl_Hash_ev (xs : List Int) (hn : xs.length ≤ 4611686018427387904) : Ev (fun k => impl_Hash.f k xs) (hashOf xs) := by
  unfold impl_Hash.f
  exact impl_Hash_l0 xs hn xs.length 0 11 (by omega) (by omega) (by omega)
theorem impl_KeyedHash_ev (a : Int) (l : List Int) (h : l.length ≤ 1048578) : Ev (fun k => impl_KeyedHash.f k a l) (hashOf ([a] ++ l ++ [a])) := by
  unfold impl_KeyedHash.f
  refine ev_bind0 rfl (ev_pos (by simp only [List.length_cons, List.length_nil]; omega) (ev_bind0 rfl (ev_pos (by simp only [List.length_append, List.length_cons, List.length_nil]; omega) ?_)))
  exact Ev.bind (impl_Hash_ev _ (by simp only [List.length_append, List.length_cons, List.length_nil]; omega)) (Ev.now _)
theorem clone_byte (b : List Int) (hb : b.length ≤ 100000000000000) : slices_Clone_byte_byte.f b = some b := by
  unfold slices_Clone_byte_byte.f
  rw [Option.bind_some, if_pos (by simp only [List.length_nil]; omega), List.nil_append]
def kh (key : Int) (i : Nat) : Int := hashOf ([key] ++ [(i : Int)] ++ [key])
def encV (key b : Int) (i : Nat) : Int := (b + kh key i % 256) % 256
def decV (key b : Int) (i : Nat) : Int := (b - kh key i % 256) % 256
def mapI (f : Int → Nat → Int) (l : List Int) : List Int := (List.range l.length).map fun (i : Nat) => f (rd l (i : Int)) i
theorem mapI_len (f : Int → Nat → Int) (l : List Int) : (mapI f l).length = l.length := by simp [mapI]
theorem mapI_get (f : Int → Nat → Int) (l : List Int) (i : Nat) (h : i < l.length) : (mapI f l)[i]'(by rw [mapI_len]; exact h) = f (rd l (i : Int)) i := by simp [mapI]
theorem impl_Encrypt_l0 (key : Int) (l : List Int) (hl : l.length ≤ 1048576) : ∀ (d i : Nat) (x : List Int), i + d = l.length → x.length = l.length → x.take i = (mapI (encV key) l).take i → x.drop i = l.drop i →
    Ev (fun k => impl_Encrypt.l0 k key x (l.length : Int) (i : Int)) (mapI (encV key) l) := by
  intro d
  induction d with
  | zero =>
    intro i x hd hx ht hr
    refine Ev.step (fun _ => impl_Encrypt.l0.eq_2 ..) (ev_neg (by omega) (ev_of ?_))
    rw [List.take_of_length_le (by omega), List.take_of_length_le (by rw [mapI_len]; omega)] at ht
    rw [ht]
  | succ d ih =>
    intro i x hd hx ht hr
    have hlt : i < l.length := by omega
    rw [List.drop_eq_getElem_cons (show i < x.length by omega), List.drop_eq_getElem_cons hlt, List.cons.injEq] at hr
    refine Ev.step (fun _ => impl_Encrypt.l0.eq_2 ..) (ev_pos (by omega) (ev_pos (by omega) (ev_pos (by omega) (Ev.bind (impl_KeyedHash_ev key [(i : Int)] (by simp)) ?_))))
    rw [w64 (x := (i : Int) + 1) (by omega) (by omega)]
    refine ih (i + 1) _ (by omega) (by rw [List.length_set]; exact hx) (seq_set ht (by rw [mapI_len]; exact hx) (by rw [mapI_len]; exact hlt) ?_) ?_
    · rw [mapI_get _ _ _ hlt, rd_at x i (by omega), rd_at l i hlt, hr.1]
      rfl
    · rw [Int.toNat_natCast, List.drop_set_of_lt (by omega)]
      exact hr.2
theorem impl_Encrypt_ev (key : Int) (l : List Int) (hl : l.length ≤ 1048576) : Ev (fun k => impl_Encrypt.f k key l) (mapI (encV key) l) := by
  unfold impl_Encrypt.f
  refine ev_bind0 (clone_byte l (by omega)) ?_
  exact impl_Encrypt_l0 key l hl l.length 0 l (by omega) rfl (by simp) rfl
theorem impl_Decrypt_l0 (key : Int) (l : List Int) (hl : l.length ≤ 1048576) : ∀ (d i : Nat) (x : List Int), i + d = l.length → x.length = l.length → x.take i = (mapI (decV key) l).take i → x.drop i = l.drop i →
    Ev (fun k => impl_Decrypt.l0 k key x (l.length : Int) (i : Int)) (mapI (decV key) l) := by
  intro d
  induction d with
  | zero =>
    intro i x hd hx ht hr
    refine Ev.step (fun _ => impl_Decrypt.l0.eq_2 ..) (ev_neg (by omega) (ev_of ?_))
    rw [List.take_of_length_le (by omega), List.take_of_length_le (by rw [mapI_len]; omega)] at ht
    rw [ht]
  | succ d ih =>
    intro i x hd hx ht hr
    have hlt : i < l.length := by omega
    rw [List.drop_eq_getElem_cons (show i < x.length by omega), List.drop_eq_getElem_cons hlt, List.cons.injEq] at hr
    refine Ev.step (fun _ => impl_Decrypt.l0.eq_2 ..) (ev_pos (by omega) (ev_pos (by omega) (ev_pos (by omega) (Ev.bind (impl_KeyedHash_ev key [(i : Int)] (by simp)) ?_))))
    rw [w64 (x := (i : Int) + 1) (by omega) (by omega)]
    refine ih (i + 1) _ (by omega) (by rw [List.length_set]; exact hx) (seq_set ht (by rw [mapI_len]; exact hx) (by rw [mapI_len]; exact hlt) ?_) ?_
    · rw [mapI_get _ _ _ hlt, rd_at x i (by omega), rd_at l i hlt, hr.1]
      rfl
    · rw [Int.toNat_natCast, List.drop_set_of_lt (by omega)]
      exact hr.2
theorem impl_Decrypt_ev (key : Int) (l : List Int) (hl : l.length ≤ 1048576) : Ev (fun k => impl_Decrypt.f k key l) (mapI (decV key) l) := by
  unfold impl_Decrypt.f
  refine ev_bind0 (clone_byte l (by omega)) ?_
  exact impl_Decrypt_l0 key l hl l.length 0 l (by omega) rfl (by simp) rfl
theorem wf8_mk {x : Int} (h0 : 0 ≤ x) (h1 : x ≤ 255) : (Lit.int .u8 x).wf = true := by
  simp [Lit.wf, IntKind.min, IntKind.max, IntKind.signed, IntKind.bits]
  omega
theorem big_val (l : List Int) : laws_big.f l = some (decide ((l.length : Int) > 1048576)) := rfl
theorem l1New_l0 (l : List Int) (hl : l.length ≤ 1099511627776) : ∀ (d i : Nat) (h : Int), i + d = l.length → ∃ h', Ev (fun k => spec_l1New.l0 k l h (i : Int)) (l, 0, h') := by
  intro d
  induction d with
  | zero =>
    intro i h hd
    exact ⟨h, Ev.step (fun _ => spec_l1New.l0.eq_2 ..) (ev_neg (by omega) (Ev.now _))⟩
  | succ d ih =>
    intro i h hd
    by_cases h4 : (i : Int) < 4000
    · obtain ⟨h', e⟩ := ih (i + 1) _ (by omega)
      refine ⟨h', Ev.step (fun _ => spec_l1New.l0.eq_2 ..) (ev_pos (by omega) (ev_pos h4 (ev_pos (by omega) ?_)))⟩
      rw [w64 (x := (i : Int) + 1) (by omega) (by omega)]
      exact e
    · exact ⟨h, Ev.step (fun _ => spec_l1New.l0.eq_2 ..) (ev_pos (by omega) (ev_neg h4 (Ev.now _)))⟩
theorem l1New_ev (l : List Int) (hl : l.length ≤ 1099511627776) : ∃ h, Ev (fun k => spec_l1New.f k l) (l, 0, h) := by
  unfold spec_l1New.f
  exact l1New_l0 l hl l.length 0 _ (by omega)
theorem and255 (y : Int) : 0 ≤ Go.bits .and .i64 y 255 ∧ Go.bits .and .i64 y 255 ≤ 255 := by
  have h : (BitVec.ofInt 64 y &&& BitVec.ofInt 64 255).toNat ≤ 255 := by
    rw [BitVec.toNat_and]
    exact Nat.le_trans Nat.and_le_right (by decide)
  have e : Go.bits .and .i64 y 255 = IntKind.i64.wrap ((BitVec.ofInt 64 y &&& BitVec.ofInt 64 255).toNat : Int) := rfl
  rw [e, IntKind.wrap_i64]
  omega
theorem l1Byte_some (b : List Int) (hb : b.length ≤ 1099511627776) (i h : Int) (h0 : 0 ≤ i) (h1 : i ≤ 1099511627776) : ∃ x i' h', spec_l1Byte.f b i h = some (x, i', h') ∧ 0 ≤ x ∧ x ≤ 255 ∧ 0 ≤ i' ∧ i' ≤ 1099511627776 := by
  unfold spec_l1Byte.f
  by_cases c : i < (b.length : Int)
  · rw [if_pos c, if_pos h0, w64 (x := i + 1) (by omega) (by omega)]
    exact ⟨_, _, _, rfl, (and255 _).1, (and255 _).2, by omega, by omega⟩
  · rw [if_neg c]
    exact ⟨_, _, _, rfl, (and255 _).1, (and255 _).2, h0, h1⟩
theorem l1Below_some (b : List Int) (hb : b.length ≤ 1099511627776) (i h n : Int) (h0 : 0 ≤ i) (h1 : i ≤ 1099511627776) : ∃ x i' h', spec_l1Below.f b i h n = some (x, i', h') ∧ 0 ≤ x ∧ (0 < n → x < n) ∧ (n ≤ 0 → x = 0) ∧ 0 ≤ i' ∧ i' ≤ 1099511627776 := by
  unfold spec_l1Below.f
  by_cases c : n ≤ 0
  · rw [if_pos c]
    exact ⟨_, _, _, rfl, by omega, fun h => by omega, fun _ => rfl, h0, h1⟩
  rw [if_neg c]
  by_cases c2 : n ≤ 256
  · rw [if_pos c2]
    obtain ⟨x, i', h', e, hx0, hx1, hi0, hi1⟩ := l1Byte_some b hb i h h0 h1
    rw [e, Option.bind_some, if_neg (by omega)]
    refine ⟨_, _, _, rfl, ?_, fun _ => ?_, fun h => by omega, hi0, hi1⟩
    · rw [Int.tmod_eq_emod_of_nonneg hx0]; exact Int.emod_nonneg _ (by omega)
    · rw [Int.tmod_eq_emod_of_nonneg hx0]; exact Int.emod_lt_of_pos _ (by omega)
  · rw [if_neg c2]
    obtain ⟨x, i', h', e, hx0, hx1, hi0, hi1⟩ := l1Byte_some b hb i h h0 h1
    rw [e, Option.bind_some]
    obtain ⟨y, i2, h2, e2, hy0, hy1, hi20, hi21⟩ := l1Byte_some b hb i' h' hi0 hi1
    rw [e2, Option.bind_some]
    obtain ⟨z, i3, h3, e3, hz0, hz1, hi30, hi31⟩ := l1Byte_some b hb i2 h2 hi20 hi21
    rw [e3, Option.bind_some, if_neg (by omega)]
    have ew : wrap64 ((wrap64 ((wrap64 (x * 65536)) + (wrap64 (y * 256)))) + z) = x * 65536 + y * 256 + z := by
      rw [w64 (x := x * 65536) (by omega) (by omega), w64 (x := y * 256) (by omega) (by omega), w64 (x := x * 65536 + y * 256) (by omega) (by omega), w64 (by omega) (by omega)]
    refine ⟨_, _, _, rfl, ?_, fun _ => ?_, fun h => by omega, hi30, hi31⟩
    · rw [ew, Int.tmod_eq_emod_of_nonneg (by omega)]; exact Int.emod_nonneg _ (by omega)
    · rw [ew, Int.tmod_eq_emod_of_nonneg (by omega)]; exact Int.emod_lt_of_pos _ (by omega)
theorem l1Once_some (b : List Int) (hb : b.length ≤ 1099511627776) (i h n : Int) (h0 : 0 ≤ i) (h1 : i ≤ 1099511627776) : ∃ x i' h', spec_l1Once.f b i h n = some (x, i', h') ∧ 0 ≤ i' ∧ i' ≤ 1099511627776 := by
  unfold spec_l1Once.f
  obtain ⟨x, i', h', e, _, _, _, hi0, hi1⟩ := l1Below_some b hb i h n h0 h1
  rw [e, Option.bind_some]
  exact ⟨_, _, _, rfl, hi0, hi1⟩
theorem l1Int_some (b : List Int) (hb : b.length ≤ 1099511627776) (i h : Int) (l : List Int) (hl : 0 < l.length) (h0 : 0 ≤ i) (h1 : i ≤ 1099511627776) : ∃ x i' h', spec_l1Int.f b i h l = some (x, i', h') ∧ x ∈ l ∧ 0 ≤ i' ∧ i' ≤ 1099511627776 := by
  unfold spec_l1Int.f
  obtain ⟨x, i', h', e, hx0, hx1, _, hi0, hi1⟩ := l1Below_some b hb i h (l.length : Int) h0 h1
  have hx := hx1 (by omega)
  rw [e, Option.bind_some, if_pos hx0, if_pos hx]
  refine ⟨_, _, _, rfl, ?_, hi0, hi1⟩
  obtain ⟨j, rfl⟩ := Int.eq_ofNat_of_zero_le hx0
  show rd l (j : Int) ∈ l
  rw [rd_at l j (by omega)]
  exact List.getElem_mem _
theorem l1Bytes_l0 (b : List Int) (hb : b.length ≤ 1099511627776) (n : Nat) (hn : n ≤ 1099511627776) : ∀ (d j : Nat) (out : List Int) (i h : Int), j + d = n → out.length = j → (∀ x ∈ out, (Lit.int .u8 x).wf = true) → 0 ≤ i → i ≤ 1099511627776 →
    ∃ (r : List Int) (i' h' : Int), Ev (fun k => spec_l1Bytes.l0 k (n : Int) out (j : Int) b i h) (r, i', h') ∧ r.length = n ∧ (∀ x ∈ r, (Lit.int .u8 x).wf = true) ∧ 0 ≤ i' ∧ i' ≤ 1099511627776 := by
  intro d
  induction d with
  | zero =>
    intro j out i h hd ho hw h0 h1
    exact ⟨out, i, h, Ev.step (fun _ => spec_l1Bytes.l0.eq_2 ..) (ev_neg (by omega) (Ev.now _)), by omega, hw, h0, h1⟩
  | succ d ih =>
    intro j out i h hd ho hw h0 h1
    obtain ⟨x, i', h', e, hx0, hx1, hi0, hi1⟩ := l1Byte_some b hb i h h0 h1
    obtain ⟨r, i2, h2, er, hr, hrw, hi20, hi21⟩ := ih (j + 1) (out ++ [x % 256]) i' h' (by omega) (by rw [List.length_append, List.length_singleton]; omega) (fun y hy => by
      rcases List.mem_append.1 hy with hy | hy
      · exact hw y hy
      · have := List.mem_singleton.1 hy
        exact wf8_mk (by omega) (by omega)) hi0 hi1
    refine ⟨r, i2, h2, Ev.step (fun _ => spec_l1Bytes.l0.eq_2 ..) (ev_pos (by omega) (ev_bind0 e (ev_pos (by omega) ?_))), hr, hrw, hi20, hi21⟩
    rw [w64 (x := (j : Int) + 1) (by omega) (by omega)]
    exact er
theorem l1Bytes_ev (b : List Int) (hb : b.length ≤ 1099511627776) (i h n : Int) (hn0 : 0 ≤ n) (hn : n ≤ 1099511627776) (h0 : 0 ≤ i) (h1 : i ≤ 1099511627776) :
    ∃ (r : List Int) (i' h' : Int), Ev (fun k => spec_l1Bytes.f k b i h n) (r, i', h') ∧ (r.length : Int) = n ∧ (∀ x ∈ r, (Lit.int .u8 x).wf = true) ∧ 0 ≤ i' ∧ i' ≤ 1099511627776 := by
  obtain ⟨r, i', h', e, hr, hw, hi0, hi1⟩ := l1Bytes_l0 b hb n.toNat (by omega) n.toNat 0 [] i h (by omega) rfl (fun x hx => by simp at hx) h0 h1
  rw [Int.toNat_of_nonneg hn0] at e
  exact ⟨r, i', h', e, by omega, hw, hi0, hi1⟩
theorem l3Word_some (b : List Int) (hb : b.length ≤ 1099511627776) (i h : Int) (h0 : 0 ≤ i) (h1 : i ≤ 1099511627776) : ∃ x i' h', spec_l3Word.f b i h = some (x, i', h') ∧ -1 ≤ x ∧ x ≤ 2147483648 ∧ 0 ≤ i' ∧ i' ≤ 1099511627776 := by
  unfold spec_l3Word.f
  obtain ⟨x, i', h', e, hi0, hi1⟩ := l1Once_some b hb i h 10 h0 h1
  rw [e, Option.bind_some]
  by_cases c : x = true
  · obtain ⟨y, i2, h2, e2, hm, hi20, hi21⟩ := l1Int_some b hb i' h' [(-1), 2147483647, 2147483648] (by decide) hi0 hi1
    simp only [List.mem_cons, List.not_mem_nil, or_false] at hm
    rw [if_pos c, e2, Option.bind_some]
    exact ⟨_, _, _, rfl, show -1 ≤ y by omega, show y ≤ _ by omega, hi20, hi21⟩
  · rw [if_neg c]
    obtain ⟨x2, i3, h3, e3, hi30, hi31⟩ := l1Once_some b hb i' h' 4 hi0 hi1
    rw [e3, Option.bind_some]
    by_cases c2 : x2 = true
    · obtain ⟨y, i2, h2, e2, hm, hi20, hi21⟩ := l1Int_some b hb i3 h3 [0, 1, 2147483646] (by decide) hi30 hi31
      simp only [List.mem_cons, List.not_mem_nil, or_false] at hm
      rw [if_pos c2, e2, Option.bind_some]
      exact ⟨_, _, _, rfl, show -1 ≤ y by omega, show y ≤ _ by omega, hi20, hi21⟩
    · obtain ⟨y, i2, h2, e2, hy0, hy1, _, hi20, hi21⟩ := l1Below_some b hb i3 h3 1000000 hi30 hi31
      obtain ⟨z, i4, h4, e4, hz0, hz1, _, hi40, hi41⟩ := l1Below_some b hb i2 h2 2000 hi20 hi21
      have hy := hy1 (by omega)
      have hz := hz1 (by omega)
      have hm0 : 0 ≤ y * z := Int.mul_nonneg hy0 hz0
      have hm1 : y * z ≤ 1000000 * 2000 := Int.mul_le_mul (by omega) (by omega) hz0 (by omega)
      rw [if_neg c2, e2, Option.bind_some, e4, Option.bind_some, w64 (x := y * z) (by omega) (by omega)]
      exact ⟨_, _, _, rfl, by omega, by omega, hi40, hi41⟩
theorem sameBytes_l0 (xs : List Int) (hn : xs.length ≤ 9223372036854775807) : ∀ (d i : Nat), i + d = xs.length → Ev (fun k => laws_sameBytes.l0 k xs xs (i : Int)) true := by
  intro d
  induction d with
  | zero =>
    intro i hd
    exact Ev.step (fun _ => laws_sameBytes.l0.eq_2 ..) (ev_neg (by omega) (Ev.now true))
  | succ d ih =>
    intro i hd
    refine Ev.step (fun _ => laws_sameBytes.l0.eq_2 ..) (ev_pos (by omega) (ev_pos (by omega) (ev_pos (by omega) (ev_pos rfl ?_))))
    rw [w64 (by omega) (by omega)]
    exact ih (i + 1) (by omega)
theorem sameBytes_same (xs : List Int) (hn : xs.length ≤ 9223372036854775807) : Ev (fun k => laws_sameBytes.f k xs xs) true := by
  unfold laws_sameBytes.f
  exact ev_pos rfl (sameBytes_l0 xs hn xs.length 0 (by omega))
theorem drawEncrypt_ev (l : List Int) (hl : l.length ≤ 1048576) : ∃ (key : Int) (b : List Int), Ev (fun k => spec_DrawEncrypt.f k l) (key, b) ∧ b.length ≤ 8 ∧ (∀ x ∈ b, (Lit.int .u8 x).wf = true) := by
  unfold spec_DrawEncrypt.f
  obtain ⟨h, e1⟩ := l1New_ev l (by omega)
  obtain ⟨key, i2, h2, e2, _, _, hi20, hi21⟩ := l3Word_some l (by omega) 0 h (by omega) (by omega)
  obtain ⟨x, i3, h3, e3, hx0, hx1, _, hi30, hi31⟩ := l1Below_some l (by omega) i2 h2 8 hi20 hi21
  have hx := hx1 (by omega)
  obtain ⟨b, i4, h4, e4, hb, hw, _, _⟩ := l1Bytes_ev l (by omega) i3 h3 x hx0 (by omega) hi30 hi31
  exact ⟨key, b, Ev.bind e1 (ev_bind0 e2 (ev_bind0 e3 (Ev.bind e4 (Ev.now _)))), by omega, hw⟩
theorem mapI_back (f g : Int → Nat → Int) (l : List Int) (h : ∀ x ∈ l, ∀ i, g (f x i) i = x) : mapI g (mapI f l) = l := by
  refine List.ext_getElem (by rw [mapI_len, mapI_len]) (fun i h1 h2 => ?_)
  rw [mapI_get g _ i (by rw [mapI_len]; exact h2), rd_at _ i (by rw [mapI_len]; exact h2), mapI_get f l i h2, rd_at l i h2]
  exact h _ (List.getElem_mem h2) i
theorem FnCipher : ∀ (x0 : List Int), (x0.length ≤ 9223372036854775807 ∧ ∀ y ∈ x0, (Lit.int .u8 y).wf = true) → ∃ k, laws_FnCipher.f k x0 = some true := by
  intro l hl
  obtain ⟨hl, _⟩ := hl
  refine Ev.rounds (g := fun k => laws_FnCipher.f k l) ?_
  unfold laws_FnCipher.f
  refine ev_bind0 (big_val l) ?_
  by_cases hb : (l.length : Int) > 1048576
  · exact ev_pos (decide_eq_true hb) (Ev.now true)
  refine ev_neg (by simp only [decide_eq_true_eq]; exact hb) ?_
  obtain ⟨key, b, e, hb8, hw⟩ := drawEncrypt_ev l (by omega)
  have le := mapI_len (encV key) b
  have ld := mapI_len (decV key) b
  have he := impl_Encrypt_ev key b (by omega)
  have hd := impl_Decrypt_ev key b (by omega)
  have b1 : mapI (decV key) (mapI (encV key) b) = b := mapI_back _ _ b (fun x hx i => by
    have := wf8 (hw x hx)
    unfold decV encV
    omega)
  have b2 : mapI (encV key) (mapI (decV key) b) = b := mapI_back _ _ b (fun x hx i => by
    have := wf8 (hw x hx)
    unfold decV encV
    omega)
  have hde := impl_Decrypt_ev key (mapI (encV key) b) (by omega)
  have hed := impl_Encrypt_ev key (mapI (decV key) b) (by omega)
  rw [b1] at hde
  rw [b2] at hed
  refine Ev.bind e (Ev.bind he (Ev.bind hde (Ev.bind (sameBytes_same b (by omega)) (ev_pos rfl ?_))))
  refine Ev.bind hd (Ev.bind hed (Ev.bind (sameBytes_same b (by omega)) (ev_pos rfl (Ev.bind he (ev_of ?_)))))
  rw [le]
  simp

end Go.Proofs.Ytgcidlnhgpjdpab.Pure
