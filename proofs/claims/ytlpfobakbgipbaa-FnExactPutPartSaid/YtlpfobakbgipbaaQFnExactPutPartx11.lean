/- The Go functions that the law FnExactPutPart comes to, each as a Lean function, with a proof that the call does what it says; written by a program of this session over the print of the kit. No conditions. -/
import Derived.Test.YtlpfobakbgipbaaQFnExactPutPartx1
import Derived.Test.YtlpfobakbgipbaaQFnExactPutPartx0
import Derived.Test.YtlpfobakbgipbaaQFnExactPutPartx2
import Derived.Test.YtlpfobakbgipbaaQFnExactPutPartx3
import Derived.Test.YtlpfobakbgipbaaQFnExactPutPartx4
import Derived.Test.YtlpfobakbgipbaaQFnExactPutPartx5
import Derived.Test.YtlpfobakbgipbaaQFnExactPutPartx6
import Derived.Test.YtlpfobakbgipbaaQFnExactPutPartx7
import Derived.Test.YtlpfobakbgipbaaQFnExactPutPartx8
import Derived.Test.YtlpfobakbgipbaaQFnExactPutPartx9
import Derived.Test.YtlpfobakbgipbaaQFnExactPutPartx10
namespace Go.Proofs.Ytlpfobakbgipbaa.QFnExactPutPart
open Go.RowKit Go.Proofs.YtlpfobakbgipbaaW.PrintWords Go.Proofs.YtlpfobakbgipbaaW.PrintLast Go.Proofs.YtlpfobakbgipbaaW.PrintMore
attribute [local go_sem] max2_int min2_int max_two min_two max_three min_three max_four min_four   -- for this text's walks alone
set_option linter.unusedVariables false
set_option linter.unusedSimpArgs false

/-! A row whose elements lie apart, opened: element j's blocks are okj j, its cells are the j-th part of inner. -/
section
variable {α : Type} {d : Kd α} {e base : Nat} {ok : Nat → Prop} {W w1 : World} {v v1 : Value} {xs ys : List α}
structure Items (d : Kd α) (W : World) (base : Nat) (ok : Nat → Prop) (xs : List α) (okj : Nat → Nat → Prop) (inner : List Value) : Prop where
  len : inner.length = xs.length * d.sz
  apart : ∀ i j k, okj i k → okj j k → i = j
  okk : ∀ j k, okj j k → ok k ∧ k < W.heap.size
  M : ∀ j x, xs[j]? = some x → d.M W base (okj j) x ((inner.drop (j * d.sz)).take d.sz)
theorem S_open (h : Kd.S d e W base ok v xs) : ∃ okj inner, (∀ k, v.ownBlock = some k → ok k) ∧ W.ownsRow base e d.sz v xs.length inner ∧ Items d W base (fun k => ok k ∧ some k ≠ v.ownBlock) xs okj inner := by
  obtain ⟨f, h0, inner, ho, hr⟩ := h
  rw [List.length_zipIdx] at ho
  refine ⟨fun j k => ((ok k ∧ some k ≠ v.ownBlock) ∧ f k = j) ∧ k < W.heap.size, inner, h0, ho, by have := hr.1; rwa [List.length_zipIdx] at this, fun i j k h1 h2 => h1.1.2.symm.trans h2.1.2, fun j k hk => ⟨hk.1.1, hk.2⟩, fun j x hj => ?_⟩
  exact d.M_mono (fun k hk => ⟨⟨hk.1.1, hk.1.2⟩, hk.2.2.1⟩) (d.M_bound (hr.2 j (x, j) (Kd.zip_at hj)))
theorem S_shut {okj : Nat → Nat → Prop} {inner : List Value} (h0 : ∀ k, v.ownBlock = some k → ok k) (ho : W.ownsRow base e d.sz v xs.length inner) (hl : inner.length = xs.length * d.sz) (hap : ∀ i j k, okj i k → okj j k → i = j) (hok : ∀ j k, okj j k → ok k ∧ some k ≠ v.ownBlock)
    (hM : ∀ j x, xs[j]? = some x → d.M W base (okj j) x ((inner.drop (j * d.sz)).take d.sz)) : Kd.S d e W base ok v xs := by
  obtain ⟨f, hr⟩ := Kd.reps_tag (ok := fun k => ok k ∧ some k ≠ v.ownBlock) okj hap hok hl hM
  exact ⟨f, h0, inner, by rw [List.length_zipIdx]; exact ho, hr⟩
theorem seg_lo (l c r : List Value) {I J s : Nat} (h : J + s ≤ I) (hI : I ≤ l.length) : ((l.take I ++ c ++ r).drop J).take s = (l.drop J).take s := by
  refine List.ext_getElem? fun q => ?_
  rw [List.getElem?_take, List.getElem?_take]
  split
  · rw [List.getElem?_drop, List.getElem?_drop, List.append_assoc, List.getElem?_append_left (by rw [List.length_take]; omega), List.getElem?_take, if_pos (by omega)]
  · rfl
theorem seg_at (l c r : List Value) {I s : Nat} (hc : c.length = s) (hI : I ≤ l.length) : ((l.take I ++ c ++ r).drop I).take s = c := by
  rw [List.append_assoc, List.drop_append_of_le_length (by rw [List.length_take]; omega), List.drop_eq_nil_of_le (by rw [List.length_take]; omega), List.nil_append, ← hc, List.take_left']
  rfl
theorem seg_hi (l c : List Value) {I J s : Nat} (hc : c.length = s) (hI : I ≤ l.length) (h : I + s ≤ J) : ((l.take I ++ c ++ l.drop I).drop J).take s = (l.drop (J - s)).take s := by
  refine List.ext_getElem? fun q => ?_
  rw [List.getElem?_take, List.getElem?_take]
  split
  · rw [List.getElem?_drop, List.getElem?_drop, List.getElem?_append_right (by rw [List.length_append, List.length_take]; omega), List.length_append, List.length_take, List.getElem?_drop]
    congr 1
    omega
  · rfl
theorem ins_at (xs : List α) (p : α) {i : Nat} (hi : i ≤ xs.length) (j : Nat) : (xs.take i ++ p :: xs.drop i)[j]? = if j < i then xs[j]? else if j = i then some p else xs[j - 1]? := by
  by_cases h1 : j < i
  · rw [if_pos h1, List.getElem?_append_left (by rw [List.length_take]; omega), List.getElem?_take, if_pos h1]
  · rw [if_neg h1, List.getElem?_append_right (by rw [List.length_take]; omega), List.length_take, Nat.min_eq_left hi]
    by_cases h2 : j = i
    · rw [if_pos h2, h2, Nat.sub_self, List.getElem?_cons_zero]
    · rw [if_neg h2, show j - i = (j - 1 - i) + 1 by omega, List.getElem?_cons_succ, List.getElem?_drop]
      congr 1
      omega
/-- What a row keeps behind a write to its own block, or behind a new one. -/
theorem away_own {k : Nat} (hv1 : v1.ownBlock = v.ownBlock ∨ ∃ b, v1.ownBlock = some b ∧ W.heap.size ≤ b) (hk : some k ≠ v.ownBlock) (hlt : k < W.heap.size) : some k ≠ v1.ownBlock := by
  rcases hv1 with h | ⟨b, h, hb⟩
  · rw [h]; exact hk
  · rw [h]
    intro he
    injection he with he
    omega
theorem own_okk (h0 : ∀ k, v.ownBlock = some k → ok k) (hv1 : v1.ownBlock = v.ownBlock ∨ ∃ b, v1.ownBlock = some b ∧ W.heap.size ≤ b) (hfresh : ∀ k, W.heap.size ≤ k → ok k) : ∀ k, v1.ownBlock = some k → ok k := by
  intro k hk
  rcases hv1 with h | ⟨b, h, hb⟩
  · exact h0 k (h ▸ hk)
  · rw [h] at hk
    injection hk with hk
    subst hk
    exact hfresh _ hb
/-- An element put into a row at i. -/
theorem S_insert {okj : Nat → Nat → Prop} {inner cp : List Value} {okp : Nat → Prop} {p : α} {i : Nat} (hi : i ≤ xs.length) (h0 : ∀ k, v.ownBlock = some k → ok k) (hS : Items d W base (fun k => ok k ∧ some k ≠ v.ownBlock) xs okj inner)
    (hp : d.M W base okp p cp) (hokp : ∀ k, okp k → (ok k ∧ some k ≠ v.ownBlock) ∧ ∀ j, ¬ okj j k) (h1 : w1.ownsRow base e d.sz v1 (xs.length + 1) (inner.take (i * d.sz) ++ cp ++ inner.drop (i * d.sz)))
    (hkeep : ∀ k, k < W.heap.size → some k ≠ v.ownBlock → w1.heap[k]? = W.heap[k]?) (hv1 : v1.ownBlock = v.ownBlock ∨ ∃ b, v1.ownBlock = some b ∧ W.heap.size ≤ b) (hfresh : ∀ k, W.heap.size ≤ k → ok k) : Kd.S d e w1 base ok v1 (xs.take i ++ p :: xs.drop i) := by
  have hIl : i * d.sz ≤ inner.length := by rw [hS.len]; exact Nat.mul_le_mul_right _ hi
  have hcp : cp.length = d.sz := d.K_len (d.K_of_M hp)
  have hlen : (xs.take i ++ p :: xs.drop i).length = xs.length + 1 := by rw [List.length_append, List.length_cons, List.length_take, List.length_drop]; omega
  have move : ∀ {okq : Nat → Prop} {q : α} {c : List Value}, d.M W base okq q c → (∀ k, okq k → ok k ∧ some k ≠ v.ownBlock) → d.M w1 base (fun k => okq k ∧ k < W.heap.size) q c := fun hq hok =>
    d.M_move (fun k hk => hkeep k hk.2 (hok k hk.1).2) (d.M_mono (fun k hk => ⟨hk.1, hk.2.2.1⟩) (d.M_bound hq))
  have okC : ∀ j k, okj j k → ok k ∧ some k ≠ v.ownBlock := fun j k hk => (hS.okk j k hk).1
  refine S_shut (okj := fun j k => (if j < i then okj j k else if j = i then okp k else okj (j - 1) k) ∧ k < W.heap.size) (own_okk h0 hv1 hfresh) (by rw [hlen]; exact h1) ?_ ?_ ?_ ?_
  · rw [hlen, List.length_append, List.length_append, List.length_take, List.length_drop, hcp, hS.len, Nat.add_mul, Nat.one_mul]
    rw [hS.len] at hIl
    omega
  · intro a b k ha hb
    obtain ⟨ha, _⟩ := ha
    obtain ⟨hb, _⟩ := hb
    by_cases a1 : a < i
    · rw [if_pos a1] at ha
      by_cases b1 : b < i
      · rw [if_pos b1] at hb
        exact hS.apart _ _ _ ha hb
      · rw [if_neg b1] at hb
        by_cases b2 : b = i
        · rw [if_pos b2] at hb
          exact absurd ha ((hokp k hb).2 _)
        · rw [if_neg b2] at hb
          have := hS.apart _ _ _ ha hb
          omega
    · rw [if_neg a1] at ha
      by_cases a2 : a = i
      · rw [if_pos a2] at ha
        by_cases b1 : b < i
        · rw [if_pos b1] at hb
          exact absurd hb ((hokp k ha).2 _)
        · rw [if_neg b1] at hb
          by_cases b2 : b = i
          · omega
          · rw [if_neg b2] at hb
            exact absurd hb ((hokp k ha).2 _)
      · rw [if_neg a2] at ha
        by_cases b1 : b < i
        · rw [if_pos b1] at hb
          have := hS.apart _ _ _ ha hb
          omega
        · rw [if_neg b1] at hb
          by_cases b2 : b = i
          · rw [if_pos b2] at hb
            exact absurd ha ((hokp k hb).2 _)
          · rw [if_neg b2] at hb
            have := hS.apart _ _ _ ha hb
            omega
  · intro j k hk
    obtain ⟨hk, hlt⟩ := hk
    have hk2 : ok k ∧ some k ≠ v.ownBlock := by
      split at hk
      · exact okC _ _ hk
      · split at hk
        · exact (hokp k hk).1
        · exact okC _ _ hk
    exact ⟨hk2.1, away_own hv1 hk2.2 hlt⟩
  · intro j x hj
    rw [ins_at xs p hi] at hj
    by_cases j1 : j < i
    · rw [if_pos j1] at hj
      have hle : j * d.sz + d.sz ≤ i * d.sz := by rw [← Nat.succ_mul]; exact Nat.mul_le_mul_right _ j1
      rw [seg_lo _ _ _ hle hIl]
      exact d.M_mono (fun k hk => ⟨by rw [if_pos j1]; exact hk.1, hk.2⟩) (move (hS.M j x hj) (okC j))
    · rw [if_neg j1] at hj
      by_cases j2 : j = i
      · rw [if_pos j2] at hj
        obtain rfl := Option.some.inj hj
        rw [j2, seg_at _ _ _ hcp hIl]
        exact d.M_mono (fun k hk => ⟨by rw [if_neg (Nat.lt_irrefl i), if_pos rfl]; exact hk.1, hk.2⟩) (move hp (fun k hk => (hokp k hk).1))
      · rw [if_neg j2] at hj
        have hle : i * d.sz + d.sz ≤ j * d.sz := by rw [← Nat.succ_mul]; exact Nat.mul_le_mul_right _ (by omega)
        rw [seg_hi _ _ hcp hIl hle, show j * d.sz - d.sz = (j - 1) * d.sz by rw [Nat.sub_mul, Nat.one_mul]]
        exact d.M_mono (fun k hk => ⟨by rw [if_neg j1, if_neg j2]; exact hk.1, hk.2⟩) (move (hS.M (j - 1) x hj) (okC (j - 1)))
/-- A row appended to a row: the elements of both lie apart. -/
theorem S_cat {okj okj2 : Nat → Nat → Prop} {inner inner2 : List Value} {ok2 : Nat → Prop} (h0 : ∀ k, v.ownBlock = some k → ok k) (hS : Items d W base (fun k => ok k ∧ some k ≠ v.ownBlock) xs okj inner) (hS2 : Items d W base ok2 ys okj2 inner2)
    (hok2 : ∀ j k, okj2 j k → (ok k ∧ some k ≠ v.ownBlock) ∧ ∀ i, ¬ okj i k) (h1 : w1.ownsRow base e d.sz v1 (xs.length + ys.length) (inner ++ inner2))
    (hkeep : ∀ k, k < W.heap.size → some k ≠ v.ownBlock → w1.heap[k]? = W.heap[k]?) (hv1 : v1.ownBlock = v.ownBlock ∨ ∃ b, v1.ownBlock = some b ∧ W.heap.size ≤ b) (hfresh : ∀ k, W.heap.size ≤ k → ok k) : Kd.S d e w1 base ok v1 (xs ++ ys) := by
  have okC : ∀ j k, okj j k → (ok k ∧ some k ≠ v.ownBlock) ∧ k < W.heap.size := hS.okk
  have okD : ∀ j k, okj2 j k → (ok k ∧ some k ≠ v.ownBlock) ∧ k < W.heap.size := fun j k hk => ⟨(hok2 j k hk).1, (hS2.okk j k hk).2⟩
  refine S_shut (okj := fun j k => if j < xs.length then okj j k else okj2 (j - xs.length) k) (own_okk h0 hv1 hfresh) (by rw [List.length_append]; exact h1) (by rw [List.length_append, List.length_append, hS.len, hS2.len, Nat.add_mul]) ?_ ?_ ?_
  · intro a b k ha hb
    by_cases a1 : a < xs.length
    · rw [if_pos a1] at ha
      by_cases b1 : b < xs.length
      · rw [if_pos b1] at hb
        exact hS.apart _ _ _ ha hb
      · rw [if_neg b1] at hb
        exact absurd ha ((hok2 _ k hb).2 _)
    · rw [if_neg a1] at ha
      by_cases b1 : b < xs.length
      · rw [if_pos b1] at hb
        exact absurd hb ((hok2 _ k ha).2 _)
      · rw [if_neg b1] at hb
        have := hS2.apart _ _ _ ha hb
        omega
  · intro j k hk
    have h : (ok k ∧ some k ≠ v.ownBlock) ∧ k < W.heap.size := by
      split at hk
      · exact okC _ _ hk
      · exact okD _ _ hk
    exact ⟨h.1.1, away_own hv1 h.1.2 h.2⟩
  · intro j x hj
    by_cases j1 : j < xs.length
    · rw [List.getElem?_append_left j1] at hj
      have hle : j * d.sz + d.sz ≤ inner.length := by rw [hS.len, ← Nat.succ_mul]; exact Nat.mul_le_mul_right _ j1
      rw [List.drop_append_of_le_length (by omega), List.take_append_of_le_length (by rw [List.length_drop]; omega)]
      exact d.M_mono (fun k hk => by rw [if_pos j1]; exact hk) (d.M_move (fun k hk => hkeep k (okC j k hk).2 (okC j k hk).1.2) (hS.M j x hj))
    · rw [List.getElem?_append_right (by omega)] at hj
      have hle : inner.length ≤ j * d.sz := by rw [hS.len]; exact Nat.mul_le_mul_right _ (by omega)
      rw [List.drop_append, List.drop_eq_nil_of_le hle, List.nil_append, hS.len, ← Nat.sub_mul]
      exact d.M_mono (fun k hk => by rw [if_neg j1]; exact hk) (d.M_move (fun k hk => hkeep k (okD _ k hk).2 (okD _ k hk).1.2) (hS2.M _ x hj))
end
/-! Builtins by their runs; copy over elements of several cells. -/
section
variable {P : Program} {ops : Array Oper} {rest : List Oper} {o : Oper} {a : Act} {Q : Exit → Act → World → Prop} {Kc : Act → World → Prop}
theorem append_run (w : World) (hgd : o.guard = none) (s x : Operand) (t t' : TypeId) (ho : o.op = .call { callee := .builtin .append, args := #[s, x], argTypes := #[t, t'] }) (v u : Value) (hs : a.eval s = v) (hx : a.eval x = u) {v' : Value} {w' : World} (hr : (Builtin.append_ #[t, t'] o.type #[v, u]).run P w = .ok v' w') (h : wpList P ops Q rest (a.put o.dst v') w') : wpList P ops Q (o :: rest) a w := by
  refine wpList_plain hgd fun K hK => ?_
  unfold Oper.wp execOp
  simp only [ho, resolve, invoke, builtin, Sem.run_bind, Sem.run_pure, Result.andThen_ok, List.map_toArray, List.map_cons, List.map_nil, hs, hx, hr]
  exact hK _ _ h
theorem append_step (w : World) (hw : Region.wanted o (yielded ops a.tmps) = true) (s x : Operand) (t t' : TypeId) (ho : o.op = .call { callee := .builtin .append, args := #[s, x], argTypes := #[t, t'] }) (v u : Value) (hs : a.eval s = v) (hx : a.eval x = u) {v' : Value} {w' : World} (hr : (Builtin.append_ #[t, t'] o.type #[v, u]).run P w = .ok v' w') (h : Kc (a.put o.dst v') w') :
    if Region.wanted o (yielded ops a.tmps) = true then Oper.wp P o a w Kc Q else Kc (a.put o.dst undef) w := by
  rw [if_pos hw]
  unfold Oper.wp execOp
  simp only [ho, resolve, invoke, builtin, Sem.run_bind, Sem.run_pure, Result.andThen_ok, List.map_toArray, List.map_cons, List.map_nil, hs, hx, hr]
  exact h
theorem copy_run (w : World) (hgd : o.guard = none) (s x : Operand) (t t' : TypeId) (ho : o.op = .call { callee := .builtin .copy, args := #[s, x], argTypes := #[t, t'] }) (v u : Value) (hs : a.eval s = v) (hx : a.eval x = u) {v' : Value} {w' : World} (hr : (Builtin.copy_ #[t, t'] o.type #[v, u]).run P w = .ok v' w') (h : wpList P ops Q rest (a.put o.dst v') w') : wpList P ops Q (o :: rest) a w := by
  refine wpList_plain hgd fun K hK => ?_
  unfold Oper.wp execOp
  simp only [ho, resolve, invoke, builtin, Sem.run_bind, Sem.run_pure, Result.andThen_ok, List.map_toArray, List.map_cons, List.map_nil, hs, hx, hr]
  exact hK _ _ h
theorem copy_step (w : World) (hw : Region.wanted o (yielded ops a.tmps) = true) (s x : Operand) (t t' : TypeId) (ho : o.op = .call { callee := .builtin .copy, args := #[s, x], argTypes := #[t, t'] }) (v u : Value) (hs : a.eval s = v) (hx : a.eval x = u) {v' : Value} {w' : World} (hr : (Builtin.copy_ #[t, t'] o.type #[v, u]).run P w = .ok v' w') (h : Kc (a.put o.dst v') w') :
    if Region.wanted o (yielded ops a.tmps) = true then Oper.wp P o a w Kc Q else Kc (a.put o.dst undef) w := by
  rw [if_pos hw]
  unfold Oper.wp execOp
  simp only [ho, resolve, invoke, builtin, Sem.run_bind, Sem.run_pure, Result.andThen_ok, List.map_toArray, List.map_cons, List.map_nil, hs, hx, hr]
  exact h
theorem run_copy_N (w : World) (dT sT ty elem : TypeId) (sz b o dLen dCap : Nat) (a : Addr) (sLen sCap m : Nat) (cs : List Value)
    (hu : P.underlying dT = some (.slice elem)) (hs : (P.info? elem).map (·.size) = some sz) (hm : m = Nat.min sLen dLen) (hn : cs.length = m * sz)
    (hsrc : ∀ j v, cs[j]? = some v → w.cell? (a.add j) = some v) (hc : ∀ j, j < cs.length → (w.cell? ⟨b, o + j, none⟩).isSome = true) (hf : ∀ j, j < cs.length → w.frozen? ⟨b, o + j, none⟩ = false) (h1 : ∀ v ∈ cs, v.oneCell' = true) :
    (Builtin.copy_ #[dT, sT] ty #[.slice (some ⟨b, o, none⟩) dLen dCap, .slice (some a) sLen sCap]).run P w = .ok (goInt m) (w.setCells b o cs) := by
  have hl := run_loadCells_list (P := P) w a cs hsrc
  have hst := run_storeCells_cells (P := P) b o cs 0 w (by simpa using hc) (by simpa using hf) h1
  subst hm
  cases hq : P.info? elem with
  | none => simp [hq] at hs
  | some i =>
    have hi : i.size = sz := by simpa [hq] using hs
    simp [Builtin.copy_, run_underlying hu, Builtin.lenOf, Builtin.firstCells, sizeOf, typeInfo, hq, hi, ← hn, hl, hst]
end
/-- Cells of a block. -/
theorem cells_of {W : World} {g : Nat} {cur : Array Value} {t : TypeId} (h : W.heap[g]? = some (.cells cur t (0, 0))) {l : List Value} {o : Nat} (hl : l = (cur.toList.drop o).take l.length) : ∀ j v, l[j]? = some v → W.cell? ((⟨g, o, none⟩ : Addr).add j) = some v := by
  intro j v hj
  have hjl := (List.getElem?_eq_some_iff.1 hj).1
  rw [hl, List.getElem?_take, if_pos hjl, List.getElem?_drop, Array.getElem?_toList] at hj
  rw [add_at, blk_cell h]
  exact hj
theorem there_of {W : World} {g : Nat} {cur : Array Value} {t : TypeId} (h : W.heap[g]? = some (.cells cur t (0, 0))) {o n : Nat} (hn : o + n ≤ cur.size) : ∀ j, j < n → (W.cell? ⟨g, o + j, none⟩).isSome = true := by
  intro j hj
  rw [blk_cell h, Array.getElem?_eq_getElem (by omega)]
  rfl
def slices_Insert_Part.T15 : Bool × List (List Nat × List Nat) := (true, [([], []), ([], []), ([], []), ([1, 2], [1, 2]), ([0, 3], [0, 3]), ([], []), ([], []), ([5, 6], [5, 6]), ([4, 7], [4, 7])])
def slices_Insert_Part.B15 : List Nat := [0, 0, 0, 6, 15, 0, 0, 96, 255]
theorem slices_Insert_Part.tab15 : rtab .any (opsOf Try.f43 15) = slices_Insert_Part.T15 := by kernel_rfl
theorem slices_Insert_Part.bits15 : waitsOk slices_Insert_Part.T15.2 slices_Insert_Part.B15 = true := by kernel_rfl
def slices_Insert_Part.T11 : Bool × List (List Nat × List Nat) := (true, [([], []), ([], []), ([], []), ([1, 2], [1, 2]), ([0, 3], [0, 3]), ([], []), ([], []), ([5, 6], [5, 6]), ([4, 7], [4, 7])])
def slices_Insert_Part.B11 : List Nat := [0, 0, 0, 6, 15, 0, 0, 96, 255]
theorem slices_Insert_Part.tab11 : rtab .any (opsOf Try.f43 11) = slices_Insert_Part.T11 := by kernel_rfl
theorem slices_Insert_Part.bits11 : waitsOk slices_Insert_Part.T11.2 slices_Insert_Part.B11 = true := by kernel_rfl
theorem grown_set {w W : World} {row : Option Nat} {g : Nat} (vs : List Value) (o : Nat) (h : w.grownBy W row) (hr : row = some g ∨ w.heap.size ≤ g) : w.grownBy (W.setCells g o vs) row :=
  have e := setCells_same g vs o W
  ⟨e.1.trans h.os, e.2.1.trans h.tape, e.2.2.1.trans h.output, Nat.le_trans h.size (Nat.le_of_eq e.2.2.2.symm), fun k hk hne => (setCells_far _ _ k (fun he => by
    rcases hr with h | h
    · exact hne (by rw [h, he])
    · omega)).trans (h.block k hk hne)⟩
theorem grown_drew {w W : World} {row : Option Nat} (h : w.grownBy W row) : w.grownBy W.drew row := ⟨h.os, h.tape, h.output, h.size, h.block⟩
theorem row_room (l inner cp l1 l2 : List Value) {I N : Nat} (hin : inner = l.take N) (hI : I ≤ N) (hN : N + 7 ≤ l.length) (hc : cp.length = 7) (h1 : l1 = l.take (I + 7) ++ inner.drop I ++ l.drop (I + 7 + (inner.drop I).length)) (h2 : l2 = l1.take I ++ cp ++ l1.drop (I + cp.length)) : l2.take (N + 7) = inner.take I ++ cp ++ inner.drop I := by
  have hl : inner.length = N := by rw [hin, List.length_take]; omega
  have ht : l1.take I = inner.take I := by
    rw [h1, List.append_assoc, List.take_append_of_le_length (by rw [List.length_take]; omega), List.take_take, hin, List.take_take]
    congr 1
    omega
  have hd : l1.drop (I + cp.length) = inner.drop I ++ l.drop (I + 7 + (inner.drop I).length) := by
    rw [h1, hc, List.append_assoc, List.drop_append_of_le_length (by rw [List.length_take]; omega), List.drop_eq_nil_of_le (by rw [List.length_take]; omega), List.nil_append]
  rw [h2, ht, hd, ← List.append_assoc, List.take_append_of_le_length (by simp only [List.length_append, List.length_take, List.length_drop]; omega), List.take_of_length_le (by simp only [List.length_append, List.length_take, List.length_drop]; omega)]
theorem row_grow (Z inner cp l l1 l2 : List Value) {I N : Nat} (hl : inner.length = N) (hI : I ≤ N) (h0 : l = inner.take I ++ Z) (hN : N + 7 ≤ l.length) (hc : cp.length = 7) (h1 : l1 = l.take I ++ cp ++ l.drop (I + cp.length)) (h2 : l2 = l1.take (I + 7) ++ inner.drop I ++ l1.drop (I + 7 + (inner.drop I).length)) : l2.take (N + 7) = inner.take I ++ cp ++ inner.drop I := by
  have ht : l.take I = inner.take I := by
    rw [h0, List.take_append_of_le_length (by rw [List.length_take]; omega), List.take_take]
    congr 1
    omega
  have h3 : l1.take (I + 7) = inner.take I ++ cp := by
    rw [h1, ht, List.take_append_of_le_length (by simp only [List.length_append, List.length_take]; omega), List.take_of_length_le (by simp only [List.length_append, List.length_take]; omega)]
  rw [h2, h3, List.take_append_of_le_length (by simp only [List.length_append, List.length_take, List.length_drop]; omega), List.take_of_length_le (by simp only [List.length_append, List.length_take, List.length_drop]; omega)]
theorem sizeOf63 : ∀ w, (Go.sizeOf 63).run Try.prog w = .ok 7 w := by
  intro w
  obtain ⟨i, hi, he⟩ := Option.map_eq_some_iff.1 info63
  have h : i.size = 7 := congrArg (fun q => q.2.1) he
  simp [Go.sizeOf, typeInfo, hi, h]
theorem size63 : (Try.prog.info? 63).map (·.size) = some 7 := by
  obtain ⟨i, hi, he⟩ := Option.map_eq_some_iff.1 info63
  have h : i.size = 7 := congrArg (fun q => q.2.1) he
  rw [hi]; exact congrArg some h
theorem apart70 {w : World} {vb g : Nat} {cp : Array Value} {cur : Array Value} (hne : vb ≠ g) (hg : w.heap[g]? = some (.cells cur 63 (0, 0))) (hv : w.heap[vb]? = some (.cells cp 63 (0, 0))) (h0 : cur.size ≠ 0) (o la ca lb cb : Nat) :
    (callFunc 70 #[.slice (some ⟨vb, 0, none⟩) la ca, .slice (some ⟨g, o, none⟩) lb cb]).run Try.prog w = .ok (.value (.bool false)) w := by
  rw [run_callFunc_extern Try.func70 (by kernel_rfl) (by kernel_rfl) (by kernel_rfl) (e := Extern.SlicesOverlaps.overlaps #[30, 30] #[4]) (by kernel_rfl),
    Lib.run_overlaps_apart w 30 4 63 Try.underlying30 7 sizeOf63 ⟨vb, 0, none⟩ ⟨g, o, none⟩ la ca lb cb hne 63 63 cp.size cur.size (by unfold World.shape?; rw [hv]) (by unfold World.shape?; rw [hg]) h0 (blk_frozen hv _) (blk_frozen hv _)]
  rfl
set_option maxHeartbeats 8000000 in
set_option maxRecDepth 100000 in
/-- There is room, and the place is ahead of the end: in place. -/
theorem slices_Insert_Part.room (g n c vb i : Nat) (cp inner : List Value) (cur : Array Value) (w : World) (hi : i < n) (hroom : n + 1 ≤ c) (hc63 : c ≤ 9223372036854775807) (hne : vb ≠ g) (hg : w.heap[g]? = some (.cells cur 63 (0, 0))) (hcs : cur.size = c * 7) (hin : inner = cur.toList.take (n * 7)) (hv : w.heap[vb]? = some (.cells cp.toArray 63 (0, 0))) (hcl : cp.length = 7) (h1 : ∀ u ∈ inner, u.oneCell' = true) (h2 : ∀ u ∈ cp, u.oneCell' = true) :
    Calls Try.prog 43 #[.slice (some ⟨g, 0, none⟩) n c, .int .i64 i, .slice (some ⟨vb, 0, none⟩) 1 1] w fun e w' => e = .returned (.slice (some ⟨g, 0, none⟩) (n + 1) c) ∧ w' = (w.drew.setCells g ((i + 1) * 7) (inner.drop (i * 7))).setCells g (i * 7) cp := by
  have hov := fun lb cb => apart70 (o := (i + 1) * 7) (la := 1) (ca := 1) (lb := lb) (cb := cb) hne hg hv (by rw [hcs]; omega)
  have hdl : (inner.drop (i * 7)).length = (n - i) * 7 := by rw [List.length_drop, hin, List.length_take, Array.length_toList, hcs]; omega
  have hcp1 : ∀ ty dc sc, (Builtin.copy_ #[30, 30] ty #[.slice (some ⟨g, (i + 1) * 7, none⟩) (n - i) dc, .slice (some ⟨g, i * 7, none⟩) (n + 1 - i) sc]).run Try.prog w.drew = .ok (goInt ((n - i : Nat) : Int)) (w.drew.setCells g ((i + 1) * 7) (inner.drop (i * 7))) := fun ty dc sc =>
    run_copy_N w.drew 30 30 ty 63 7 g ((i + 1) * 7) (n - i) dc ⟨g, i * 7, none⟩ (n + 1 - i) sc (n - i) _ Try.underlying30 size63 (by simp only [Nat.min_def]; split <;> omega) hdl
      (cells_of hg (by rw [hdl, hin, List.drop_take, ← Nat.sub_mul])) (fun j hj => there_of (n := (n - i) * 7) hg (by rw [hcs]; omega) j (by rw [hdl] at hj; exact hj)) (fun j _ => blk_frozen hg _) (fun u hu => h1 u (List.mem_of_mem_drop hu))
  obtain ⟨cur1, hg1, hs1, hl1⟩ := setCells_row (inner.drop (i * 7)) ((i + 1) * 7) w.drew cur hg (by rw [hdl, hcs]; omega)
  obtain ⟨W1, hW1⟩ : ∃ W1, W1 = w.drew.setCells g ((i + 1) * 7) (inner.drop (i * 7)) := ⟨_, rfl⟩
  have hv1 : W1.heap[vb]? = some (.cells cp.toArray 63 (0, 0)) := by rw [hW1, setCells_far _ _ _ hne]; exact hv
  rw [← hW1] at hcp1 hg1 ⊢
  have hcp2 : ∀ ty dc, (Builtin.copy_ #[30, 30] ty #[.slice (some ⟨g, i * 7, none⟩) (n + 1 - i) dc, .slice (some ⟨vb, 0, none⟩) 1 1]).run Try.prog W1 = .ok (goInt 1) (W1.setCells g (i * 7) cp) := fun ty dc =>
    run_copy_N W1 30 30 ty 63 7 g (i * 7) (n + 1 - i) dc ⟨vb, 0, none⟩ 1 1 1 _ Try.underlying30 size63 (by simp only [Nat.min_def]; split <;> omega) (by omega)
      (cells_of hv1 (by rw [List.drop_zero, List.take_of_length_le (by simp)])) (fun j hj => there_of (n := 7) hg1 (by rw [hs1, hcs]; omega) j (by omega)) (fun j _ => blk_frozen hg1 _) h2
  have q1 : ((i : Int) == (n : Int)) = false := beq_eq_false_iff_ne.mpr (by omega)
  have q2 : IntKind.i64.wrap ((n : Int) + 1) = (n : Int) + 1 := by rw [IntKind.wrap_i64]; omega
  have q3 : IntKind.i64.wrap ((i : Int) + 1) = (i : Int) + 1 := by rw [IntKind.wrap_i64]; omega
  have q4 : i ≤ n := by omega
  have q5 : i ≤ c := by omega
  have q6 : (0 : Int) ≤ (n : Int) + 1 := by omega
  have q7 : (n : Int) + 1 ≤ (c : Int) := by omega
  have q8 : decide ((n : Int) + 1 > (c : Int)) = false := decide_eq_false (by omega)
  have q8b : decide ((c : Int) < (n : Int) + 1) = false := q8
  have q9 : ¬ (c = i + 1) := by omega
  have q10 : ¬ (c = i) := by omega
  have q11 : (0 : Int) ≤ (i : Int) + 1 := by omega
  have q12 : (i : Int) + 1 ≤ (n : Int) + 1 := by omega
  have q13 : (i : Int) ≤ (n : Int) + 1 := by omega
  clear hin hcs h1 h2 hg hg1 hs1 hl1 hv hv1 hdl hW1 hcl hne
  go_enter Try.func43, Try.ntmps43
  go_wp2_with (simp only [hov])
  refine start_ (n := 9) (S := fun _ => True) (ds := []) (mk 9 0) (by kernel_rfl) rfl rfl trivial (fun hHeld => ?_)
  refine with_tabW slices_Insert_Part.tab15 slices_Insert_Part.bits15 (fun HT_ HW_ => ?_)
  refine on_ 0 69 (mk 9 0x1) ?_
  refine on_ 1 70 (mk 9 0x3) ?_
  refine on_ 2 71 (mk 9 0x7) ?_
  refine on_ 3 72 (mk 9 0xF) ?_
  refine on_ 4 73 (mk 9 0x1F) ?_
  refine on_ 5 74 (mk 9 0x3F) ?_
  refine on_ 6 75 (mk 9 0x7F) ?_
  refine on_ 7 76 (mk 9 0xFF) ?_
  refine one_ (i := 8) (N := some 77) (mk 9 0x1FF) rfl rfl (one_of HT_.out (by kernel_rfl)) (by decide) (fun K hK => ?_)
  refine copy_step _ (by rfl) (.tmp 73) (.tmp 76) 30 30 rfl (.slice (some ⟨g, (i + 1) * 7, none⟩) (n - i) (c - (i + 1))) (.slice (some ⟨g, i * 7, none⟩) (n + 1 - i) (c - i)) ?e1 ?e2 (hcp1 _ _ _) ?_
  case e1 => rfl
  case e2 => rfl
  refine hK.out _ _ trivial (fun hHeld => nk_ 77 ?_)
  clear hK K
  refine dn_ ?_
  go_wp2_with (((with_reducible refine gate_builtin (b := .copy) (xs := #[.tmp 80, .tmp 81]) rfl ?_); refine copy_run _ rfl (.tmp 80) (.tmp 81) 30 30 rfl _ _ rfl rfl (hcp2 _ _) ?_))
  go_ret
  exact ⟨rfl, rfl⟩
set_option maxHeartbeats 8000000 in
set_option maxRecDepth 100000 in
/-- There is no room, and the place is ahead of the end: a new row. -/
theorem slices_Insert_Part.grow (base g n c vb i : Nat) (cp inner : List Value) (cur : Array Value) (w : World) (hbase : base ≤ w.heap.size) (hi : i < n) (hnc : n ≤ c) (hroom : c < n + 1) (hbig : (n + 1) * 72 ≤ 140737488355328) (hg : w.heap[g]? = some (.cells cur 63 (0, 0))) (hcs : cur.size = c * 7) (hin : inner = cur.toList.take (n * 7)) (hv : w.heap[vb]? = some (.cells cp.toArray 63 (0, 0))) (hcl : cp.length = 7) (h1 : ∀ u ∈ inner, u.oneCell' = true) (h2 : ∀ u ∈ cp, u.oneCell' = true) :
    Calls Try.prog 43 #[.slice (some ⟨g, 0, none⟩) n c, .int .i64 i, .slice (some ⟨vb, 0, none⟩) 1 1] w fun e w' => ∃ v1, e = .returned v1 ∧ w'.ownsRow base 63 7 v1 (n + 1) (inner.take (i * 7) ++ cp ++ inner.drop (i * 7)) ∧ w.grownBy w' (some g) ∧ (v1.ownBlock = some g ∨ v1.ownBlock = some w.heap.size) := by
  have hil : inner.length = n * 7 := by rw [hin, List.length_take, Array.length_toList, hcs]; omega
  have hdl : (inner.drop (i * 7)).length = (n - i) * 7 := by rw [List.length_drop, hil]; omega
  obtain ⟨i0, hi0, he0⟩ := Option.map_eq_some_iff.1 info63
  obtain ⟨z, hz⟩ : ∃ z : Value, z = .agg #[(.int .i64 0), (.int .i64 0), (.slice none 0 0), (.int .i64 0), (.int .i64 0), (.int .i64 0), (.int .i64 0)] := ⟨_, rfl⟩
  rw [← hz] at he0
  have hz0 : i0.zero = some z := congrArg (fun q => q.1) he0
  have hzs : i0.size = 7 := congrArg (fun q => q.2.1) he0
  have hzb : i0.bytes = 72 := congrArg (fun q => q.2.2) he0
  have hzc : z.cells.size = 7 := by rw [hz]; rfl
  have hold : (Builtin.firstCells i0.size i (.slice (some ⟨g, 0, none⟩) i c)).run Try.prog w.drew = .ok (inner.take (i * 7)).toArray w.drew := by
    rw [hzs]
    exact run_firstCells_some w.drew 7 i ⟨g, 0, none⟩ i c _ (by rw [List.length_take, hil]; omega) (cells_of hg (by rw [List.length_take, hil, List.drop_zero, hin, List.take_take]; first | done | (congr 1; omega)))
  have hik : i + (n + 1 - i) = n + 1 := by omega
  have hkk : (n : Int) + 1 - (i : Int) = ((n + 1 - i : Nat) : Int) := by omega
  obtain ⟨G, hG⟩ : ∃ G, G = grownCap w (n + 1) c 63 := ⟨_, rfl⟩
  have hG1 : n + 1 ≤ G := hG ▸ grownCap_ge w _ _ _
  have hG2 : G ≤ maxLen := hG ▸ grownCap_le_maxLen w (n + 1) c 63 (by unfold maxLen; omega)
  have hG63 : G ≤ 9223372036854775807 := hG2
  obtain ⟨ROW, hROW⟩ : ∃ ROW : Array Value, ROW = (inner.take (i * 7)).toArray ++ Builtin.zeroCells z.cells (n + 1 - i) ++ Builtin.zeroCells z.cells (G - (n + 1)) := ⟨_, rfl⟩
  have hrz : ∀ ty, (Builtin.append_ #[30, 3] ty #[.slice (some ⟨g, 0, none⟩) i c, .int .i64 ((n : Int) + 1 - (i : Int))]).run Try.prog w = .ok (.slice (some ⟨w.heap.size, 0, none⟩) (n + 1) G) (w.drew.alloc (.cells ROW 63)) := fun ty => by
    have h := Lib.run_append_grow_zeros w 30 3 ty 63 i0 z .i64 .i64 Try.underlying30 Try.underlying3 hi0 hz0 (some ⟨g, 0, none⟩) i c _ hold (n + 1 - i) (by omega) (by omega) (by omega) (by omega) (by rw [hzb]; omega) (by rw [hzb, hik]; exact growslice_fits (by omega) hbig)
    rw [hik] at h
    rw [hkk, hROW, hG]
    exact h
  have hRs : ROW.size = G * 7 := by
    rw [hROW]
    simp only [Array.size_append, List.size_toArray, size_zeroCells, hzc, List.length_take, hil]
    omega
  have hRl : ROW.toList = inner.take (i * 7) ++ ((Builtin.zeroCells z.cells (n + 1 - i)).toList ++ (Builtin.zeroCells z.cells (G - (n + 1))).toList) := by rw [hROW, Array.toList_append, Array.toList_append, List.append_assoc]
  clear hold hi0 hz0 he0 hROW hkk hik
  obtain ⟨N, hN⟩ : ∃ N, N = w.heap.size := ⟨_, rfl⟩
  have hgN : g < N := hN ▸ blk_lt hg
  have hvN : vb < N := hN ▸ blk_lt hv
  rw [← hN] at hrz ⊢
  obtain ⟨W1, hW1⟩ : ∃ W1, W1 = w.drew.alloc (.cells ROW 63) := ⟨_, rfl⟩
  rw [← hW1] at hrz
  have g1 : W1.heap[N]? = some (.cells ROW 63 (0, 0)) := by rw [hW1, hN]; exact heap_alloc_new w.drew _
  have gr1 : w.grownBy W1 (some g) := by rw [hW1]; exact ⟨rfl, rfl, rfl, by simp, fun k hk _ => heap_alloc_old w.drew _ hk⟩
  have hgg : W1.heap[g]? = some (.cells cur 63 (0, 0)) := by rw [hW1, heap_alloc_old w.drew _ (blk_lt hg)]; exact hg
  have hvv : W1.heap[vb]? = some (.cells cp.toArray 63 (0, 0)) := by rw [hW1, heap_alloc_old w.drew _ (blk_lt hv)]; exact hv
  have hcpA : ∀ ty dc, (Builtin.copy_ #[30, 30] ty #[.slice (some ⟨N, i * 7, none⟩) (n + 1 - i) dc, .slice (some ⟨vb, 0, none⟩) 1 1]).run Try.prog W1 = .ok (goInt 1) (W1.setCells N (i * 7) cp) := fun ty dc =>
    run_copy_N W1 30 30 ty 63 7 N (i * 7) (n + 1 - i) dc ⟨vb, 0, none⟩ 1 1 1 _ Try.underlying30 size63 (by simp only [Nat.min_def]; split <;> omega) (by omega)
      (cells_of hvv (by rw [List.drop_zero, List.take_of_length_le (by simp)])) (fun j hj => there_of (n := 7) g1 (by rw [hRs]; omega) j (by omega)) (fun j _ => blk_frozen g1 _) h2
  obtain ⟨cur2, g2, s2, l2⟩ := setCells_row cp (i * 7) W1 ROW g1 (by rw [hcl, hRs]; omega)
  have hgg2 : (W1.setCells N (i * 7) cp).heap[g]? = some (.cells cur 63 (0, 0)) := by rw [setCells_far _ _ _ (by omega)]; exact hgg
  have gr2 := grown_drew (grown_set cp (i * 7) gr1 (.inr (Nat.le_of_eq hN.symm)))
  obtain ⟨W2, hW2⟩ : ∃ W2, W2 = W1.setCells N (i * 7) cp := ⟨_, rfl⟩
  rw [← hW2] at hcpA g2 hgg2 gr2
  have hcpB : ∀ ty dc sc, (Builtin.copy_ #[30, 30] ty #[.slice (some ⟨N, (i + 1) * 7, none⟩) (n - i) dc, .slice (some ⟨g, i * 7, none⟩) (n - i) sc]).run Try.prog W2.drew = .ok (goInt ((n - i : Nat) : Int)) (W2.drew.setCells N ((i + 1) * 7) (inner.drop (i * 7))) := fun ty dc sc =>
    run_copy_N W2.drew 30 30 ty 63 7 N ((i + 1) * 7) (n - i) dc ⟨g, i * 7, none⟩ (n - i) sc (n - i) _ Try.underlying30 size63 (by simp only [Nat.min_def]; split <;> omega) hdl
      (cells_of hgg2 (by rw [hdl, hin, List.drop_take, ← Nat.sub_mul])) (fun j hj => there_of (n := (n - i) * 7) g2 (by rw [s2, hRs]; omega) j (by rw [hdl] at hj; exact hj)) (fun j _ => blk_frozen g2 _) (fun u hu => h1 u (List.mem_of_mem_drop hu))
  obtain ⟨cur3, g3, s3, l3⟩ := setCells_row (inner.drop (i * 7)) ((i + 1) * 7) W2.drew cur2 g2 (by rw [hdl, s2, hRs]; omega)
  have gr3 := grown_set (inner.drop (i * 7)) ((i + 1) * 7) gr2 (g := N) (.inr (Nat.le_of_eq hN.symm))
  have hrow := row_grow _ inner cp ROW.toList cur2.toList cur3.toList (I := i * 7) (N := n * 7) hil (by omega) hRl (by rw [Array.length_toList, hRs]; omega) hcl l2 (by rw [l3]; simp only [Nat.add_mul, Nat.one_mul])
  have FIN : (W2.drew.setCells N ((i + 1) * 7) (inner.drop (i * 7))).ownsRow base 63 7 (.slice (some ⟨N, 0, none⟩) (n + 1) G) (n + 1) (inner.take (i * 7) ++ cp ++ inner.drop (i * 7)) :=
    ⟨by simp only [List.length_append, List.length_take, hil, hcl, hdl]; omega, .inr ⟨N, G, cur3, rfl, by omega, g3, hG1, hG2, by rw [s3, s2, hRs], by rw [← hrow]; congr 1; omega⟩⟩
  have q1 : ((i : Int) == (n : Int)) = false := beq_eq_false_iff_ne.mpr (by omega)
  have q2 : IntKind.i64.wrap ((n : Int) + 1) = (n : Int) + 1 := by rw [IntKind.wrap_i64]; omega
  have q3 : IntKind.i64.wrap ((i : Int) + 1) = (i : Int) + 1 := by rw [IntKind.wrap_i64]; omega
  have q3b : IntKind.i64.wrap ((n : Int) + 1 - (i : Int)) = (n : Int) + 1 - (i : Int) := by rw [IntKind.wrap_i64]; omega
  have q4 : i ≤ n := by omega
  have q5 : i ≤ c := by omega
  have q6 : (0 : Int) ≤ (n : Int) + 1 := by omega
  have q8 : decide ((n : Int) + 1 > (c : Int)) = true := decide_eq_true (by omega)
  have q8b : decide ((c : Int) < (n : Int) + 1) = true := q8
  have q9 : ¬ (G = i + 1) := by omega
  have q10 : ¬ (G = i) := by omega
  have q10b : ¬ (c = i) := by omega
  have q11 : (0 : Int) ≤ (i : Int) + 1 := by omega
  have q12 : (i : Int) + 1 ≤ (n : Int) + 1 := by omega
  have q13 : (i : Int) ≤ (n : Int) + 1 := by omega
  have q14 : i ≤ G := by omega
  have q15 : i + 1 ≤ G := by omega
  clear hin hcs h1 h2 hg hv hil hdl hcl hrow l2 l3 g2 g3 s2 s3 hgg hgg2 hvv hRl hRs gr2 gr1 g1 hzb hzs hzc hz hvN hgN hG hW2 hW1 hN
  go_enter Try.func43, Try.ntmps43
  go_wp2_with (first
    | ((with_reducible refine gate_builtin (b := .append) (xs := #[.tmp 34, .tmp 39]) rfl ?_); refine append_run _ rfl (.tmp 34) (.tmp 39) 30 3 rfl (.slice (some ⟨g, 0, none⟩) i c) (.int .i64 ((n : Int) + 1 - (i : Int))) rfl rfl (hrz _) ?_)
    | ((with_reducible refine gate_builtin (b := .copy) (xs := #[.tmp 43, .tmp 44]) rfl ?_); refine copy_run _ rfl (.tmp 43) (.tmp 44) 30 30 rfl (.slice (some ⟨N, i * 7, none⟩) (n + 1 - i) (G - i)) (.slice (some ⟨vb, 0, none⟩) 1 1) rfl rfl (hcpA _ _) ?_))
  refine start_ (n := 9) (S := fun _ => True) (ds := []) (mk 9 0) (by kernel_rfl) rfl rfl trivial (fun hHeld => ?_)
  refine with_tabW slices_Insert_Part.tab11 slices_Insert_Part.bits11 (fun HT_ HW_ => ?_)
  refine on_ 0 46 (mk 9 0x1) ?_
  refine on_ 1 47 (mk 9 0x3) ?_
  refine on_ 2 48 (mk 9 0x7) ?_
  refine on_ 3 49 (mk 9 0xF) ?_
  refine on_ 4 50 (mk 9 0x1F) ?_
  refine on_ 5 51 (mk 9 0x3F) ?_
  refine on_ 6 52 (mk 9 0x7F) ?_
  refine on_ 7 53 (mk 9 0xFF) ?_
  refine one_ (i := 8) (N := some 54) (mk 9 0x1FF) rfl rfl (one_of HT_.out (by kernel_rfl)) (by decide) (fun K hK => ?_)
  refine copy_step _ (by rfl) (.tmp 50) (.tmp 53) 30 30 rfl (.slice (some ⟨N, (i + 1) * 7, none⟩) (n - i) (G - (i + 1))) (.slice (some ⟨g, i * 7, none⟩) (n - i) (c - i)) ?e1 ?e2 (hcpB _ _ _) ?_
  case' e1 => rfl
  case' e2 => rfl
  refine hK.out _ _ trivial (fun hHeld => nk_ 54 ?_)
  clear hK K
  refine dn_ ?_
  go_wp2
  go_ret
  exact ⟨_, rfl, FIN, gr3, .inr rfl⟩
set_option maxHeartbeats 8000000 in
set_option maxRecDepth 100000 in
/-- The place is the end. -/
theorem slices_Insert_Part.end_ (base vb n c : Nat) (A : Option Addr) (cp inner : List Value) (w : World) (hbase : base ≤ w.heap.size) (hown : w.ownsRow base 63 7 (.slice A n c) n inner) (hbig : (n + 1) * 72 ≤ 140737488355328) (hv : w.heap[vb]? = some (.cells cp.toArray 63 (0, 0))) (hcl : cp.length = 7) (h2 : ∀ u ∈ cp, u.oneCell' = true) :
    Calls Try.prog 43 #[.slice A n c, .int .i64 n, .slice (some ⟨vb, 0, none⟩) 1 1] w fun e w' => ∃ v1, e = .returned v1 ∧ w'.ownsRow base 63 7 v1 (n + 1) (inner ++ cp) ∧ w.grownBy w' (Value.slice A n c).ownBlock ∧ (v1.ownBlock = (Value.slice A n c).ownBlock ∨ v1.ownBlock = some w.heap.size) := by
  obtain ⟨i0, hi0, he0⟩ := Option.map_eq_some_iff.1 info63
  have hz0 := congrArg (fun q => q.1) he0
  have hzs : i0.size = 7 := congrArg (fun q => q.2.1) he0
  have hzb : i0.bytes = 72 := congrArg (fun q => q.2.2) he0
  have hap : ∀ ty, ∃ v1 w1, (Builtin.append_ #[30, 30] ty #[.slice A n c, .slice (some ⟨vb, 0, none⟩) 1 1]).run Try.prog w = .ok v1 w1 ∧ w1.ownsRow base 63 7 v1 (n + 1) (inner ++ cp) ∧ w.grownBy w1 (Value.slice A n c).ownBlock ∧ (v1.ownBlock = (Value.slice A n c).ownBlock ∨ v1.ownBlock = some w.heap.size) := fun ty => by
    obtain ⟨v1, w1, r1, r2, r3, _, r5⟩ := run_append_own_at (P := Try.prog) w base 30 ty 63 i0 _ 7 72 Try.underlying30 hi0 hz0 hzs hzb rfl (by decide) (.slice A n c) n inner hown ⟨vb, 0, none⟩ 1 1 cp (by omega) (cells_of hv (by rw [List.drop_zero, List.take_of_length_le (by simp)])) h2 (by unfold maxLen; omega) hbig hbase
    exact ⟨v1, w1, r1, r2, r3, r5⟩
  have hf : (A = none ∧ n = 0 ∧ c = 0) ∨ ∃ g, A = some ⟨g, 0, none⟩ ∧ n ≤ c := by
    rcases hown.2 with ⟨h, _⟩ | ⟨g, cap, cur, h, _, _, h3, _⟩
    · injection h with h1 h2 h3
      exact .inl ⟨h1, h2, h3⟩
    · injection h with h1 h2 h4
      exact .inr ⟨g, h1, h4 ▸ h3⟩
  clear hown hbig hv hcl h2 he0 hi0 hz0 hzs hzb hbase
  have q1 : ((n : Int) == (n : Int)) = true := beq_self_eq_true _
  rcases hf with ⟨rfl, rfl, rfl⟩ | ⟨g, rfl, hnc⟩
  · obtain ⟨v1, w1, r1, r2⟩ := hap 30
    clear hap
    go_enter Try.func43, Try.ntmps43
    go_wp2_with (((with_reducible refine gate_builtin (b := .append) (xs := #[.tmp 23, .tmp 24]) rfl ?_); refine append_run _ rfl (.tmp 23) (.tmp 24) 30 30 rfl (.slice none 0 0) (.slice (some ⟨vb, 0, none⟩) 1 1) rfl rfl r1 ?_))
    go_ret
    exact ⟨_, rfl, r2⟩
  · obtain ⟨v1, w1, r1, r2⟩ := hap 30
    clear hap
    go_enter Try.func43, Try.ntmps43
    go_wp2_with (((with_reducible refine gate_builtin (b := .append) (xs := #[.tmp 23, .tmp 24]) rfl ?_); refine append_run _ rfl (.tmp 23) (.tmp 24) 30 30 rfl (.slice (some ⟨g, 0, none⟩) n c) (.slice (some ⟨vb, 0, none⟩) 1 1) rfl rfl r1 ?_))
    all_goals (go_ret; exact ⟨_, rfl, r2⟩)
theorem slices_Insert_Part.own (base vb n c i : Nat) (A : Option Addr) (cp inner : List Value) (w : World) (hbase : base ≤ w.heap.size) (hi : i ≤ n) (hown : w.ownsRow base 63 7 (.slice A n c) n inner) (hbig : (n + 1) * 72 ≤ 140737488355328) (hv : w.heap[vb]? = some (.cells cp.toArray 63 (0, 0))) (hne : some vb ≠ (Value.slice A n c).ownBlock) (hcl : cp.length = 7) (h1 : ∀ u ∈ inner, u.oneCell' = true) (h2 : ∀ u ∈ cp, u.oneCell' = true) :
    Calls Try.prog 43 #[.slice A n c, .int .i64 i, .slice (some ⟨vb, 0, none⟩) 1 1] w fun e w' => ∃ v1, e = .returned v1 ∧ w'.ownsRow base 63 7 v1 (n + 1) (inner.take (i * 7) ++ cp ++ inner.drop (i * 7)) ∧ w.grownBy w' (Value.slice A n c).ownBlock ∧ (v1.ownBlock = (Value.slice A n c).ownBlock ∨ v1.ownBlock = some w.heap.size) := by
  by_cases hin : i < n
  · rcases hown.2 with ⟨_, h⟩ | ⟨g, cap, cur, h, hb, hg, hnc, hcm, hcs, ht⟩
    · omega
    · injection h with e1 _ e3
      subst e1 e3
      by_cases hroom : n + 1 ≤ c
      · have hneg : vb ≠ g := fun e => hne (by rw [e]; rfl)
        have hdl : (inner.drop (i * 7)).length = (n - i) * 7 := by rw [List.length_drop, hown.1]; omega
        obtain ⟨cur1, g1, s1, l1⟩ := setCells_row (inner.drop (i * 7)) ((i + 1) * 7) w.drew cur hg (by rw [hdl, hcs]; omega)
        obtain ⟨cur2, g2, s2, l2⟩ := setCells_row cp (i * 7) _ cur1 g1 (by rw [hcl, s1, hcs]; omega)
        have hrow := row_room cur.toList inner cp cur1.toList cur2.toList (I := i * 7) (N := n * 7) ht.symm (by omega) (by rw [Array.length_toList, hcs]; omega) hcl (by rw [l1]; simp only [Nat.add_mul, Nat.one_mul]) l2
        refine (slices_Insert_Part.room g n c vb i cp inner cur w hin hroom hcm hneg hg hcs ht.symm hv hcl h1 h2).mono ?_
        rintro e w' ⟨rfl, rfl⟩
        exact ⟨_, rfl, ⟨by simp only [List.length_append, List.length_take, hown.1, hcl, hdl]; omega, .inr ⟨g, c, cur2, rfl, hb, g2, hroom, hcm, by rw [s2, s1, hcs], by rw [← hrow]; congr 1; omega⟩⟩, grown_set _ _ (grown_set _ _ (grown_drew ⟨rfl, rfl, rfl, Nat.le_refl _, fun _ _ _ => rfl⟩) (.inl rfl)) (.inl rfl), .inl rfl⟩
      · exact slices_Insert_Part.grow base g n c vb i cp inner cur w hbase hin hnc (by omega) hbig hg hcs ht.symm hv hcl h1 h2
  · obtain rfl : i = n := by omega
    have := slices_Insert_Part.end_ base vb i c A cp inner w hbase hown hbig hv hcl h2
    rw [List.take_of_length_le (Nat.le_of_eq hown.1), List.drop_eq_nil_of_le (Nat.le_of_eq hown.1), List.append_nil]
    exact this
theorem Items_one {W : World} {base : Nat} {ok : Nat → Prop} {okj : Nat → Nat → Prop} {xs : List S63} {inner : List Value} (h : Items k63 W base ok xs okj inner) : ∀ u ∈ inner, u.oneCell' = true := by
  intro u hu
  obtain ⟨q, hq⟩ := List.mem_iff_getElem?.1 hu
  have hlt : q < inner.length := (List.getElem?_eq_some_iff.1 hq).1
  have h7 : k63.sz = 7 := rfl
  rw [h.len, h7] at hlt
  have hj : q / 7 < xs.length := by omega
  have hm := h.M (q / 7) xs[q / 7] (List.getElem?_eq_getElem hj)
  refine k63.K_one (k63.K_of_M hm) u (List.mem_iff_getElem?.2 ⟨q % 7, ?_⟩)
  rw [List.getElem?_take, if_pos (by rw [h7]; omega), List.getElem?_drop, h7, show q / 7 * 7 + q % 7 = q by omega]
  exact hq
/-- slices.Insert(out, i, p): p's cells lie in the block vb, its own blocks are okp. -/
theorem slices_Insert_Part.calls (base : Nat) (ok okp : Nat → Prop) (A : Option Addr) (vb c i : Nat) (xs : List S63) (p : S63) (cp : List Value) (w0 w : World) (hB : Below base w0 w) (hbase : base ≤ w.heap.size) (hO : Kd.S k63 63 w base ok (.slice A xs.length c) xs) (hi : i ≤ xs.length) (hbig : (xs.length + 1) * 72 ≤ 140737488355328)
    (hv : w.heap[vb]? = some (.cells cp.toArray 63 (0, 0))) (hvb : ¬ ok vb) (hp : k63.M w base okp p cp) (hokp : ∀ k, okp k → ¬ ok k) :
    Calls Try.prog 43 #[.slice A xs.length c, .int .i64 i, .slice (some ⟨vb, 0, none⟩) 1 1] w fun e w' => ∃ v1, e = .returned v1 ∧ Kd.S k63 63 w' base (fun _ => True) v1 (xs.take i ++ p :: xs.drop i) ∧ Below base w0 w' := by
  obtain ⟨okj, inner, h0, hown, hI⟩ := S_open hO
  have hne : some vb ≠ (Value.slice A xs.length c).ownBlock := fun e => hvb (h0 vb e.symm)
  have hbg : ∀ k, (Value.slice A xs.length c).ownBlock = some k → base ≤ k := fun k hk => by
    rcases hown.2 with ⟨h, _⟩ | ⟨g, cap, cur, h, hb, _⟩
    · rw [h] at hk; cases hk
    · rw [h] at hk; cases hk; exact hb
  refine (slices_Insert_Part.own base vb xs.length c i A cp inner w hbase hi hown hbig hv hne (k63.K_len (k63.K_of_M hp)) (Items_one hI) (k63.K_one (k63.K_of_M hp))).mono ?_
  rintro e w' ⟨v1, rfl, ho, hg, hat⟩
  refine ⟨v1, rfl, ?_, pw_below_grown hB _ hbase hg hbg⟩
  have hI' : Items k63 w base (fun k => True ∧ some k ≠ (Value.slice A xs.length c).ownBlock) xs okj inner := ⟨hI.len, hI.apart, fun j k hk => ⟨⟨trivial, (hI.okk j k hk).1.2⟩, (hI.okk j k hk).2⟩, hI.M⟩
  refine S_insert hi (fun _ _ => trivial) hI' hp (fun k hk => ⟨⟨trivial, fun e => hokp k hk (h0 k e.symm)⟩, fun j hj => hokp k hk (hI.okk j k hj).1.1⟩) ho (fun k hlt hk => hg.block k hlt hk) ?_ (fun _ _ => trivial)
  rcases hat with h | h
  · exact .inl h
  · exact .inr ⟨_, h, Nat.le_refl _⟩
/-- Where a part of digest d belongs. -/
def put_at (xs : List S63) (d : Int) : Nat := (xs.takeWhile (fun x => decide (x.f0 < d))).length
theorem put_at_le (xs : List S63) (d : Int) : put_at xs d ≤ xs.length := by
  unfold put_at
  induction xs with
  | nil => exact Nat.le_refl _
  | cons x r ih =>
    rw [List.takeWhile_cons]
    split
    · exact Nat.succ_le_succ ih
    · exact Nat.zero_le _
theorem put_at_step {xs : List S63} {d : Int} {i : Nat} (hi : i < xs.length) (h : (rd_T63 xs (i : Int)).f0 < d) (e : put_at xs d = i + put_at (xs.drop i) d) : put_at xs d = (i + 1) + put_at (xs.drop (i + 1)) d := by
  have hx : rd_T63 xs (i : Int) = xs[i] := by unfold rd_T63; rw [List.getD_eq_getElem?_getD, show ((i : Nat) : Int).toNat = i from rfl, List.getElem?_eq_getElem hi]; rfl
  rw [hx] at h
  rw [e, List.drop_eq_getElem_cons hi]
  unfold put_at
  rw [List.takeWhile_cons, if_pos (decide_eq_true h), List.length_cons]
  omega
theorem put_at_stop {xs : List S63} {d : Int} {i : Nat} (hi : i < xs.length) (h : ¬ (rd_T63 xs (i : Int)).f0 < d) (e : put_at xs d = i + put_at (xs.drop i) d) : put_at xs d = i := by
  have hx : rd_T63 xs (i : Int) = xs[i] := by unfold rd_T63; rw [List.getD_eq_getElem?_getD, show ((i : Nat) : Int).toNat = i from rfl, List.getElem?_eq_getElem hi]; rfl
  rw [hx] at h
  rw [e, List.drop_eq_getElem_cons hi]
  unfold put_at
  rw [List.takeWhile_cons, if_neg (by simpa using h)]
  rfl
theorem put_at_end {xs : List S63} {d : Int} {i : Nat} (hi : ¬ i < xs.length) (e : put_at xs d = i + put_at (xs.drop i) d) : put_at xs d = i := by
  rw [e, List.drop_eq_nil_of_le (by omega)]
  rfl
/-- One more use of the part at place t. -/
def put_use (xs : List S63) (t : Int) : List S63 := xs.set t.toNat ⟨(rd_T63 xs t).f0, (rd_T63 xs t).f1, wrap64 ((rd_T63 xs t).f2 + 1)⟩
def put_res (q : Int × List Int × Int × Int × Int) : S36 := ⟨q.1, q.2.1, ⟨q.2.2.1, q.2.2.2.1, q.2.2.2.2⟩⟩
theorem box5z {W : World} {g t : Nat} {z0 z1 z2 z3 z4 : Value} (h : W.heap[g]? = some (.cells #[z0, z1, z2, z3, z4] t (0, 0))) :
    (W.cell? ⟨g, 0, none⟩ = some z0 ∧ W.cell? ⟨g, 1, none⟩ = some z1 ∧ W.cell? ⟨g, 2, none⟩ = some z2 ∧ W.cell? ⟨g, 3, none⟩ = some z3 ∧ W.cell? ⟨g, 4, none⟩ = some z4) ∧ ∀ j, W.frozen? ⟨g, j, none⟩ = false :=
  ⟨⟨(blk_cell h 0).trans rfl, (blk_cell h 1).trans rfl, (blk_cell h 2).trans rfl, (blk_cell h 3).trans rfl, (blk_cell h 4).trans rfl⟩, blk_frozen h⟩
theorem S_form0 {W : World} {base n c : Nat} {A : Option Addr} {ok : Nat → Prop} {xs : List S63} (h : Kd.S k63 63 W base ok (.slice A n c) xs) : (A = none ∧ xs = [] ∧ c = 0) ∨ ∃ g, A = some ⟨g, 0, none⟩ := by
  obtain ⟨okj, inner, h0, hown, hI⟩ := S_open h
  rcases hown.2 with ⟨e, h1⟩ | ⟨g, cap, cur, e, _⟩
  · injection e with e1 e2 e3
    exact .inl ⟨e1, List.eq_nil_of_length_eq_zero h1, e3⟩
  · injection e with e1 e2 e3
    exact .inr ⟨g, e1⟩
theorem S_blk {W : World} {base g n c : Nat} {ok : Nat → Prop} {xs : List S63} (h : Kd.S k63 63 W base ok (.slice (some ⟨g, 0, none⟩) n c) xs) : ∃ cur, W.heap[g]? = some (.cells cur 63 (0, 0)) := by
  obtain ⟨okj, inner, h0, hown, hI⟩ := S_open h
  rcases hown.2 with ⟨e, h1⟩ | ⟨g2, cap, cur, e, _, h3, _⟩
  · cases e
  · injection e with e1 e2 e3
    injection e1 with e1
    injection e1 with e1
    subst e1
    exact ⟨cur, h3⟩
theorem S_ne {W : World} {base gb t : Nat} {cs : Array Value} {ok : Nat → Prop} {v : Value} {xs : List S63} (h : Kd.S k63 63 W base ok v xs) (hb : W.heap[gb]? = some (.cells cs t (0, 0))) (ht : t ≠ 63) : some gb ≠ v.ownBlock := by
  obtain ⟨A, c, rfl⟩ := Kd.S_slice h
  rcases S_form0 h with ⟨rfl, _, _⟩ | ⟨g, rfl⟩
  · intro e; cases e
  · obtain ⟨cur, hg⟩ := S_blk h
    exact fun e => blk_ne hb hg ht (Option.some.inj e)
theorem run_append_nothing (W : World) (ty g n c : Nat) (hn : n ≤ c) : (Builtin.append_ #[30, 30] ty #[.slice (some ⟨g, 0, none⟩) n c, .slice none 0 0]).run Try.prog W = .ok (.slice (some ⟨g, 0, none⟩) n c) W := by
  obtain ⟨i0, hi0, he0⟩ := Option.map_eq_some_iff.1 info63
  simp [Builtin.append_, run_underlying Try.underlying30, sizeOf, typeInfo, hi0, Builtin.lenOf, Builtin.firstCells, loadCells, loadCellsFrom, hn, storeCells]
/-- append(v, u...) of rows of parts that lie apart. -/
theorem S_appends {w0 W : World} {base : Nat} {ok1 ok2 : Nat → Prop} {v u : Value} {xs ys : List S63} (hO : Kd.S k63 63 W base ok1 v xs) (hZ : Kd.S k63 63 W base ok2 u ys) (hx : 0 < xs.length) (hap : ∀ k, ok1 k → ok2 k → False) (HB : Below base w0 W) (hbase : base ≤ W.heap.size) (hl : (xs.length + ys.length) * 72 ≤ 140737488355328) :
    ∃ v1 w1, (∀ ty, (Builtin.append_ #[30, 30] ty #[v, u]).run Try.prog W = .ok v1 w1) ∧ Kd.S k63 63 w1 base (fun _ => True) v1 (xs ++ ys) ∧ Below base w0 w1 ∧ W.grownBy w1 v.ownBlock := by
  obtain ⟨okj, inner, h0, hown, hI⟩ := S_open hO
  obtain ⟨okj2, inner2, h02, hown2, hI2⟩ := S_open hZ
  have hv : ∃ g c, v = .slice (some ⟨g, 0, none⟩) xs.length c ∧ base ≤ g ∧ xs.length ≤ c := by
    rcases hown.2 with ⟨_, h⟩ | ⟨g, cap, cur, e, hb, _, hc, _⟩
    · omega
    · exact ⟨g, cap, e, hb, hc⟩
  obtain ⟨g, c, rfl, hbg, hnc⟩ := hv
  rcases hown2.2 with ⟨rfl, h⟩ | ⟨g2, c2, cur2, rfl, _, _, _, _⟩
  · obtain rfl := List.eq_nil_of_length_eq_zero h
    rw [List.append_nil]
    exact ⟨_, _, fun ty => run_append_nothing W ty g xs.length c hnc, Kd.S_mono hO (fun _ _ => trivial), HB, ⟨rfl, rfl, rfl, Nat.le_refl _, fun _ _ _ => rfl⟩⟩
  · obtain ⟨i0, hi0, he0⟩ := Option.map_eq_some_iff.1 info63
    have hz0 := congrArg (fun q => q.1) he0
    have hzs : i0.size = 7 := congrArg (fun q => q.2.1) he0
    have hzb : i0.bytes = 72 := congrArg (fun q => q.2.2) he0
    obtain ⟨v1, w1, r1, r2, r3, _, r5⟩ := run_append_own_at (P := Try.prog) W base 30 0 63 i0 _ 7 72 Try.underlying30 hi0 hz0 hzs hzb rfl (by decide) _ xs.length inner hown ⟨g2, 0, none⟩ ys.length c2 inner2 hown2.1 (hown2.cells (g := g2) rfl) (Items_one hI2) (by unfold maxLen; omega) hl hbase
    refine ⟨v1, w1, fun ty => r1, ?_, pw_below_grown HB _ hbase r3 (fun k hk => by cases hk; exact hbg), r3⟩
    have hI' : Items k63 W base (fun k => True ∧ some k ≠ (Value.slice (some ⟨g, 0, none⟩) xs.length c).ownBlock) xs okj inner := ⟨hI.len, hI.apart, fun j k hk => ⟨⟨trivial, (hI.okk j k hk).1.2⟩, (hI.okk j k hk).2⟩, hI.M⟩
    refine S_cat (fun _ _ => trivial) hI' hI2 (fun j k hk => ⟨⟨trivial, fun e => hap k (h0 k e.symm) (hI2.okk j k hk).1.1⟩, fun i hi => hap k (hI.okk i k hi).1.1 (hI2.okk j k hk).1.1⟩) r2 (fun k hlt hk => r3.block k hlt hk) ?_ (fun _ _ => trivial)
    rcases r5 with h | h
    · exact .inl h
    · exact .inr ⟨_, h, Nat.le_refl _⟩
def spec_PutPart.T12 : Bool × List (List Nat × List Nat) := (true, [([], []), ([], []), ([0, 1], [0, 1]), ([], []), ([], []), ([4], [4]), ([3, 5], [3, 5]), ([6], [6]), ([2, 7, 5], [2, 7]), ([], []), ([], []), ([9, 10], [9, 10]), ([11, 8], [11]), ([8, 12, 12], [8, 12]), ([13, 13, 0, 1, 2, 3, 4, 5, 6, 7, 8, 9, 10, 11, 12, 13], [13])])
def spec_PutPart.B12 : List Nat := [0, 0, 3, 0, 0, 16, 56, 120, 255, 0, 0, 1536, 4095, 8191, 16383]
theorem spec_PutPart.tab12 : rtab .any (opsOf Try.f8 12) = spec_PutPart.T12 := by kernel_rfl
theorem spec_PutPart.bits12 : waitsOk spec_PutPart.T12.2 spec_PutPart.B12 = true := by kernel_rfl
theorem cut_call {P : Program} {fn : FuncId} {A : Option Addr} {c p : Nat} {l : List S63} {w : World} {Q : Ending → World → Prop} (h : Calls P fn #[.slice A (l.drop p).length c] w Q) : Calls P fn #[.slice A (l.length - p) c] w Q := by
  rw [List.length_drop] at h
  exact h
def spec_PutPart.fin (k : Nat) (l0 y : List S63) : Option (List S63 × Bool) := (spec_IsStore.f k y).bind fun b => if b = true then some (y, true) else (spec_l7Copy.f k l0).bind fun c => some (c, false)
def spec_PutPart.mid (k : Nat) (l0 t1 : List S63) (t2 d : Int) (a1_0 : Int) (l1_1 : List Int) (a1_2 : Int) (a1_3 : Int) (a1_4 : Int) : Option (List S63) :=
  if 0 ≤ t2 then (if t2 < (t1.length : Int) then some (put_use t1 t2) else none)
  else (spec_l7Copy.f k l0).bind fun x => (spec_l5Copy.f a1_0 l1_1 a1_2 a1_3 a1_4).bind fun q => (spec_l7Copy.f k (l0.drop (put_at l0 d))).bind fun z => if put_at l0 d ≤ x.length ∧ x.length + z.length < 1954687338267 then some ((x.take (put_at l0 d) ++ [(⟨d, put_res q, 1⟩ : S63)]) ++ z) else none
def spec_PutPart.f (k : Nat) (l0 : List S63) (a1_0 : Int) (l1_1 : List Int) (a1_2 : Int) (a1_3 : Int) (a1_4 : Int) : Option (List S63 × Bool) :=
  (spec_IsStore.f k l0).bind fun b => if b = true then (spec_DigestOf.f k a1_0 l1_1 a1_2 a1_3 a1_4).bind fun d => (spec_l7Find.f k l0 d).bind fun t2 => (spec_l7Copy.f k l0).bind fun t1 => (spec_PutPart.mid k l0 t1 t2 d a1_0 l1_1 a1_2 a1_3 a1_4).bind fun y => spec_PutPart.fin k l0 y else (spec_l7Copy.f k l0).bind fun t1 => some (t1, false)
set_option maxHeartbeats 8000000 in
set_option maxRecDepth 100000 in
theorem spec_PutPart.calls (k : Nat) (A0 : Option Addr) (c0 : Nat) (l0 : List (S63)) (a1_0 : Int) (A1_1 : Option Addr) (c1_1 : Nat) (l1_1 : List Int) (a1_2 : Int) (a1_3 : Int) (a1_4 : Int) (r1 : List (S63)) (r2 : Bool) (w : World) (hr0 : Kd.C k63 w A0 l0.length l0) (hc0 : l0.length ≤ c0) (hr1_1 : Kd.C (Kd.int .i64) w A1_1 l1_1.length l1_1) (hc1_1 : l1_1.length ≤ c1_1) (h : spec_PutPart.f k l0 a1_0 l1_1 a1_2 a1_3 a1_4 = some (r1, r2)) :
    Calls Try.prog 8 #[.slice A0 l0.length c0, .agg #[.int .i64 a1_0, .slice A1_1 l1_1.length c1_1, .int .i64 a1_2, .int .i64 a1_3, .int .i64 a1_4]] w fun e w' => ∃ v0_ : Value, e = .returned (.tuple #[v0_, .bool r2]) ∧ Kd.S k63 63 w' w.heap.size (fun _ => True) v0_ r1 ∧ Below w.heap.size w w' := by
  have hu36 := Try.underlying36
  have hu63 := Try.underlying63
  have HR0 := Aside0.mk hr0
  have HC0 := Aside0.mk hc0
  have HR1 := Aside0.mk hr1_1
  have HC1 := Aside0.mk hc1_1
  clear hr0 hc0 hr1_1 hc1_1
  have HB := Aside0.mk (Below.refl w.heap.size w)
  obtain ⟨t9, A9, H⟩ := Option.bind_eq_some_iff.mp h
  clear h
  replace A9 := Aside0.mk A9
  by_cases c6 : t9 = true
  · subst c6
    rw [if_pos rfl] at H
    obtain ⟨d, AD, H⟩ := Option.bind_eq_some_iff.mp H
    obtain ⟨t2, AT, H⟩ := Option.bind_eq_some_iff.mp H
    obtain ⟨t1, A3, H⟩ := Option.bind_eq_some_iff.mp H
    obtain ⟨y, AM, H⟩ := Option.bind_eq_some_iff.mp H
    replace AD := Aside0.mk AD
    replace AT := Aside0.mk AT
    replace A3 := Aside0.mk A3
    have HF := Aside0.mk H
    replace AM := Aside0.mk AM
    clear H
    go_enter Try.func8, Try.ntmps8
    go_upto_region 3 with (first | ((with_reducible refine gate_dst (N := 3) rfl ?_); refine box_event ?hg (N := 3) ?hd (cs := #[.int .i64 a1_0, .slice A1_1 l1_1.length c1_1, .int .i64 a1_2, .int .i64 a1_3, .int .i64 a1_4]) (t := 36) ?hr ?_; (case hd => rfl); (case hg => rfl); (case hr => first | (go_simp; done) | (go_simp; rfl)); intro gb hg_ w4 hbox hb; have n0_ := Aside0.mk (below_step HB.out hb); have gbK := Aside0.mk hbox; clear HB hbox hg_ hb; have HB := n0_; clear n0_) | ((with_reducible refine gate_callee (f := 34) rfl ?_); refine goesL_ (some 11) rfl rfl Try.func34 (by kernel_rfl) rfl #[.slice A0 l0.length c0] rfl (by (try simp only [List.map_toArray, List.map_cons, List.map_nil]); first | done | rfl) ?_; refine (spec_IsStore.calls k _ _ l0 _ _ (Kd.C_below HR0.out HB.out) HC0.out A9.out).mono ?_; rintro e w7 ⟨rfl, hb⟩; refine ⟨_, rfl, ?_⟩; have n1_ := Aside0.mk (below_step HB.out hb); have n2_ := Aside0.mk (blk_below gbK.out hb); clear HB gbK hb; have HB := n1_; have gbK := n2_; clear n1_ n2_))
    have hz := box5z gbK.out
    go_upto_if 23 with (first | ((with_reducible refine gate_callee (f := 23) rfl ?_); refine goesL_ (some 16) rfl rfl Try.func23 (by kernel_rfl) rfl #[.agg #[.int .i64 a1_0, .slice A1_1 l1_1.length c1_1, .int .i64 a1_2, .int .i64 a1_3, .int .i64 a1_4]] rfl (by (try simp only [List.map_toArray, List.map_cons, List.map_nil]); first | done | rfl) ?_; refine (spec_DigestOf.calls k a1_0 _ _ l1_1 a1_2 a1_3 a1_4 d _ (Kd.C_below HR1.out HB.out) HC1.out AD.out).mono ?_; rintro e w7 ⟨rfl, hb⟩; refine ⟨_, rfl, ?_⟩; have n1_ := Aside0.mk (below_step HB.out hb); have n2_ := Aside0.mk (blk_below gbK.out hb); clear HB gbK hb; have HB := n1_; have gbK := n2_; clear n1_ n2_) | ((with_reducible refine gate_callee (f := 36) rfl ?_); refine goesL_ (some 19) rfl rfl Try.func36 (by kernel_rfl) rfl #[.slice A0 l0.length c0, .int .i64 d] rfl (by (try simp only [List.map_toArray, List.map_cons, List.map_nil]); first | done | rfl) ?_; refine (spec_l7Find.calls k _ _ l0 d t2 _ (Kd.C_below HR0.out HB.out) HC0.out AT.out).mono ?_; rintro e w8 ⟨rfl, hdr⟩; refine ⟨_, rfl, ?_⟩; have hb := hdr.below; clear hdr; have n1_ := Aside0.mk (below_step HB.out hb); have n2_ := Aside0.mk (blk_below gbK.out hb); clear HB gbK hb; have HB := n1_; have gbK := n2_; clear n1_ n2_) | ((with_reducible refine gate_callee (f := 35) rfl ?_); refine goesL_ (some 21) rfl rfl Try.func35 (by kernel_rfl) rfl #[.slice A0 l0.length c0] rfl (by (try simp only [List.map_toArray, List.map_cons, List.map_nil]); first | done | rfl) ?_; refine (spec_l7Copy.calls k _ _ l0 t1 _ (Kd.C_below HR0.out HB.out) HC0.out A3.out).mono ?_; rintro e w6 ⟨v1, rfl, ho0, hb⟩; refine ⟨_, rfl, ?_⟩; have HO := Aside0.mk (Kd.S_lower ho0 (below_size HB.out)); have n1_ := Aside0.mk (below_step HB.out hb); have n2_ := Aside0.mk (blk_below gbK.out hb); clear HB gbK ho0 hb; have HB := n1_; have gbK := n2_; clear n1_ n2_; obtain ⟨Ao, co, eo⟩ := Kd.S_slice HO.out; subst eo))
    clear hz
    go_cut [8] (fun v8 wc => ∃ y : List S63, Aside0 (spec_PutPart.fin k l0 y = some (r1, r2)) ∧ Aside0 (Kd.S k63 63 wc w.heap.size (fun _ => True) v8 y) ∧ Aside0 (Below w.heap.size w wc))
    case first =>
      have HM := AM.out
      clear AM
      unfold spec_PutPart.mid at HM
      by_cases c14 : 0 ≤ t2
      · rw [if_pos c14] at HM
        obtain ⟨i, rfl⟩ := Int.eq_ofNat_of_zero_le c14
        by_cases c15 : (i : Int) < (t1.length : Int)
        · rw [if_pos c15] at HM
          have hin : i < t1.length := by omega
          have hmax := (Kd.S_reads' HO.out).2.2.2.1
          obtain ⟨g, cg, eg, GB, _, _⟩ := Kd.S_form HO.out (by omega)
          injection eg with ea _ ec
          subst ea ec
          obtain ⟨ad, A2, c2, e2, hx0, hx1, hx2, hx3, hx4, hx5, hx6, hl2, hi2⟩ := at_T63 (Kd.S_reads' HO.out).2.2 (i : Int) c14 c15
          injection e2 with e2
          subst e2
          simp only [add_plain] at hx6
          have E1 := Aside0.mk (Option.some.inj HM)
          clear HM
          obtain ⟨⟨dx, ⟨kd, bd, ⟨ho, pa, qu⟩⟩, us⟩, hx⟩ : ∃ x, rd_T63 t1 (i : Int) = x := ⟨_, rfl⟩
          simp only [hx] at hx6
          have p14 := eq_true c14
          have p15 := eq_true c15
          have hx6' : w6.cell? ⟨g, i * 7 + 6, none⟩ = some (.int .i64 us) := hx6
          clear hx0 hx1 hx2 hx3 hx4 hx5 hl2 hi2
          have HX := Aside0.mk (show Kd.S k63 63 w6 w.heap.size (fun k_ => True ∧ ¬ False) (.slice (some ⟨g, 0, none⟩) t1.length co) t1 from Kd.S_mono HO.out (fun k_ hk => ⟨trivial, fun e_ => e_⟩))
          obtain ⟨oki, ce, hcl, hM, hcc, hfr, hoki, hH⟩ := Kd.S_elem HX.out z63 (i : Int) c14 c15
          rw [show t1.getD (i : Int).toNat z63 = _ from hx] at hM
          obtain ⟨ve, rfl, ge⟩ := k63_openM hM
          have HP := Aside0.mk (Kd.S_seg (ok := fun _ => True) (okg := fun _ => False) hH c14 c15 (seg := [.int .i64 (wrap64 (us + 1))]) (j := 6) (show 7 ≤ 7 from by decide) (x' := (⟨dx, (⟨kd, bd, (⟨ho, pa, qu⟩ : S34)⟩ : S36), wrap64 (us + 1)⟩ : S63)) (k63_mkM _ _ _ (⟨dx, (⟨kd, bd, (⟨ho, pa, qu⟩ : S34)⟩ : S36), wrap64 (us + 1)⟩ : S63) (Kd.R_mono ge (fun _ h_ => Or.inl h_))) (fun _ hk => hk) (fun k_ hk_ => hk_.elim))
          have hf6 : w6.frozen? ⟨g, i * 7 + 6, none⟩ = false := hfr 6
          have ey : t1.set i (⟨dx, (⟨kd, bd, (⟨ho, pa, qu⟩ : S34)⟩ : S36), wrap64 (us + 1)⟩ : S63) = y := by rw [← E1.out]; unfold put_use; rw [hx]; rfl
          have EY := Aside0.mk ey
          clear hcl hcc hfr hM hoki hH HX ge ey hx E1
          go_wp2_with (first | ((with_reducible refine gate_store (t := 3) (p := 33) rfl ?_); refine store_event (t := 3) (p := 33) (v := ?vo) (w1 := (w6.setCell ⟨g, i * 7 + 6, none⟩ (.int .i64 (wrap64 (us + 1))))) ?hg ?ho ?hn ?hr ?_; (case ho => rfl); (case hg => rfl); (case hn => rfl); (case hr => first | (go_simp; done) | (go_simp; rfl)); intro w28 hw; have n0_ := Aside0.mk (show Kd.S k63 63 w28 w.heap.size (fun _ => True) (.slice (some ⟨g, 0, none⟩) t1.length co) (t1.set i (⟨dx, (⟨kd, bd, (⟨ho, pa, qu⟩ : S34)⟩ : S36), wrap64 (us + 1)⟩ : S63)) from hw ▸ HP.out.1); have n1_ := Aside0.mk (show Below w.heap.size w w28 from hw ▸ below_set HB.out GB); clear HO HB hw; have HO := n0_; have HB := n1_; clear n0_ n1_))
          go_meet
          case rel => exact ⟨y, HF, ⟨EY.out ▸ HO.out⟩, HB⟩
        · rw [if_neg c15] at HM
          exact absurd HM (by simp)
      · rw [if_neg c14] at HM
        obtain ⟨x1, AX, HM⟩ := Option.bind_eq_some_iff.mp HM
        obtain ⟨⟨q0, q1, q2, q3, q4⟩, AQ, HM⟩ := Option.bind_eq_some_iff.mp HM
        obtain ⟨z1, AZ, HM⟩ := Option.bind_eq_some_iff.mp HM
        replace AX := Aside0.mk AX
        replace AQ := Aside0.mk AQ
        replace AZ := Aside0.mk AZ
        by_cases c15 : put_at l0 d ≤ x1.length ∧ x1.length + z1.length < 1954687338267
        · rw [if_pos c15] at HM
          have E1 := Aside0.mk (Option.some.inj HM)
          have HL := Aside0.mk c15
          have c14c : decide (0 ≤ t2) = false := decide_eq_false c14
          rw [c14c]
          clear HM c15 c14c c14
          iterate 10 go_step
          go_cut [7] (fun v7 wc => v7 = .int .i64 ((put_at l0 d : Nat) : Int) ∧ Aside0 (Below w.heap.size w wc) ∧ Aside0 (wc.heap[gb]? = some (.cells #[.int .i64 a1_0, .slice A1_1 l1_1.length c1_1, .int .i64 a1_2, .int .i64 a1_3, .int .i64 a1_4] 36 (0, 0))))
          case first =>
            go_wp2
            go_loopg [7] (l0.length + 1) (fun kq v7 w' => ∃ i : Nat, v7 = .int .i64 (i : Int) ∧ Aside0 (i ≤ l0.length ∧ l0.length + 1 ≤ i + kq ∧ put_at l0 d = i + put_at (l0.drop i) d) ∧ Aside0 (Below w.heap.size w w') ∧ Aside0 (w'.heap[gb]? = some (.cells #[.int .i64 a1_0, .slice A1_1 l1_1.length c1_1, .int .i64 a1_2, .int .i64 a1_3, .int .i64 a1_4] 36 (0, 0))))
            case atStart => exact ⟨0, rfl, ⟨Nat.zero_le _, by omega, by rw [Nat.zero_add]; rfl⟩, HB, gbK⟩
            case round =>
              clear HB gbK HO
              try clear p2
              obtain ⟨i, rfl, HI, HB, gbK⟩ := hrel
              obtain ⟨k2, rfl⟩ : ∃ k2, gk = k2 + 1 := ⟨gk - 1, by have := HI.out; omega⟩
              have hlen := HR0.out.2.1
              by_cases c3 : i < l0.length
              · have c3b : decide ((i : Int) < (l0.length : Int)) = true := decide_eq_true (by omega)
                obtain ⟨ad, A2, c2, e2, hx0, hx1, hx2, hx3, hx4, hx5, hx6, hl2, hi2⟩ := at_T63 (Kd.C_below HR0.out HB.out) (i : Int) (by omega) (by omega)
                cases e2
                replace hx0 : wr.cell? (ad.add (i * 7)) = some (.int .i64 (rd_T63 l0 (i : Int)).f0) := hx0
                clear hx1 hx2 hx3 hx4 hx5 hx6 hl2 hi2
                by_cases c4 : (rd_T63 l0 (i : Int)).f0 < d
                · have nI := Aside0.mk (put_at_step c3 c4 HI.out.2.2)
                  generalize (rd_T63 l0 (i : Int)).f0 = dx at hx0 c4
                  have c4b : decide (dx < d) = true := decide_eq_true c4
                  have hwi : IntKind.i64.wrap ((i : Int) + 1) = ((i + 1 : Nat) : Int) := by rw [i64_w]; unfold wrap64; omega
                  go_wp2
                  go_roundg k2
                  case measure => have := HI.out; omega
                  case rel => exact ⟨i + 1, by first | rfl | (simp; done), ⟨by omega, by have := HI.out; omega, nI.out⟩, HB, gbK⟩
                · have nI := Aside0.mk (put_at_stop c3 c4 HI.out.2.2)
                  generalize (rd_T63 l0 (i : Int)).f0 = dx at hx0 c4
                  have c4b : decide (dx < d) = false := decide_eq_false c4
                  go_wp2
                  go_meet
                  case rel => exact ⟨by rw [nI.out], HB, gbK⟩
              · have c3b : decide ((i : Int) < (l0.length : Int)) = false := decide_eq_false (by omega)
                have nI := Aside0.mk (put_at_end c3 HI.out.2.2)
                go_wp2
                go_meet
                case rel => exact ⟨by rw [nI.out], HB, gbK⟩
          case rest =>
            clear HB gbK HO
            try clear p2
            obtain ⟨rfl, HB, gbK⟩ := hcut
            have HPL := Aside0.mk (put_at_le l0 d)
            generalize put_at l0 d = p at HPL E1 HL AZ
            go_wp2_with (first | ((with_reducible refine gate_callee (f := 35) rfl ?_); refine goesL_ (some 50) rfl rfl Try.func35 (by kernel_rfl) rfl #[.slice A0 l0.length c0] rfl (by (try simp only [List.map_toArray, List.map_cons, List.map_nil]); first | done | rfl) ?_; refine (spec_l7Copy.calls k _ _ l0 x1 _ (Kd.C_below HR0.out HB.out) HC0.out AX.out).mono ?_; rintro e w6 ⟨v1, rfl, ho0, hb⟩; refine ⟨_, rfl, ?_⟩; have HO := Aside0.mk (Kd.S_lower ho0 (below_size HB.out)); have n1_ := Aside0.mk (below_step HB.out hb); have n2_ := Aside0.mk (blk_below gbK.out hb); clear HB gbK ho0 hb; have HB := n1_; have gbK := n2_; clear n1_ n2_))
            obtain ⟨Ax, cx, ex⟩ := Kd.S_slice HO.out
            subst ex
            have hpl := HPL.out
            have hpx := HL.out.1
            have hlz := HL.out.2
            have hc0 := HC0.out
            have hcx := (Kd.S_reads' HO.out).2.1
            have hmx := (Kd.S_reads' HO.out).2.2.2.1
            have hml := HR0.out.2.1
            have HAX := Aside0.mk (show (Ax = none ∧ x1 = [] ∧ cx = 0 ∧ p = 0) ∨ ∃ gx, Ax = some ⟨gx, 0, none⟩ from (S_form0 HO.out).imp (fun h_ => ⟨h_.1, h_.2.1, h_.2.2, by have h2_ := h_.2.1; rw [h2_] at hpx; exact Nat.le_zero.mp hpx⟩) id)
            have qa : p ≤ cx := by omega
            have qb : p ≤ c0 := by omega
            have n0_ := Aside0.mk (below_drew1 HB.out)
            have n1_ := Aside0.mk (Kd.S_drew HO.out)
            have n2_ := Aside0.mk (show (w6.drew).heap[gb]? = _ from gbK.out)
            clear HB HO gbK
            have HB := n0_
            have HO := n1_
            have gbK := n2_
            clear n0_ n1_ n2_
            refine start_ (n := 15) (S := fun w' => w'.heap[gb]? = some (.cells #[.int .i64 a1_0, .slice A1_1 l1_1.length c1_1, .int .i64 a1_2, .int .i64 a1_3, .int .i64 a1_4] 36 (0, 0))) (ds := []) (mk 15 0) (by kernel_rfl) rfl rfl gbK.out (fun hHeld => ?_)
            refine with_tabW spec_PutPart.tab12 spec_PutPart.bits12 (fun HT_ HW_ => ?_)
            generalize w6.drew = wd at HB HO gbK hHeld ⊢
            refine on_ 0 51 (mk 15 0x1) ?_
            refine on_ 1 52 (mk 15 0x3) ?_
            refine on_ 2 53 (mk 15 0x7) (v := .slice Ax p cx) (hy := by (intro w'; rcases HAX.out with ⟨e1_, e2_, e3_, e4_⟩ | ⟨gx, e1_⟩; (focus (subst e1_ e2_ e3_ e4_; go_simp)); (subst e1_; go_simp))) ?_
            refine on_ 3 54 (mk 15 0xF) ?_
            refine on_ 9 60 (mk 15 0x20F) ?_
            refine on_ 10 61 (mk 15 0x60F) ?_
            refine on_ 11 62 (mk 15 0xE0F) ?_
            refine rd_ 4 55 (mk 15 0xE1F) (hy := by (intro w' hS_; have hz_ := box5z hS_; go_simp; with_reducible rfl)) ?_
            refine cl_ 5 56 (mk 15 0xE3F) Try.func37 #[.agg #[.int .i64 a1_0, .slice A1_1 l1_1.length c1_1, .int .i64 a1_2, .int .i64 a1_3, .int .i64 a1_4]] ?_
            refine (spec_l5Copy.calls a1_0 _ _ l1_1 a1_2 a1_3 a1_4 q0 q1 q2 q3 q4 _ (Kd.C_below HR1.out HB.out) HC1.out AQ.out).mono ?_
            rintro e w9 ⟨v5, rfl, ho5, hb5⟩
            obtain ⟨A5, c5, e5⟩ := Kd.R_slice ho5
            subst e5
            have n2_ := Aside0.mk (blk_below gbK.out hb5)
            refine ⟨_, rfl, n2_.out, fun _ => nm_ ?_⟩
            have hS9 := Kd.S_elder' (Kd.S_take HO.out hpx) (Kd.R_base ho5) hb5
            have hR9 := Kd.R_lower ho5 (below_size HB.out)
            have hap := Kd.R_apart' hR9 (Kd.S_typed hS9) (by decide)
            have HP9 := Aside0.mk (show Kd.S k63 63 w9 w.heap.size (fun k_ => True ∧ ¬ some k_ = (Value.slice A5 q1.length c5).ownBlock) _ _ from Kd.S_mono hS9 (fun k_ hk_ => ⟨trivial, fun e_ => hk_.2 e_⟩))
            have HQ9 := Aside0.mk (show ∀ k_, some k_ = (Value.slice A5 q1.length c5).ownBlock → True ∧ some k_ ≠ _ from fun k_ hk_ => ⟨trivial, (hap.1 k_ hk_.symm).2⟩)
            have HR9 := Aside0.mk (Kd.R_tight rfl hR9)
            have n1_ := Aside0.mk (below_step HB.out hb5)
            clear HB HO gbK hS9 hR9 hap ho5 hb5
            have HB := n1_
            have gbK := n2_
            clear n1_ n2_
            refine on_ 6 57 (mk 15 0xE7F) ?_
            refine one_ (i := 7) (N := some 58) (mk 15 0xEFF) rfl rfl (one_of HT_.out (by kernel_rfl)) (by decide) (fun K hK => ?_)
            refine event_step (by rfl) (v := .slice (some ⟨w9.heap.size, 0, none⟩) 1 1) (w1 := w9.alloc (.cells ([.int .i64 d, .int .i64 q0, .slice A5 q1.length c5, .int .i64 q2, .int .i64 q3, .int .i64 q4, .int .i64 1] : List Value).toArray 63)) ?hr ?_
            case hr => first | (go_simp; done) | (go_simp; rfl)
            refine hK.out _ _ (blk_alloc gbK.out _) (fun hHeld => nk_ 58 ?_)
            clear hK K hHeld
            refine one_ (i := 8) (N := some 59) (mk 15 0xFFF) rfl rfl (one_of HT_.out (by kernel_rfl)) (by decide) (fun K hK => ?_)
            refine Kd.S_append_step k63 (w0 := w) w.heap.size (by rfl) (.tmp 53) (.tmp 58) 30 63 (.agg #[(.int .i64 0), (.int .i64 0), (.slice none 0 0), (.int .i64 0), (.int .i64 0), (.int .i64 0), (.int .i64 0)]) 72 rfl Try.underlying30 info63 rfl (by decide) (by omega) (.slice Ax p cx) (x1.take p) (⟨d, (⟨q0, q1, (⟨q2, q3, q4⟩ : S34)⟩ : S36), 1⟩ : S63) [.int .i64 d, .int .i64 q0, .slice A5 q1.length c5, .int .i64 q2, .int .i64 q3, .int .i64 q4, .int .i64 1] (fun _ => True) (fun k_ => some k_ = (Value.slice A5 q1.length c5).ownBlock) rfl rfl (k63_mkM _ _ _ (⟨d, (⟨q0, q1, (⟨q2, q3, q4⟩ : S34)⟩ : S36), 1⟩ : S63) HR9.out) HQ9.out (fun _ _ => trivial) HP9.out HB.out (below_size HB.out) (by rw [List.length_take]; omega) ?_
            intro v1 w10 ho1 hb1 hg hat
            have HO := Aside0.mk ho1
            have n2_ := Aside0.mk (show w10.heap[gb]? = _ from (hg.block gb (blk_lt gbK.out) (S_ne HP9.out gbK.out (by decide))).trans gbK.out)
            clear ho1 hg hat gbK HB HP9 HQ9 HR9
            have gbK := n2_
            have HB := Aside0.mk hb1
            clear n2_ hb1
            refine hK.out _ _ gbK.out (fun hHeld => nk_ 59 ?_)
            clear hK K hHeld
            obtain ⟨A1, c1, e1⟩ := Kd.S_slice HO.out
            subst e1
            refine cl_ 12 63 (mk 15 0x1FFF) Try.func35 #[.slice (if c0 = p then A0 else A0.map (·.add (p * 7))) (l0.length - p) (c0 - p)] ?_
            refine (cut_call (spec_l7Copy.calls k _ _ (l0.drop p) z1 _ (Kd.C_drop (Kd.C_below HR0.out HB.out) hpl HC0.out) (show (l0.drop p).length ≤ c0 - p by rw [List.length_drop]; omega) AZ.out)).mono ?_
            rintro e w11 ⟨vz, rfl, hoz, hbz⟩
            have n2_ := Aside0.mk (blk_below gbK.out hbz)
            refine ⟨_, rfl, n2_.out, fun _ => nm_ ?_⟩
            obtain ⟨v2, w12, hr2, ho2, hb2, hg2⟩ := S_appends (w0 := w) (Kd.S_below (Kd.S_bound HO.out) hbz) (Kd.S_lower (Kd.S_bound hoz) (below_size HB.out)) (by rw [List.length_append]; exact Nat.succ_pos _) (fun k_ h1_ h2_ => by have := h1_.2.2.1; have := h2_.2.1; omega) (below_step HB.out hbz) (below_size (below_step HB.out hbz)) (by rw [List.length_append, List.length_take, List.length_cons, List.length_nil]; omega)
            have n0_ := Aside0.mk ho2
            have n1_ := Aside0.mk hb2
            have n3_ := Aside0.mk (show w12.heap[gb]? = w11.heap[gb]? from hg2.block gb (blk_lt n2_.out) (S_ne (Kd.S_below HO.out hbz) n2_.out (by decide)))
            clear HO HB gbK hoz hbz ho2 hb2 hg2
            have HO := n0_
            have HB := n1_
            have gbK := Aside0.mk (n3_.out.trans n2_.out)
            clear n0_ n1_ n2_ n3_
            refine one_ (i := 13) (N := some 64) (mk 15 0x3FFF) rfl rfl (one_of HT_.out (by kernel_rfl)) (by decide) (fun K hK => ?_)
            refine append_step _ (by rfl) (.tmp 59) (.tmp 63) 30 30 rfl _ _ rfl rfl (hr2 _) ?_
            refine hK.out _ _ gbK.out (fun hHeld => nk_ 64 ?_)
            clear hK K hHeld
            refine on_ 14 8 (mk 15 0x7FFF) ?_
            refine dn_ ?_
            generalize (if c0 = p then A0 else A0.map (·.add (p * 7))) = zA
            go_wp2
            go_meet
            case rel => exact ⟨y, HF, ⟨E1.out ▸ HO.out⟩, HB⟩
        · rw [if_neg c15] at HM
          exact absurd HM (by simp)
    case rest =>
      clear HF AM HO HB gbK
      try clear p2
      obtain ⟨y, HF, HO, HB⟩ := hcut
      obtain ⟨Ay, cy, ey⟩ := Kd.S_slice HO.out
      subst ey
      obtain ⟨b, AB, H⟩ := Option.bind_eq_some_iff.mp HF.out
      clear HF
      replace AB := Aside0.mk AB
      by_cases c7 : b = true
      · subst c7
        rw [if_pos rfl] at H
        simp only [Option.some.injEq, Prod.mk.injEq] at H
        obtain ⟨rfl, rfl⟩ := H
        go_wp2_with (first | ((with_reducible refine gate_callee (f := 34) rfl ?_); refine goesL_ (some 66) rfl rfl Try.func34 (by kernel_rfl) rfl #[.slice Ay y.length cy] rfl (by (try simp only [List.map_toArray, List.map_cons, List.map_nil]); first | done | rfl) ?_; refine (spec_IsStore.calls k _ _ y _ _ (Kd.S_reads' HO.out).2.2 (Kd.S_reads' HO.out).2.1 AB.out).mono ?_; rintro e w11 ⟨rfl, hb⟩; refine ⟨_, rfl, ?_⟩; have n0_ := Aside0.mk (Kd.S_below HO.out hb); have n1_ := Aside0.mk (below_step HB.out hb); clear HO HB hb; have HO := n0_; have HB := n1_; clear n0_ n1_))
        go_ret2
        exact ⟨_, (by first | rfl | (simp [errW_none, errW_some] <;> rfl) | (simp [*, errW_none, errW_some] <;> rfl)), HO.out, (by repeat (first | (with_reducible first | exact HB.out | apply below_alloc | apply pw_below_drewN | apply below_drew1) | exact HB.out))⟩
      · replace c7 := Bool.eq_false_iff.mpr c7
        subst c7
        rw [if_neg (show ¬ (false = true) by decide)] at H
        obtain ⟨z1, AZ, H⟩ := Option.bind_eq_some_iff.mp H
        replace AZ := Aside0.mk AZ
        simp only [Option.some.injEq, Prod.mk.injEq] at H
        obtain ⟨rfl, rfl⟩ := H
        go_wp2_with (first | ((with_reducible refine gate_callee (f := 34) rfl ?_); refine goesL_ (some 66) rfl rfl Try.func34 (by kernel_rfl) rfl #[.slice Ay y.length cy] rfl (by (try simp only [List.map_toArray, List.map_cons, List.map_nil]); first | done | rfl) ?_; refine (spec_IsStore.calls k _ _ y _ _ (Kd.S_reads' HO.out).2.2 (Kd.S_reads' HO.out).2.1 AB.out).mono ?_; rintro e w11 ⟨rfl, hb⟩; refine ⟨_, rfl, ?_⟩; have n0_ := Aside0.mk (Kd.S_below HO.out hb); have n1_ := Aside0.mk (below_step HB.out hb); clear HO HB hb; have HO := n0_; have HB := n1_; clear n0_ n1_) | ((with_reducible refine gate_callee (f := 35) rfl ?_); refine goesL_ (some 69) rfl rfl Try.func35 (by kernel_rfl) rfl #[.slice A0 l0.length c0] rfl (by (try simp only [List.map_toArray, List.map_cons, List.map_nil]); first | done | rfl) ?_; refine (spec_l7Copy.calls k _ _ l0 z1 _ (Kd.C_below HR0.out HB.out) HC0.out AZ.out).mono ?_; rintro e w12 ⟨v1, rfl, ho0, hb⟩; refine ⟨_, rfl, ?_⟩; clear HO; have HO := Aside0.mk (Kd.S_lower ho0 (below_size HB.out)); have n1_ := Aside0.mk (below_step HB.out hb); clear HB ho0 hb; have HB := n1_; clear n1_))
        go_ret2
        exact ⟨_, (by first | rfl | (simp [errW_none, errW_some] <;> rfl) | (simp [*, errW_none, errW_some] <;> rfl)), HO.out, (by repeat (first | (with_reducible first | exact HB.out | apply below_alloc | apply pw_below_drewN | apply below_drew1) | exact HB.out))⟩
  · replace c6 := Bool.eq_false_iff.mpr c6
    subst c6
    rw [if_neg (show ¬ (false = true) by decide)] at H
    obtain ⟨t1, A3, H⟩ := Option.bind_eq_some_iff.mp H
    replace A3 := Aside0.mk A3
    simp only [Option.some.injEq, Prod.mk.injEq] at H
    obtain ⟨rfl, rfl⟩ := H
    go_enter Try.func8, Try.ntmps8
    go_wp2_with (first | ((with_reducible refine gate_dst (N := 3) rfl ?_); refine box_event ?hg (N := 3) ?hd (cs := #[.int .i64 a1_0, .slice A1_1 l1_1.length c1_1, .int .i64 a1_2, .int .i64 a1_3, .int .i64 a1_4]) (t := 36) ?hr ?_; (case hd => rfl); (case hg => rfl); (case hr => first | (go_simp; done) | (go_simp; rfl)); intro gb hg_ w4 hbox hb; have n0_ := Aside0.mk (below_step HB.out hb); have gbK := Aside0.mk hbox; clear HB hbox hg_ hb; have HB := n0_; clear n0_) | ((with_reducible refine gate_callee (f := 34) rfl ?_); refine goesL_ (some 11) rfl rfl Try.func34 (by kernel_rfl) rfl #[.slice A0 l0.length c0] rfl (by (try simp only [List.map_toArray, List.map_cons, List.map_nil]); first | done | rfl) ?_; refine (spec_IsStore.calls k _ _ l0 _ _ (Kd.C_below HR0.out HB.out) HC0.out A9.out).mono ?_; rintro e w7 ⟨rfl, hb⟩; refine ⟨_, rfl, ?_⟩; have n1_ := Aside0.mk (below_step HB.out hb); have n2_ := Aside0.mk (blk_below gbK.out hb); clear HB gbK hb; have HB := n1_; have gbK := n2_; clear n1_ n2_) | ((with_reducible refine gate_callee (f := 35) rfl ?_); refine goesL_ (some 14) rfl rfl Try.func35 (by kernel_rfl) rfl #[.slice A0 l0.length c0] rfl (by (try simp only [List.map_toArray, List.map_cons, List.map_nil]); first | done | rfl) ?_; refine (spec_l7Copy.calls k _ _ l0 t1 _ (Kd.C_below HR0.out HB.out) HC0.out A3.out).mono ?_; rintro e w6 ⟨v1, rfl, ho0, hb⟩; refine ⟨_, rfl, ?_⟩; have HO := Aside0.mk (Kd.S_lower ho0 (below_size HB.out)); have n1_ := Aside0.mk (below_step HB.out hb); have n2_ := Aside0.mk (blk_below gbK.out hb); clear HB gbK ho0 hb; have HB := n1_; have gbK := n2_; clear n1_ n2_))
    go_ret2
    exact ⟨_, (by first | rfl | (simp [errW_none, errW_some] <;> rfl) | (simp [*, errW_none, errW_some] <;> rfl)), HO.out, (by repeat (first | (with_reducible first | exact HB.out | apply below_alloc | apply pw_below_drewN | apply below_drew1) | exact HB.out))⟩
def impl_PutPart.fin (k : Nat) (l0 y : List S63) : Option (List S63 × Bool) := (impl_IsStore.f k y).bind fun b => if b = true then some (y, true) else (impl_copyParts.f k l0).bind fun c => some (c, false)
def impl_PutPart.mid (t1 : List S63) (t2 d : Int) (a1_0 : Int) (l1_1 : List Int) (a1_2 : Int) (a1_3 : Int) (a1_4 : Int) : Option (List S63) :=
  if 0 ≤ t2 then (if t2 < (t1.length : Int) then some (put_use t1 t2) else none)
  else (impl_copyResource.f a1_0 l1_1 a1_2 a1_3 a1_4).bind fun q => if t1.length < 1954687338268 then some (t1.take (put_at t1 d) ++ (⟨d, put_res q, 1⟩ : S63) :: t1.drop (put_at t1 d)) else none
def impl_PutPart.f (k : Nat) (l0 : List S63) (a1_0 : Int) (l1_1 : List Int) (a1_2 : Int) (a1_3 : Int) (a1_4 : Int) : Option (List S63 × Bool) :=
  (impl_copyParts.f k l0).bind fun t1 => (impl_IsStore.f k l0).bind fun b => if b = true then (impl_DigestOf.f k a1_0 l1_1 a1_2 a1_3 a1_4).bind fun d => (impl_partAt.f k t1 d).bind fun t2 => (impl_PutPart.mid t1 t2 d a1_0 l1_1 a1_2 a1_3 a1_4).bind fun y => impl_PutPart.fin k l0 y else some (t1, false)
set_option maxHeartbeats 8000000 in
set_option maxRecDepth 100000 in
theorem impl_PutPart.calls (k : Nat) (A0 : Option Addr) (c0 : Nat) (l0 : List (S63)) (a1_0 : Int) (A1_1 : Option Addr) (c1_1 : Nat) (l1_1 : List Int) (a1_2 : Int) (a1_3 : Int) (a1_4 : Int) (r1 : List (S63)) (r2 : Bool) (w : World) (hr0 : Kd.C k63 w A0 l0.length l0) (hc0 : l0.length ≤ c0) (hr1_1 : Kd.C (Kd.int .i64) w A1_1 l1_1.length l1_1) (hc1_1 : l1_1.length ≤ c1_1) (h : impl_PutPart.f k l0 a1_0 l1_1 a1_2 a1_3 a1_4 = some (r1, r2)) :
    Calls Try.prog 11 #[.slice A0 l0.length c0, .agg #[.int .i64 a1_0, .slice A1_1 l1_1.length c1_1, .int .i64 a1_2, .int .i64 a1_3, .int .i64 a1_4]] w fun e w' => ∃ v0_ : Value, e = .returned (.tuple #[v0_, .bool r2]) ∧ Kd.S k63 63 w' w.heap.size (fun _ => True) v0_ r1 ∧ Below w.heap.size w w' := by
  have hu36 := Try.underlying36
  have hu63 := Try.underlying63
  have HR0 := Aside0.mk hr0
  have HC0 := Aside0.mk hc0
  have HR1 := Aside0.mk hr1_1
  have HC1 := Aside0.mk hc1_1
  clear hr0 hc0 hr1_1 hc1_1
  have HB := Aside0.mk (Below.refl w.heap.size w)
  obtain ⟨t1, A3, H⟩ := Option.bind_eq_some_iff.mp h
  obtain ⟨t9, A9, H⟩ := Option.bind_eq_some_iff.mp H
  clear h
  replace A3 := Aside0.mk A3
  replace A9 := Aside0.mk A9
  by_cases c6 : t9 = true
  · subst c6
    rw [if_pos rfl] at H
    obtain ⟨d, AD, H⟩ := Option.bind_eq_some_iff.mp H
    obtain ⟨t2, AT, H⟩ := Option.bind_eq_some_iff.mp H
    obtain ⟨y, AM, H⟩ := Option.bind_eq_some_iff.mp H
    replace AD := Aside0.mk AD
    replace AT := Aside0.mk AT
    have HF := Aside0.mk H
    replace AM := Aside0.mk AM
    clear H
    go_enter Try.func11, Try.ntmps11
    go_upto_region 4 with (first | ((with_reducible refine gate_dst (N := 3) rfl ?_); refine box_event ?hg (N := 3) ?hd (cs := #[.int .i64 a1_0, .slice A1_1 l1_1.length c1_1, .int .i64 a1_2, .int .i64 a1_3, .int .i64 a1_4]) (t := 36) ?hr ?_; (case hd => rfl); (case hg => rfl); (case hr => first | (go_simp; done) | (go_simp; rfl)); intro gb hg_ w4 hbox hb; have n0_ := Aside0.mk (below_step HB.out hb); have gbK := Aside0.mk hbox; clear HB hbox hg_ hb; have HB := n0_; clear n0_) | ((with_reducible refine gate_callee (f := 41) rfl ?_); refine goesL_ (some 11) rfl rfl Try.func41 (by kernel_rfl) rfl #[.slice A0 l0.length c0] rfl (by (try simp only [List.map_toArray, List.map_cons, List.map_nil]); first | done | rfl) ?_; refine (impl_copyParts.calls k _ _ l0 t1 _ (Kd.C_below HR0.out HB.out) HC0.out A3.out).mono ?_; rintro e w6 ⟨v1, rfl, ho0, hb⟩; refine ⟨_, rfl, ?_⟩; have HO := Aside0.mk (Kd.S_lower ho0 (below_size HB.out)); have n1_ := Aside0.mk (below_step HB.out hb); have n2_ := Aside0.mk (blk_below gbK.out hb); clear HB gbK ho0 hb; have HB := n1_; have gbK := n2_; clear n1_ n2_; obtain ⟨Ao, co, eo⟩ := Kd.S_slice HO.out; subst eo) | ((with_reducible refine gate_callee (f := 25) rfl ?_); refine goesL_ (some 13) rfl rfl Try.func25 (by kernel_rfl) rfl #[.slice A0 l0.length c0] rfl (by (try simp only [List.map_toArray, List.map_cons, List.map_nil]); first | done | rfl) ?_; refine (impl_IsStore.calls k _ _ l0 _ _ (Kd.C_below HR0.out HB.out) HC0.out A9.out).mono ?_; rintro e w7 ⟨rfl, hb⟩; refine ⟨_, rfl, ?_⟩; have n0_ := Aside0.mk (Kd.S_below HO.out hb); have n1_ := Aside0.mk (below_step HB.out hb); have n2_ := Aside0.mk (blk_below gbK.out hb); clear HO HB gbK hb; have HO := n0_; have HB := n1_; have gbK := n2_; clear n0_ n1_ n2_))
    have hz := box5z gbK.out
    go_upto_if 22 with (first | ((with_reducible refine gate_callee (f := 20) rfl ?_); refine goesL_ (some 17) rfl rfl Try.func20 (by kernel_rfl) rfl #[.agg #[.int .i64 a1_0, .slice A1_1 l1_1.length c1_1, .int .i64 a1_2, .int .i64 a1_3, .int .i64 a1_4]] rfl (by (try simp only [List.map_toArray, List.map_cons, List.map_nil]); first | done | rfl) ?_; refine (impl_DigestOf.calls k a1_0 _ _ l1_1 a1_2 a1_3 a1_4 d _ (Kd.C_below HR1.out HB.out) HC1.out AD.out).mono ?_; rintro e w7 ⟨rfl, hb⟩; refine ⟨_, rfl, ?_⟩; have n0_ := Aside0.mk (Kd.S_below HO.out hb); have n1_ := Aside0.mk (below_step HB.out hb); have n2_ := Aside0.mk (blk_below gbK.out hb); clear HO HB gbK hb; have HO := n0_; have HB := n1_; have gbK := n2_; clear n0_ n1_ n2_) | ((with_reducible refine gate_callee (f := 42) rfl ?_); refine goesL_ (some 20) rfl rfl Try.func42 (by kernel_rfl) rfl #[.slice Ao t1.length co, .int .i64 d] rfl (by (try simp only [List.map_toArray, List.map_cons, List.map_nil]); first | done | rfl) ?_; refine (impl_partAt.calls k _ _ t1 d t2 _ (Kd.S_reads' HO.out).2.2 (Kd.S_reads' HO.out).2.1 AT.out).mono ?_; rintro e w8 ⟨rfl, hb⟩; refine ⟨_, rfl, ?_⟩; have n0_ := Aside0.mk (Kd.S_below HO.out hb); have n1_ := Aside0.mk (below_step HB.out hb); have n2_ := Aside0.mk (blk_below gbK.out hb); clear HO HB gbK hb; have HO := n0_; have HB := n1_; have gbK := n2_; clear n0_ n1_ n2_))
    clear hz
    go_cut [6] (fun v6 wc => ∃ y : List S63, Aside0 (impl_PutPart.fin k l0 y = some (r1, r2)) ∧ Aside0 (Kd.S k63 63 wc w.heap.size (fun _ => True) v6 y) ∧ Aside0 (Below w.heap.size w wc))
    case first =>
      have HM := AM.out
      clear AM
      unfold impl_PutPart.mid at HM
      by_cases c14 : 0 ≤ t2
      · rw [if_pos c14] at HM
        obtain ⟨i, rfl⟩ := Int.eq_ofNat_of_zero_le c14
        by_cases c15 : (i : Int) < (t1.length : Int)
        · rw [if_pos c15] at HM
          have hin : i < t1.length := by omega
          have hmax := (Kd.S_reads' HO.out).2.2.2.1
          obtain ⟨g, cg, eg, GB, _, _⟩ := Kd.S_form HO.out (by omega)
          injection eg with ea _ ec
          subst ea ec
          obtain ⟨ad, A2, c2, e2, hx0, hx1, hx2, hx3, hx4, hx5, hx6, hl2, hi2⟩ := at_T63 (Kd.S_reads' HO.out).2.2 (i : Int) c14 c15
          injection e2 with e2
          subst e2
          simp only [add_plain] at hx6
          have E1 := Aside0.mk (Option.some.inj HM)
          clear HM
          obtain ⟨⟨dx, ⟨kd, bd, ⟨ho, pa, qu⟩⟩, us⟩, hx⟩ : ∃ x, rd_T63 t1 (i : Int) = x := ⟨_, rfl⟩
          simp only [hx] at hx6
          have p14 := eq_true c14
          have p15 := eq_true c15
          have hx6' : w8.cell? ⟨g, i * 7 + 6, none⟩ = some (.int .i64 us) := hx6
          clear hx0 hx1 hx2 hx3 hx4 hx5 hl2 hi2
          have HX := Aside0.mk (show Kd.S k63 63 w8 w.heap.size (fun k_ => True ∧ ¬ False) (.slice (some ⟨g, 0, none⟩) t1.length co) t1 from Kd.S_mono HO.out (fun k_ hk => ⟨trivial, fun e_ => e_⟩))
          obtain ⟨oki, ce, hcl, hM, hcc, hfr, hoki, hH⟩ := Kd.S_elem HX.out z63 (i : Int) c14 c15
          rw [show t1.getD (i : Int).toNat z63 = _ from hx] at hM
          obtain ⟨ve, rfl, ge⟩ := k63_openM hM
          have HP := Aside0.mk (Kd.S_seg (ok := fun _ => True) (okg := fun _ => False) hH c14 c15 (seg := [.int .i64 (wrap64 (us + 1))]) (j := 6) (show 7 ≤ 7 from by decide) (x' := (⟨dx, (⟨kd, bd, (⟨ho, pa, qu⟩ : S34)⟩ : S36), wrap64 (us + 1)⟩ : S63)) (k63_mkM _ _ _ (⟨dx, (⟨kd, bd, (⟨ho, pa, qu⟩ : S34)⟩ : S36), wrap64 (us + 1)⟩ : S63) (Kd.R_mono ge (fun _ h_ => Or.inl h_))) (fun _ hk => hk) (fun k_ hk_ => hk_.elim))
          have hf6 : w8.frozen? ⟨g, i * 7 + 6, none⟩ = false := hfr 6
          have ey : t1.set i (⟨dx, (⟨kd, bd, (⟨ho, pa, qu⟩ : S34)⟩ : S36), wrap64 (us + 1)⟩ : S63) = y := by rw [← E1.out]; unfold put_use; rw [hx]; rfl
          have EY := Aside0.mk ey
          clear hcl hcc hfr hM hoki hH HX ge ey hx E1
          go_wp2_with (first | ((with_reducible refine gate_store (t := 3) (p := 30) rfl ?_); refine store_event (t := 3) (p := 30) (v := ?vo) (w1 := (w8.setCell ⟨g, i * 7 + 6, none⟩ (.int .i64 (wrap64 (us + 1))))) ?hg ?ho ?hn ?hr ?_; (case ho => rfl); (case hg => rfl); (case hn => rfl); (case hr => first | (go_simp; done) | (go_simp; rfl)); intro w28 hw; have n0_ := Aside0.mk (show Kd.S k63 63 w28 w.heap.size (fun _ => True) (.slice (some ⟨g, 0, none⟩) t1.length co) (t1.set i (⟨dx, (⟨kd, bd, (⟨ho, pa, qu⟩ : S34)⟩ : S36), wrap64 (us + 1)⟩ : S63)) from hw ▸ HP.out.1); have n1_ := Aside0.mk (show Below w.heap.size w w28 from hw ▸ below_set HB.out GB); clear HO HB hw; have HO := n0_; have HB := n1_; clear n0_ n1_))
          go_meet
          case rel => exact ⟨y, HF, ⟨EY.out ▸ HO.out⟩, HB⟩
        · rw [if_neg c15] at HM
          exact absurd HM (by simp)
      · rw [if_neg c14] at HM
        obtain ⟨⟨q0, q1, q2, q3, q4⟩, AQ, HM⟩ := Option.bind_eq_some_iff.mp HM
        replace AQ := Aside0.mk AQ
        by_cases c15 : t1.length < 1954687338268
        · rw [if_pos c15] at HM
          have E1 := Aside0.mk (Option.some.inj HM)
          have HL := Aside0.mk (show (t1.length + 1) * 72 ≤ 140737488355328 by omega)
          have c14c : decide (0 ≤ t2) = false := decide_eq_false c14
          rw [c14c]
          clear HM c15 c14c c14
          iterate 10 go_step
          go_cut [9] (fun v9 wc => v9 = .int .i64 ((put_at t1 d : Nat) : Int) ∧ Aside0 (Kd.S k63 63 wc w.heap.size (fun _ => True) (.slice Ao t1.length co) t1) ∧ Aside0 (Below w.heap.size w wc) ∧ Aside0 (wc.heap[gb]? = some (.cells #[.int .i64 a1_0, .slice A1_1 l1_1.length c1_1, .int .i64 a1_2, .int .i64 a1_3, .int .i64 a1_4] 36 (0, 0))))
          case first =>
            go_wp2
            go_loopg [9] (t1.length + 1) (fun kq v9 w' => ∃ i : Nat, v9 = .int .i64 (i : Int) ∧ Aside0 (i ≤ t1.length ∧ t1.length + 1 ≤ i + kq ∧ put_at t1 d = i + put_at (t1.drop i) d) ∧ Aside0 (Kd.S k63 63 w' w.heap.size (fun _ => True) (.slice Ao t1.length co) t1) ∧ Aside0 (Below w.heap.size w w') ∧ Aside0 (w'.heap[gb]? = some (.cells #[.int .i64 a1_0, .slice A1_1 l1_1.length c1_1, .int .i64 a1_2, .int .i64 a1_3, .int .i64 a1_4] 36 (0, 0))))
            case atStart => exact ⟨0, rfl, ⟨Nat.zero_le _, by omega, by rw [Nat.zero_add]; rfl⟩, HO, HB, gbK⟩
            case round =>
              clear HO HB gbK
              try clear p2
              obtain ⟨i, rfl, HI, HO, HB, gbK⟩ := hrel
              obtain ⟨k2, rfl⟩ : ∃ k2, gk = k2 + 1 := ⟨gk - 1, by have := HI.out; omega⟩
              have hlen := (Kd.S_reads' HO.out).2.2.2.1
              by_cases c3 : i < t1.length
              · have c3b : decide ((i : Int) < (t1.length : Int)) = true := decide_eq_true (by omega)
                obtain ⟨ad, A2, c2, e2, hx0, hx1, hx2, hx3, hx4, hx5, hx6, hl2, hi2⟩ := at_T63 (Kd.S_reads' HO.out).2.2 (i : Int) (by omega) (by omega)
                cases e2
                replace hx0 : wr.cell? (ad.add (i * 7)) = some (.int .i64 (rd_T63 t1 (i : Int)).f0) := hx0
                clear hx1 hx2 hx3 hx4 hx5 hx6 hl2 hi2
                by_cases c4 : (rd_T63 t1 (i : Int)).f0 < d
                · have nI := Aside0.mk (put_at_step c3 c4 HI.out.2.2)
                  generalize (rd_T63 t1 (i : Int)).f0 = dx at hx0 c4
                  have c4b : decide (dx < d) = true := decide_eq_true c4
                  have hwi : IntKind.i64.wrap ((i : Int) + 1) = ((i + 1 : Nat) : Int) := by rw [i64_w]; unfold wrap64; omega
                  go_wp2
                  go_roundg k2
                  case measure => have := HI.out; omega
                  case rel => exact ⟨i + 1, by first | rfl | (simp; done), ⟨by omega, by have := HI.out; omega, nI.out⟩, HO, HB, gbK⟩
                · have nI := Aside0.mk (put_at_stop c3 c4 HI.out.2.2)
                  generalize (rd_T63 t1 (i : Int)).f0 = dx at hx0 c4
                  have c4b : decide (dx < d) = false := decide_eq_false c4
                  go_wp2
                  go_meet
                  case rel => exact ⟨by rw [nI.out], HO, HB, gbK⟩
              · have c3b : decide ((i : Int) < (t1.length : Int)) = false := decide_eq_false (by omega)
                have nI := Aside0.mk (put_at_end c3 HI.out.2.2)
                go_wp2
                go_meet
                case rel => exact ⟨by rw [nI.out], HO, HB, gbK⟩
          case rest =>
            clear HO HB gbK
            try clear p2
            obtain ⟨rfl, HO, HB, gbK⟩ := hcut
            have HP := Aside0.mk (put_at_le t1 d)
            generalize put_at t1 d = p at HP E1
            have hz := box5z gbK.out
            go_wp2_with (first | ((with_reducible refine gate_callee (f := 44) rfl ?_); refine goesL_ (some 50) rfl rfl Try.func44 (by kernel_rfl) rfl #[.agg #[.int .i64 a1_0, .slice A1_1 l1_1.length c1_1, .int .i64 a1_2, .int .i64 a1_3, .int .i64 a1_4]] rfl (by (try simp only [List.map_toArray, List.map_cons, List.map_nil]); first | done | rfl) ?_; refine (impl_copyResource.calls a1_0 _ _ l1_1 a1_2 a1_3 a1_4 q0 q1 q2 q3 q4 _ (Kd.C_below HR1.out HB.out) HC1.out AQ.out).mono ?_; rintro e w9 ⟨v5, rfl, ho5, hb5⟩; refine ⟨_, rfl, ?_⟩; obtain ⟨A5, c5, e5⟩ := Kd.R_slice ho5; subst e5; have HQ5 := Aside0.mk ho5; have HB5 := Aside0.mk hb5; clear ho5 hb5))
            have MD := MadeB.callbox HB.out HO.out HQ5.out HB5.out rfl (heap_alloc_new w9 (.cells #[.int .i64 d, .int .i64 q0, .slice A5 q1.length c5, .int .i64 q2, .int .i64 q3, .int .i64 q4, .int .i64 1] 63)) (below_alloc (Below.refl _ _) _)
            refine (slices_Insert_Part.calls w.heap.size (fun k_ => k_ ≠ w9.heap.size ∧ ¬ some k_ = (Value.slice A5 q1.length c5).ownBlock) (fun k_ => some k_ = (Value.slice A5 q1.length c5).ownBlock) Ao w9.heap.size co p t1 (⟨d, (⟨q0, q1, (⟨q2, q3, q4⟩ : S34)⟩ : S36), 1⟩ : S63) [.int .i64 d, .int .i64 q0, .slice A5 q1.length c5, .int .i64 q2, .int .i64 q3, .int .i64 q4, .int .i64 1] w _ MD.pack.2.2.2.2.1 MD.pack.2.2.2.2.2 MD.pack.2.2.2.1 HP.out HL.out MD.2.2.1 (fun h_ => h_.1 rfl) (k63_mkM _ _ _ (⟨d, (⟨q0, q1, (⟨q2, q3, q4⟩ : S34)⟩ : S36), 1⟩ : S63) MD.pack.1) (fun k_ hk_ h_ => h_.2 hk_)).mono ?_
            rintro e w10 ⟨v1, rfl, ho, hb⟩
            clear HO HB MD
            have HO := Aside0.mk ho
            have HB := Aside0.mk hb
            clear ho hb
            go_wp2
            go_meet
            case rel => exact ⟨y, HF, ⟨E1.out ▸ HO.out⟩, HB⟩
        · rw [if_neg c15] at HM
          exact absurd HM (by simp)
    case rest =>
      clear HF AM HO HB gbK
      try clear p2
      obtain ⟨y, HF, HO, HB⟩ := hcut
      obtain ⟨Ay, cy, ey⟩ := Kd.S_slice HO.out
      subst ey
      obtain ⟨b, AB, H⟩ := Option.bind_eq_some_iff.mp HF.out
      clear HF
      replace AB := Aside0.mk AB
      by_cases c7 : b = true
      · subst c7
        rw [if_pos rfl] at H
        simp only [Option.some.injEq, Prod.mk.injEq] at H
        obtain ⟨rfl, rfl⟩ := H
        go_wp2_with (first | ((with_reducible refine gate_callee (f := 25) rfl ?_); refine goesL_ (some 55) rfl rfl Try.func25 (by kernel_rfl) rfl #[.slice Ay y.length cy] rfl (by (try simp only [List.map_toArray, List.map_cons, List.map_nil]); first | done | rfl) ?_; refine (impl_IsStore.calls k _ _ y _ _ (Kd.S_reads' HO.out).2.2 (Kd.S_reads' HO.out).2.1 AB.out).mono ?_; rintro e w11 ⟨rfl, hb⟩; refine ⟨_, rfl, ?_⟩; have n0_ := Aside0.mk (Kd.S_below HO.out hb); have n1_ := Aside0.mk (below_step HB.out hb); clear HO HB hb; have HO := n0_; have HB := n1_; clear n0_ n1_))
        go_ret2
        exact ⟨_, (by first | rfl | (simp [errW_none, errW_some] <;> rfl) | (simp [*, errW_none, errW_some] <;> rfl)), HO.out, (by repeat (first | (with_reducible first | exact HB.out | apply below_alloc | apply pw_below_drewN | apply below_drew1) | exact HB.out))⟩
      · replace c7 := Bool.eq_false_iff.mpr c7
        subst c7
        rw [if_neg (show ¬ (false = true) by decide)] at H
        obtain ⟨z1, AZ, H⟩ := Option.bind_eq_some_iff.mp H
        replace AZ := Aside0.mk AZ
        simp only [Option.some.injEq, Prod.mk.injEq] at H
        obtain ⟨rfl, rfl⟩ := H
        go_wp2_with (first | ((with_reducible refine gate_callee (f := 25) rfl ?_); refine goesL_ (some 55) rfl rfl Try.func25 (by kernel_rfl) rfl #[.slice Ay y.length cy] rfl (by (try simp only [List.map_toArray, List.map_cons, List.map_nil]); first | done | rfl) ?_; refine (impl_IsStore.calls k _ _ y _ _ (Kd.S_reads' HO.out).2.2 (Kd.S_reads' HO.out).2.1 AB.out).mono ?_; rintro e w11 ⟨rfl, hb⟩; refine ⟨_, rfl, ?_⟩; have n0_ := Aside0.mk (Kd.S_below HO.out hb); have n1_ := Aside0.mk (below_step HB.out hb); clear HO HB hb; have HO := n0_; have HB := n1_; clear n0_ n1_) | ((with_reducible refine gate_callee (f := 41) rfl ?_); refine goesL_ (some 58) rfl rfl Try.func41 (by kernel_rfl) rfl #[.slice A0 l0.length c0] rfl (by (try simp only [List.map_toArray, List.map_cons, List.map_nil]); first | done | rfl) ?_; refine (impl_copyParts.calls k _ _ l0 z1 _ (Kd.C_below HR0.out HB.out) HC0.out AZ.out).mono ?_; rintro e w12 ⟨v1, rfl, ho0, hb⟩; refine ⟨_, rfl, ?_⟩; clear HO; have HO := Aside0.mk (Kd.S_lower ho0 (below_size HB.out)); have n1_ := Aside0.mk (below_step HB.out hb); clear HB ho0 hb; have HB := n1_; clear n1_))
        go_ret2
        exact ⟨_, (by first | rfl | (simp [errW_none, errW_some] <;> rfl) | (simp [*, errW_none, errW_some] <;> rfl)), HO.out, (by repeat (first | (with_reducible first | exact HB.out | apply below_alloc | apply pw_below_drewN | apply below_drew1) | exact HB.out))⟩
  · replace c6 := Bool.eq_false_iff.mpr c6
    subst c6
    rw [if_neg (show ¬ (false = true) by decide)] at H
    simp only [Option.some.injEq, Prod.mk.injEq] at H
    obtain ⟨rfl, rfl⟩ := H
    go_enter Try.func11, Try.ntmps11
    go_wp2_with (first | ((with_reducible refine gate_dst (N := 3) rfl ?_); refine box_event ?hg (N := 3) ?hd (cs := #[.int .i64 a1_0, .slice A1_1 l1_1.length c1_1, .int .i64 a1_2, .int .i64 a1_3, .int .i64 a1_4]) (t := 36) ?hr ?_; (case hd => rfl); (case hg => rfl); (case hr => first | (go_simp; done) | (go_simp; rfl)); intro gb hg_ w4 hbox hb; have n0_ := Aside0.mk (below_step HB.out hb); have gbK := Aside0.mk hbox; clear HB hbox hg_ hb; have HB := n0_; clear n0_) | ((with_reducible refine gate_callee (f := 41) rfl ?_); refine goesL_ (some 11) rfl rfl Try.func41 (by kernel_rfl) rfl #[.slice A0 l0.length c0] rfl (by (try simp only [List.map_toArray, List.map_cons, List.map_nil]); first | done | rfl) ?_; refine (impl_copyParts.calls k _ _ l0 t1 _ (Kd.C_below HR0.out HB.out) HC0.out A3.out).mono ?_; rintro e w6 ⟨v1, rfl, ho0, hb⟩; refine ⟨_, rfl, ?_⟩; have HO := Aside0.mk (Kd.S_lower ho0 (below_size HB.out)); have n1_ := Aside0.mk (below_step HB.out hb); have n2_ := Aside0.mk (blk_below gbK.out hb); clear HB gbK ho0 hb; have HB := n1_; have gbK := n2_; clear n1_ n2_; obtain ⟨Ao, co, eo⟩ := Kd.S_slice HO.out; subst eo) | ((with_reducible refine gate_callee (f := 25) rfl ?_); refine goesL_ (some 13) rfl rfl Try.func25 (by kernel_rfl) rfl #[.slice A0 l0.length c0] rfl (by (try simp only [List.map_toArray, List.map_cons, List.map_nil]); first | done | rfl) ?_; refine (impl_IsStore.calls k _ _ l0 _ _ (Kd.C_below HR0.out HB.out) HC0.out A9.out).mono ?_; rintro e w7 ⟨rfl, hb⟩; refine ⟨_, rfl, ?_⟩; have n0_ := Aside0.mk (Kd.S_below HO.out hb); have n1_ := Aside0.mk (below_step HB.out hb); have n2_ := Aside0.mk (blk_below gbK.out hb); clear HO HB gbK hb; have HO := n0_; have HB := n1_; have gbK := n2_; clear n0_ n1_ n2_))
    go_ret2
    exact ⟨_, (by first | rfl | (simp [errW_none, errW_some] <;> rfl) | (simp [*, errW_none, errW_some] <;> rfl)), HO.out, (by repeat (first | (with_reducible first | exact HB.out | apply below_alloc | apply pw_below_drewN | apply below_drew1) | exact HB.out))⟩
/-! ### laws_FnExactPutPart: function 3 (by hand) -/
theorem laws_heldPartS.callsM (k : Nat) (A0 : Option Addr) (c0 : Nat) (l0 : List (S63)) (r : Int) (w : World) (hr0 : Kd.C k63 w A0 (laws_markPartS.mk l0 1).length (laws_markPartS.mk l0 1)) (hc0 : l0.length ≤ c0) (h : laws_heldPartS.f k (laws_markPartS.mk l0 1) 1 = some r) :
    Calls Try.prog 16 #[.slice A0 l0.length c0, .int .i64 1] w fun e w' => e = .returned (.int .i64 r) ∧ Drawn0 w w' := by
  have h1 := laws_heldPartS.calls k A0 c0 (laws_markPartS.mk l0 1) 1 r w hr0 (by rw [laws_markPartS.mk_length]; exact hc0) h
  rw [laws_markPartS.mk_length] at h1
  exact h1
/-- A row of whole numbers that the law holds: its block lies between lo and hi. -/
def RowI (w W : World) (lo hi : Nat) (v : Value) (xs : List Int) : Prop := Kd.R (Kd.int .i64) 3 W w.heap.size (fun k => lo ≤ k ∧ k < hi) v xs
section
variable {w W W' : World} {lo hi n c : Nat} {v : Value} {A : Option Addr} {xs : List Int} {P : Nat → Prop}
theorem RowI.below (h : RowI w W lo hi v xs) (hb : Below W.heap.size W W') : RowI w W' lo hi v xs := Kd.R_below h hb
theorem RowI.kept (h : RowI w W lo hi v xs) (hk : Kept W W' P) (hP : ∀ k, P k → k < lo ∨ hi ≤ k) : RowI w W' lo hi v xs := Kd.R_kept h hk (fun k hk h' => by have := hP k h'; omega)
theorem RowI.new (HB : Below w.heap.size w W) (h : Kd.R (Kd.int .i64) 3 W' W.heap.size (fun _ => True) v xs) : RowI w W' W.heap.size W'.heap.size v xs := Kd.R_mono (Kd.R_lower (Kd.R_bound h) (below_size HB)) (fun k hk => ⟨hk.2.1, hk.2.2.1⟩)
theorem RowI.C (h : RowI w W lo hi (.slice A xs.length c) xs) : Kd.C (Kd.int .i64) W A xs.length xs := (Kd.R_reads' h).2.2
theorem RowI.le (h : RowI w W lo hi (.slice A xs.length c) xs) : xs.length ≤ c := (Kd.R_reads' h).2.1
end
theorem box5 {w W : World} {g t : Nat} {z0 z1 z2 z3 z4 : Value} (h : W.heap[g]? = some (.cells #[z0, z1, z2, z3, z4] t (0, 0))) (u0 u1 u2 u3 u4 : Value) (hB : Below w.heap.size w W) (hg : w.heap.size ≤ g) :
    ∃ W' : World, W' = ((((W.setCell ⟨g, 0, none⟩ u0).setCell ⟨g, 1, none⟩ u1).setCell ⟨g, 2, none⟩ u2).setCell ⟨g, 3, none⟩ u3).setCell ⟨g, 4, none⟩ u4 ∧
      W'.heap[g]? = some (.cells #[u0, u1, u2, u3, u4] t (0, 0)) ∧ Below w.heap.size w W' ∧ W'.heap.size = W.heap.size ∧ ∀ k, k ≠ g → W'.heap[k]? = W.heap[k]? :=
  have h0 := blk_put (cs' := #[u0, z1, z2, z3, z4]) h 0 u0 rfl
  have h1 := blk_put (cs' := #[u0, u1, z2, z3, z4]) h0 1 u1 rfl
  have h2 := blk_put (cs' := #[u0, u1, u2, z3, z4]) h1 2 u2 rfl
  have h3 := blk_put (cs' := #[u0, u1, u2, u3, z4]) h2 3 u3 rfl
  have h4 := blk_put (cs' := #[u0, u1, u2, u3, u4]) h3 4 u4 rfl
  ⟨_, rfl, h4, below_set (below_set (below_set (below_set (below_set hB hg) hg) hg) hg) hg, by simp [World.setCell], fun k hk => ((((Below.heap_setCell _ _ _ k hk).trans (Below.heap_setCell _ _ _ k hk)).trans (Below.heap_setCell _ _ _ k hk)).trans (Below.heap_setCell _ _ _ k hk)).trans (Below.heap_setCell _ _ _ k hk)⟩
def laws_FnExactPutPart.T8 : Bool × List (List Nat × List Nat) := (true, [([], []), ([0], [0]), ([], []), ([2, 1], [2]), ([1, 3, 3], [1, 3]), ([4], [4]), ([5], [5]), ([5], [5]), ([6, 4, 0, 1, 2, 3, 4, 5, 6], [6]), ([7, 8, 0, 1, 2, 3, 4, 5, 6, 7, 8], [7])])
def laws_FnExactPutPart.B8 : List Nat := [0, 1, 0, 7, 15, 31, 63, 63, 127, 511]
theorem laws_FnExactPutPart.tab8 : rtab .any (opsOf Try.f3 8) = laws_FnExactPutPart.T8 := by kernel_rfl
theorem laws_FnExactPutPart.bits8 : waitsOk laws_FnExactPutPart.T8.2 laws_FnExactPutPart.B8 = true := by kernel_rfl
def laws_FnExactPutPart.T16 : Bool × List (List Nat × List Nat) := (true, [([], []), ([], []), ([1], [1]), ([0, 2, 2], [0, 2]), ([3], [3])])
def laws_FnExactPutPart.B16 : List Nat := [0, 0, 2, 7, 15]
theorem laws_FnExactPutPart.tab16 : rtab .any (opsOf Try.f3 16) = laws_FnExactPutPart.T16 := by kernel_rfl
theorem laws_FnExactPutPart.bits16 : waitsOk laws_FnExactPutPart.T16.2 laws_FnExactPutPart.B16 = true := by kernel_rfl
def laws_FnExactPutPart.T31 : Bool × List (List Nat × List Nat) := (true, [([], []), ([0], [0]), ([], []), ([2, 1], [2]), ([1, 3, 3], [1, 3]), ([4], [4]), ([5], [5]), ([5], [5]), ([6, 4, 0, 1, 2, 3, 4, 5, 6], [6]), ([7, 8, 0, 1, 2, 3, 4, 5, 6, 7, 8], [7])])
def laws_FnExactPutPart.B31 : List Nat := [0, 1, 0, 7, 15, 31, 63, 63, 127, 511]
theorem laws_FnExactPutPart.tab31 : rtab .any (opsOf Try.f3 31) = laws_FnExactPutPart.T31 := by kernel_rfl
theorem laws_FnExactPutPart.bits31 : waitsOk laws_FnExactPutPart.T31.2 laws_FnExactPutPart.B31 = true := by kernel_rfl
/-- What the law asks, each function once. -/
def laws_FnExactPutPart.f (k : Nat) (l0 : List S59) (a1_0 : Int) (l1_1 : List Int) (a1_2 : Int) (a1_3 : Int) (a1_4 : Int) : Prop :=
  ∃ t0, laws_szPartS.f k l0 1048576 = some t0 ∧ (t0 < 0 ∨ ∃ t1, laws_szResource.f a1_0 l1_1 a1_2 a1_3 a1_4 t0 = some t1 ∧ (t1 < 0 ∨ ∃ xs q0 q1 q2 q3 q4 rs rb m1 m2 ml m3, laws_toPartS.f k l0 = some xs ∧ laws_toResource.f k a1_0 l1_1 a1_2 a1_3 a1_4 = some (q0, q1, q2, q3, q4) ∧ spec_PutPart.f k xs q0 q1 q2 q3 q4 = some (rs, rb) ∧ impl_PutPart.f k xs q0 q1 q2 q3 q4 = some (rs, rb) ∧
    laws_eqPartS.f k rs rs = some true ∧ laws_eqPartS.f k xs xs = some true ∧ laws_eqResource.f k q0 q1 q2 q3 q4 q0 q1 q2 q3 q4 = some true ∧ laws_markPartS.f xs 1 = some m1 ∧ laws_markResource.f k q0 q1 q2 q3 q4 m1 = some (m2, ml) ∧ laws_markPartS.f rs 1 = some m3 ∧ laws_heldPartS.f k (laws_markPartS.mk rs 1) 1 = some m3 ∧ 0 ≤ m2 ∧ 0 ≤ m3))
set_option maxHeartbeats 8000000 in
set_option maxRecDepth 100000 in
theorem laws_FnExactPutPart.calls (k : Nat) (A0 : Option Addr) (c0 : Nat) (l0 : List (S59)) (a1_0 : Int) (A1_1 : Option Addr) (c1_1 : Nat) (l1_1 : List Int) (a1_2 : Int) (a1_3 : Int) (a1_4 : Int) (r : Bool) (w : World) (hr0 : Kd.C k59 w A0 l0.length l0) (hc0 : l0.length ≤ c0) (hr1_1 : Kd.C (Kd.int .i64) w A1_1 l1_1.length l1_1) (hc1_1 : l1_1.length ≤ c1_1) (hT0 : r = true) (h : laws_FnExactPutPart.f k l0 a1_0 l1_1 a1_2 a1_3 a1_4) :
    Calls Try.prog 3 #[.slice A0 l0.length c0, .agg #[.int .i64 a1_0, .slice A1_1 l1_1.length c1_1, .int .i64 a1_2, .int .i64 a1_3, .int .i64 a1_4]] w fun e w' => e = .returned (.bool r) ∧ Below w.heap.size w w' := by
  subst hT0
  have hu27 := Try.underlying27
  have hu36 := Try.underlying36
  have hu63 := Try.underlying63
  have HR0 := Aside0.mk hr0
  have HC0 := Aside0.mk hc0
  have HR1 := Aside0.mk hr1_1
  have HC1 := Aside0.mk hc1_1
  clear hr0 hc0 hr1_1 hc1_1
  have HB := Aside0.mk (Below.refl w.heap.size w)
  obtain ⟨t0, AS, H⟩ := h
  replace AS := Aside0.mk AS
  by_cases c0n : t0 < 0
  · have c0b : decide (t0 < 0) = true := decide_eq_true c0n
    clear c0n H
    go_enter Try.func3, Try.ntmps3
    go_wp2_with (first | ((with_reducible refine gate_dst (N := 3) rfl ?_); refine box_event ?hg (N := 3) ?hd (cs := #[.int .i64 a1_0, .slice A1_1 l1_1.length c1_1, .int .i64 a1_2, .int .i64 a1_3, .int .i64 a1_4]) (t := 27) ?hr ?_; (case hd => rfl); (case hg => rfl); (case hr => first | (go_simp; done) | (go_simp; rfl)); intro gb hg_ w4 hbox hb; have n0_ := Aside0.mk (below_step HB.out hb); have gbK := Aside0.mk hbox; clear HB hbox hg_ hb; have HB := n0_; clear n0_) | ((with_reducible refine gate_callee (f := 6) rfl ?_); refine goesL_ (some 19) rfl rfl Try.func6 (by kernel_rfl) rfl #[.slice A0 l0.length c0, .int .i64 1048576] rfl (by (try simp only [List.map_toArray, List.map_cons, List.map_nil]); first | done | rfl) ?_; refine (laws_szPartS.calls k _ _ l0 1048576 t0 _ (Kd.C_below HR0.out HB.out) HC0.out AS.out).mono ?_; rintro e w1 ⟨rfl, hb⟩; refine ⟨_, rfl, ?_⟩; have n0_ := Aside0.mk (below_step HB.out hb); have ngbK_ := Aside0.mk (blk_below gbK.out hb); clear HB gbK hb; have HB := n0_; have gbK := ngbK_; clear n0_ ngbK_))
    go_ret
    exact ⟨(by first | rfl | (simp [errW_none, errW_some] <;> rfl) | (simp [*, errW_none, errW_some] <;> rfl)), (by repeat (first | (with_reducible first | exact HB.out | apply below_alloc | apply pw_below_drewN | apply below_drew1) | exact HB.out))⟩
  · obtain ⟨t1, AR, H⟩ := H.resolve_left c0n
    have c0b : decide (t0 < 0) = false := decide_eq_false c0n
    replace AR := Aside0.mk AR
    clear c0n
    by_cases c1n : t1 < 0
    · have c1b : decide (t1 < 0) = true := decide_eq_true c1n
      clear c1n H
      go_enter Try.func3, Try.ntmps3
      go_wp2_with (first | ((with_reducible refine gate_dst (N := 3) rfl ?_); refine box_event ?hg (N := 3) ?hd (cs := #[.int .i64 a1_0, .slice A1_1 l1_1.length c1_1, .int .i64 a1_2, .int .i64 a1_3, .int .i64 a1_4]) (t := 27) ?hr ?_; (case hd => rfl); (case hg => rfl); (case hr => first | (go_simp; done) | (go_simp; rfl)); intro gb hg_ w4 hbox hb; have n0_ := Aside0.mk (below_step HB.out hb); have gbK := Aside0.mk hbox; clear HB hbox hg_ hb; have HB := n0_; clear n0_) | ((with_reducible refine gate_callee (f := 6) rfl ?_); refine goesL_ (some 19) rfl rfl Try.func6 (by kernel_rfl) rfl #[.slice A0 l0.length c0, .int .i64 1048576] rfl (by (try simp only [List.map_toArray, List.map_cons, List.map_nil]); first | done | rfl) ?_; refine (laws_szPartS.calls k _ _ l0 1048576 t0 _ (Kd.C_below HR0.out HB.out) HC0.out AS.out).mono ?_; rintro e w1 ⟨rfl, hb⟩; refine ⟨_, rfl, ?_⟩; have n0_ := Aside0.mk (below_step HB.out hb); have ngbK_ := Aside0.mk (blk_below gbK.out hb); clear HB gbK hb; have HB := n0_; have gbK := ngbK_; clear n0_ ngbK_; have hz := box5z gbK.out) | ((with_reducible refine gate_callee (f := 7) rfl ?_); refine goesL_ (some 24) rfl rfl Try.func7 (by kernel_rfl) rfl #[.agg #[.int .i64 a1_0, .slice A1_1 l1_1.length c1_1, .int .i64 a1_2, .int .i64 a1_3, .int .i64 a1_4], .int .i64 t0] rfl (by (try simp only [List.map_toArray, List.map_cons, List.map_nil]); first | done | rfl) ?_; refine (laws_szResource.calls a1_0 _ _ l1_1 a1_2 a1_3 a1_4 t0 t1 _ (Kd.C_below HR1.out HB.out) HC1.out AR.out).mono ?_; rintro e w2 ⟨rfl, hb⟩; refine ⟨_, rfl, ?_⟩; clear hz; have n0_ := Aside0.mk (below_step HB.out hb); have ngbK_ := Aside0.mk (blk_below gbK.out hb); clear HB gbK hb; have HB := n0_; have gbK := ngbK_; clear n0_ ngbK_))
      go_ret
      exact ⟨(by first | rfl | (simp [errW_none, errW_some] <;> rfl) | (simp [*, errW_none, errW_some] <;> rfl)), (by repeat (first | (with_reducible first | exact HB.out | apply below_alloc | apply pw_below_drewN | apply below_drew1) | exact HB.out))⟩
    · obtain ⟨xs, q0, q1, q2, q3, q4, rs, rb, m1, m2, ml, m3, AT, AQ, AP, AI, AE, AX, AZ, AM, AN, AG3, AH, hm2, hm3⟩ := H.resolve_left c1n
      have c1b : decide (t1 < 0) = false := decide_eq_false c1n
      clear c1n H
      replace AT := Aside0.mk AT
      replace AQ := Aside0.mk AQ
      replace AP := Aside0.mk AP
      replace AI := Aside0.mk AI
      replace AE := Aside0.mk AE
      replace AX := Aside0.mk AX
      replace AZ := Aside0.mk AZ
      replace AM := Aside0.mk AM
      replace AN := Aside0.mk AN
      replace AG3 := Aside0.mk AG3
      replace AH := Aside0.mk AH
      have e2 : decide (m2 < 0) = false := decide_eq_false (by omega)
      have e3 : decide (m3 < 0) = false := decide_eq_false (by omega)
      clear hm2 hm3
      go_enter Try.func3, Try.ntmps3
      go_wp2_with (first | ((with_reducible refine gate_dst (N := 3) rfl ?_); refine box_event ?hg (N := 3) ?hd (cs := #[.int .i64 a1_0, .slice A1_1 l1_1.length c1_1, .int .i64 a1_2, .int .i64 a1_3, .int .i64 a1_4]) (t := 27) ?hr ?_; (case hd => rfl); (case hg => rfl); (case hr => first | (go_simp; done) | (go_simp; rfl)); intro gb hg_ w4 hbox hb; have n0_ := Aside0.mk (below_step HB.out hb); have gbK := Aside0.mk hbox; clear HB hbox hg_ hb; have HB := n0_; clear n0_) | ((with_reducible refine gate_callee (f := 6) rfl ?_); refine goesL_ (some 19) rfl rfl Try.func6 (by kernel_rfl) rfl #[.slice A0 l0.length c0, .int .i64 1048576] rfl (by (try simp only [List.map_toArray, List.map_cons, List.map_nil]); first | done | rfl) ?_; refine (laws_szPartS.calls k _ _ l0 1048576 t0 _ (Kd.C_below HR0.out HB.out) HC0.out AS.out).mono ?_; rintro e w1 ⟨rfl, hb⟩; refine ⟨_, rfl, ?_⟩; have n0_ := Aside0.mk (below_step HB.out hb); have ngbK_ := Aside0.mk (blk_below gbK.out hb); clear HB gbK hb; have HB := n0_; have gbK := ngbK_; clear n0_ ngbK_; have hz := box5z gbK.out) | ((with_reducible refine gate_callee (f := 7) rfl ?_); refine goesL_ (some 24) rfl rfl Try.func7 (by kernel_rfl) rfl #[.agg #[.int .i64 a1_0, .slice A1_1 l1_1.length c1_1, .int .i64 a1_2, .int .i64 a1_3, .int .i64 a1_4], .int .i64 t0] rfl (by (try simp only [List.map_toArray, List.map_cons, List.map_nil]); first | done | rfl) ?_; refine (laws_szResource.calls a1_0 _ _ l1_1 a1_2 a1_3 a1_4 t0 t1 _ (Kd.C_below HR1.out HB.out) HC1.out AR.out).mono ?_; rintro e w2 ⟨rfl, hb⟩; refine ⟨_, rfl, ?_⟩; clear hz; have n0_ := Aside0.mk (below_step HB.out hb); have ngbK_ := Aside0.mk (blk_below gbK.out hb); clear HB gbK hb; have HB := n0_; have gbK := ngbK_; clear n0_ ngbK_))
      have n0_ := Aside0.mk (below_drew1 HB.out)
      have ngbK_ := Aside0.mk (show w2.drew.heap[_]? = _ from gbK.out)
      clear HB gbK
      have HB := n0_
      have gbK := ngbK_
      clear n0_ ngbK_
      refine start_ (n := 10) (S := fun w' => w'.heap[gb]? = some (.cells #[.int .i64 a1_0, .slice A1_1 l1_1.length c1_1, .int .i64 a1_2, .int .i64 a1_3, .int .i64 a1_4] 27 (0, 0))) (ds := []) (mk 10 0) (by kernel_rfl) rfl rfl gbK.out (fun hHeld => ?_)
      refine with_tabW laws_FnExactPutPart.tab8 laws_FnExactPutPart.bits8 (fun HT_ HW_ => ?_)
      generalize w2.drew = wd8 at HB gbK hHeld ⊢
      refine on_ 0 28 (mk 10 0x1) ?_
      refine rd_ 2 30 (mk 10 0x5) (hy := by (intro w' hS_; have hz_ := box5z hS_; go_simp; with_reducible rfl)) ?_
      refine cl_ 1 29 (mk 10 0x7) Try.func9 #[.slice A0 l0.length c0] ?_
      refine (laws_toPartS.calls k _ _ l0 xs _ (Kd.C_below HR0.out HB.out) HC0.out AT.out).mono ?_
      rintro e w3 ⟨v_, rfl, ho0, hb⟩
      have nn_ := Aside0.mk (Row.new HB.out ho0)
      clear ho0
      have n0_ := Aside0.mk (below_step HB.out hb)
      have ngbK_ := Aside0.mk (blk_below gbK.out hb)
      clear HB gbK hb
      have HB := n0_
      have gbK := ngbK_
      clear n0_ ngbK_
      have Ra := nn_
      clear nn_
      obtain ⟨Aa, ca, e_⟩ := Kd.S_slice Ra.out
      subst e_
      refine ⟨_, rfl, gbK.out, fun hHeld => nm_ ?_⟩
      refine cl_ 3 31 (mk 10 0xF) Try.func10 #[.agg #[.int .i64 a1_0, .slice A1_1 l1_1.length c1_1, .int .i64 a1_2, .int .i64 a1_3, .int .i64 a1_4]] ?_
      refine (laws_toResource.calls k a1_0 _ _ l1_1 a1_2 a1_3 a1_4 q0 q1 q2 q3 q4 _ (Kd.C_below HR1.out HB.out) HC1.out AQ.out).mono ?_
      rintro e w4 ⟨v_, rfl, ho0, hb⟩
      have nn_ := Aside0.mk (RowI.new HB.out ho0)
      clear ho0
      have n0_ := Aside0.mk (below_step HB.out hb)
      have ngbK_ := Aside0.mk (blk_below gbK.out hb)
      have nRa_ := Aside0.mk (Ra.out.below hb)
      clear HB gbK Ra hb
      have HB := n0_
      have gbK := ngbK_
      have Ra := nRa_
      clear n0_ ngbK_ nRa_
      have Rj := nn_
      clear nn_
      obtain ⟨Aj, cj, e_⟩ := Kd.R_slice Rj.out
      subst e_
      refine ⟨_, rfl, gbK.out, fun hHeld => nm_ ?_⟩
      refine cl_ 4 32 (mk 10 0x1F) Try.func8 #[.slice Aa xs.length ca, .agg #[.int .i64 q0, .slice Aj q1.length cj, .int .i64 q2, .int .i64 q3, .int .i64 q4]] ?_
      refine (spec_PutPart.calls k _ _ xs q0 _ _ q1 q2 q3 q4 rs rb _ Ra.out.C Ra.out.le Rj.out.C Rj.out.le AP.out).mono ?_
      rintro e w5 ⟨v_, rfl, ho0, hb⟩
      have nn_ := Aside0.mk (Row.new HB.out ho0)
      clear ho0
      have n0_ := Aside0.mk (below_step HB.out hb)
      have ngbK_ := Aside0.mk (blk_below gbK.out hb)
      clear HB gbK hb
      have HB := n0_
      have gbK := ngbK_
      clear n0_ ngbK_
      have Rw := nn_
      clear nn_
      obtain ⟨Aw, cw, e_⟩ := Kd.S_slice Rw.out
      subst e_
      refine ⟨_, rfl, gbK.out, fun hHeld => nm_ ?_⟩
      refine on_ 5 27 (mk 10 0x3F) ?_
      refine on_ 6 33 (mk 10 0x7F) ?_
      refine on_ 7 34 (mk 10 0xFF) ?_
      refine on_ 8 6 (mk 10 0x1FF) ?_
      refine on_ 9 7 (mk 10 0x3FF) ?_
      refine dn_ ?_
      clear Ra Rj hHeld
      have HG := Aside0.mk (blk_lt gbK.out)
      go_wp2_with (first | ((with_reducible refine gate_callee (f := 9) rfl ?_); refine goesL_ (some 36) rfl rfl Try.func9 (by kernel_rfl) rfl #[.slice A0 l0.length c0] rfl (by (try simp only [List.map_toArray, List.map_cons, List.map_nil]); first | done | rfl) ?_; refine (laws_toPartS.calls k _ _ l0 xs _ (Kd.C_below HR0.out HB.out) HC0.out AT.out).mono ?_; rintro e w6 ⟨v_, rfl, ho0, hb⟩; refine ⟨_, rfl, ?_⟩; have H2 := Aside0.mk (below_size hb); have nn_ := Aside0.mk (Row.new HB.out ho0); clear ho0; have n0_ := Aside0.mk (below_step HB.out hb); have ngbK_ := Aside0.mk (blk_below gbK.out hb); have nRw_ := Aside0.mk (Rw.out.below hb); clear HB gbK Rw hb; have HB := n0_; have gbK := ngbK_; have Rw := nRw_; clear n0_ ngbK_ nRw_; have Rx := nn_; clear nn_; obtain ⟨Ax, cx, e_⟩ := Kd.S_slice Rx.out; subst e_; have hz := box5z gbK.out) | ((with_reducible refine gate_callee (f := 10) rfl ?_); refine goesL_ (some 38) rfl rfl Try.func10 (by kernel_rfl) rfl #[.agg #[.int .i64 a1_0, .slice A1_1 l1_1.length c1_1, .int .i64 a1_2, .int .i64 a1_3, .int .i64 a1_4]] rfl (by (try simp only [List.map_toArray, List.map_cons, List.map_nil]); first | done | rfl) ?_; refine (laws_toResource.calls k a1_0 _ _ l1_1 a1_2 a1_3 a1_4 q0 q1 q2 q3 q4 _ (Kd.C_below HR1.out HB.out) HC1.out AQ.out).mono ?_; rintro e w7 ⟨v_, rfl, ho0, hb⟩; refine ⟨_, rfl, ?_⟩; clear hz; have H3 := Aside0.mk (below_size hb); have nn_ := Aside0.mk (RowI.new HB.out ho0); clear ho0; have n0_ := Aside0.mk (below_step HB.out hb); have ngbK_ := Aside0.mk (blk_below gbK.out hb); have nRw_ := Aside0.mk (Rw.out.below hb); have nRx_ := Aside0.mk (Rx.out.below hb); clear HB gbK Rw Rx hb; have HB := n0_; have gbK := ngbK_; have Rw := nRw_; have Rx := nRx_; clear n0_ ngbK_ nRw_ nRx_; have Ri := nn_; clear nn_; obtain ⟨Ai, ci, e_⟩ := Kd.R_slice Ri.out; subst e_))
      obtain ⟨w9, hw9⟩ : ∃ w9, w9 = w7.alloc (.cells #[.int .i64 q0, .slice Ai q1.length ci, .int .i64 q2, .int .i64 q3, .int .i64 q4] 36) := ⟨_, rfl⟩
      have hb : Below w7.heap.size w7 w9 := hw9 ▸ below_alloc (Below.refl _ _) _
      have gx9 : w9.heap[w7.heap.size]? = some (.cells #[.int .i64 q0, .slice Ai q1.length ci, .int .i64 q2, .int .i64 q3, .int .i64 q4] 36 (0, 0)) := hw9 ▸ heap_alloc_new w7 _
      rw [← hw9]
      clear hw9
      obtain ⟨gx, hgx⟩ : ∃ gx, gx = w7.heap.size := ⟨_, rfl⟩
      rw [← hgx] at gx9 ⊢
      have H4 := Aside0.mk (Nat.le_of_eq hgx.symm)
      have gxK := Aside0.mk gx9
      have HX := Aside0.mk (blk_lt gx9)
      clear gx9 hgx
      have n0_ := Aside0.mk (below_step HB.out hb)
      have ngbK_ := Aside0.mk (blk_below gbK.out hb)
      have nRw_ := Aside0.mk (Rw.out.below hb)
      have nRx_ := Aside0.mk (Rx.out.below hb)
      have nRi_ := Aside0.mk (Ri.out.below hb)
      clear HB gbK Rw Rx Ri hb
      have HB := n0_
      have gbK := ngbK_
      have Rw := nRw_
      have Rx := nRx_
      have Ri := nRi_
      clear n0_ ngbK_ nRw_ nRx_ nRi_
      refine (impl_PutPart.calls k _ _ xs q0 _ _ q1 q2 q3 q4 rs rb _ Rx.out.C Rx.out.le Ri.out.C Ri.out.le AI.out).mono ?_
      rintro e w10 ⟨v_, rfl, ho0, hb⟩
      have nn_ := Aside0.mk (Row.new HB.out ho0)
      clear ho0
      have n0_ := Aside0.mk (below_step HB.out hb)
      have ngbK_ := Aside0.mk (blk_below gbK.out hb)
      have ngxK_ := Aside0.mk (blk_below gxK.out hb)
      have nRw_ := Aside0.mk (Rw.out.below hb)
      have nRx_ := Aside0.mk (Rx.out.below hb)
      have nRi_ := Aside0.mk (Ri.out.below hb)
      clear HB gbK gxK Rw Rx Ri hb
      have HB := n0_
      have gbK := ngbK_
      have gxK := ngxK_
      have Rw := nRw_
      have Rx := nRx_
      have Ri := nRi_
      clear n0_ ngbK_ ngxK_ nRw_ nRx_ nRi_
      have Rg := nn_
      clear nn_
      obtain ⟨Ag, cg, e_⟩ := Kd.S_slice Rg.out
      subst e_
      go_wp2_with (first | ((with_reducible refine gate_callee (f := 12) rfl ?_); refine goesL_ (some 47) rfl rfl Try.func12 (by kernel_rfl) rfl #[.slice Ag rs.length cg, .slice Aw rs.length cw] rfl (by (try simp only [List.map_toArray, List.map_cons, List.map_nil]); first | done | rfl) ?_; refine (laws_eqPartS.calls k _ _ rs _ _ rs true _ Rg.out.C Rg.out.le Rw.out.C Rw.out.le AE.out).mono ?_; rintro e w11 ⟨rfl, hb⟩; refine ⟨_, rfl, ?_⟩; have n0_ := Aside0.mk (below_step HB.out hb); have ngbK_ := Aside0.mk (blk_below gbK.out hb); have ngxK_ := Aside0.mk (blk_below gxK.out hb); have nRw_ := Aside0.mk (Rw.out.below hb); have nRx_ := Aside0.mk (Rx.out.below hb); have nRi_ := Aside0.mk (Ri.out.below hb); have nRg_ := Aside0.mk (Rg.out.below hb); clear HB gbK gxK Rw Rx Ri Rg hb; have HB := n0_; have gbK := ngbK_; have gxK := ngxK_; have Rw := nRw_; have Rx := nRx_; have Ri := nRi_; have Rg := nRg_; clear n0_ ngbK_ ngxK_ nRw_ nRx_ nRi_ nRg_) | ((with_reducible refine gate_callee (f := 9) rfl ?_); refine goesL_ (some 56) rfl rfl Try.func9 (by kernel_rfl) rfl #[.slice A0 l0.length c0] rfl (by (try simp only [List.map_toArray, List.map_cons, List.map_nil]); first | done | rfl) ?_; refine (laws_toPartS.calls k _ _ l0 xs _ (Kd.C_below HR0.out HB.out) HC0.out AT.out).mono ?_; rintro e w12 ⟨v_, rfl, ho0, hb⟩; refine ⟨_, rfl, ?_⟩; have nn_ := Aside0.mk (Row.new HB.out ho0); clear ho0; have n0_ := Aside0.mk (below_step HB.out hb); have ngbK_ := Aside0.mk (blk_below gbK.out hb); have ngxK_ := Aside0.mk (blk_below gxK.out hb); have nRw_ := Aside0.mk (Rw.out.below hb); have nRx_ := Aside0.mk (Rx.out.below hb); have nRi_ := Aside0.mk (Ri.out.below hb); have nRg_ := Aside0.mk (Rg.out.below hb); clear HB gbK gxK Rw Rx Ri Rg hb; have HB := n0_; have gbK := ngbK_; have gxK := ngxK_; have Rw := nRw_; have Rx := nRx_; have Ri := nRi_; have Rg := nRg_; clear n0_ ngbK_ ngxK_ nRw_ nRx_ nRi_ nRg_; have Rt := nn_; clear nn_; obtain ⟨At, ct, e_⟩ := Kd.S_slice Rt.out; subst e_) | ((with_reducible refine gate_callee (f := 12) rfl ?_); refine goesL_ (some 57) rfl rfl Try.func12 (by kernel_rfl) rfl #[.slice Ax xs.length cx, .slice At xs.length ct] rfl (by (try simp only [List.map_toArray, List.map_cons, List.map_nil]); first | done | rfl) ?_; refine (laws_eqPartS.calls k _ _ xs _ _ xs true _ Rx.out.C Rx.out.le Rt.out.C Rt.out.le AX.out).mono ?_; rintro e w13 ⟨rfl, hb⟩; refine ⟨_, rfl, ?_⟩; clear Rt; have n0_ := Aside0.mk (below_step HB.out hb); have ngbK_ := Aside0.mk (blk_below gbK.out hb); have ngxK_ := Aside0.mk (blk_below gxK.out hb); have nRw_ := Aside0.mk (Rw.out.below hb); have nRx_ := Aside0.mk (Rx.out.below hb); have nRi_ := Aside0.mk (Ri.out.below hb); have nRg_ := Aside0.mk (Rg.out.below hb); clear HB gbK gxK Rw Rx Ri Rg hb; have HB := n0_; have gbK := ngbK_; have gxK := ngxK_; have Rw := nRw_; have Rx := nRx_; have Ri := nRi_; have Rg := nRg_; clear n0_ ngbK_ ngxK_ nRw_ nRx_ nRi_ nRg_))
      have n0_ := Aside0.mk (below_drew1 HB.out)
      have ngbK_ := Aside0.mk (show w13.drew.heap[_]? = _ from gbK.out)
      have ngxK_ := Aside0.mk (show w13.drew.heap[_]? = _ from gxK.out)
      have nRw_ := Aside0.mk (Rw.out.below (below_drew1 (Below.refl _ _)))
      have nRx_ := Aside0.mk (Rx.out.below (below_drew1 (Below.refl _ _)))
      have nRi_ := Aside0.mk (Ri.out.below (below_drew1 (Below.refl _ _)))
      have nRg_ := Aside0.mk (Rg.out.below (below_drew1 (Below.refl _ _)))
      clear HB gbK gxK Rw Rx Ri Rg
      have HB := n0_
      have gbK := ngbK_
      have gxK := ngxK_
      have Rw := nRw_
      have Rx := nRx_
      have Ri := nRi_
      have Rg := nRg_
      clear n0_ ngbK_ ngxK_ nRw_ nRx_ nRi_ nRg_
      refine start_ (n := 5) (S := fun w' => (w'.heap[gb]? = some (.cells #[.int .i64 a1_0, .slice A1_1 l1_1.length c1_1, .int .i64 a1_2, .int .i64 a1_3, .int .i64 a1_4] 27 (0, 0))) ∧ (w'.heap[gx]? = some (.cells #[.int .i64 q0, .slice Ai q1.length ci, .int .i64 q2, .int .i64 q3, .int .i64 q4] 36 (0, 0)))) (ds := []) (mk 5 0) (by kernel_rfl) rfl rfl ⟨gbK.out, gxK.out⟩ (fun hHeld => ?_)
      refine with_tabW laws_FnExactPutPart.tab16 laws_FnExactPutPart.bits16 (fun HT_ HW_ => ?_)
      generalize w13.drew = wd16 at HB gbK gxK Rw Rx Ri Rg hHeld ⊢
      refine rd_ 0 59 (mk 5 0x1) (hy := by (intro w' hS_; have hz_ := box5z hS_.1; have hz2_ := box5z hS_.2; go_simp; with_reducible rfl)) ?_
      refine rd_ 1 60 (mk 5 0x3) (hy := by (intro w' hS_; have hz_ := box5z hS_.1; have hz2_ := box5z hS_.2; go_simp; with_reducible rfl)) ?_
      refine cl_ 2 61 (mk 5 0x7) Try.func10 #[.agg #[.int .i64 a1_0, .slice A1_1 l1_1.length c1_1, .int .i64 a1_2, .int .i64 a1_3, .int .i64 a1_4]] ?_
      refine (laws_toResource.calls k a1_0 _ _ l1_1 a1_2 a1_3 a1_4 q0 q1 q2 q3 q4 _ (Kd.C_below HR1.out HB.out) HC1.out AQ.out).mono ?_
      rintro e w14 ⟨v_, rfl, ho0, hb⟩
      have nn_ := Aside0.mk (RowI.new HB.out ho0)
      clear ho0
      have n0_ := Aside0.mk (below_step HB.out hb)
      have ngbK_ := Aside0.mk (blk_below gbK.out hb)
      have ngxK_ := Aside0.mk (blk_below gxK.out hb)
      have nRw_ := Aside0.mk (Rw.out.below hb)
      have nRx_ := Aside0.mk (Rx.out.below hb)
      have nRi_ := Aside0.mk (Ri.out.below hb)
      have nRg_ := Aside0.mk (Rg.out.below hb)
      clear HB gbK gxK Rw Rx Ri Rg hb
      have HB := n0_
      have gbK := ngbK_
      have gxK := ngxK_
      have Rw := nRw_
      have Rx := nRx_
      have Ri := nRi_
      have Rg := nRg_
      clear n0_ ngbK_ ngxK_ nRw_ nRx_ nRi_ nRg_
      have Ru := nn_
      clear nn_
      obtain ⟨Au, cu, e_⟩ := Kd.R_slice Ru.out
      subst e_
      refine ⟨_, rfl, ⟨gbK.out, gxK.out⟩, fun hHeld => nm_ ?_⟩
      refine cl_ 3 62 (mk 5 0xF) Try.func13 #[.agg #[.int .i64 q0, .slice Ai q1.length ci, .int .i64 q2, .int .i64 q3, .int .i64 q4], .agg #[.int .i64 q0, .slice Au q1.length cu, .int .i64 q2, .int .i64 q3, .int .i64 q4]] ?_
      refine (laws_eqResource.calls k q0 _ _ q1 q2 q3 q4 q0 _ _ q1 q2 q3 q4 true _ Ri.out.C Ri.out.le Ru.out.C Ru.out.le AZ.out).mono ?_
      rintro e w15 ⟨rfl, hb⟩
      clear Ru
      have n0_ := Aside0.mk (below_step HB.out hb)
      have ngbK_ := Aside0.mk (blk_below gbK.out hb)
      have ngxK_ := Aside0.mk (blk_below gxK.out hb)
      have nRw_ := Aside0.mk (Rw.out.below hb)
      have nRx_ := Aside0.mk (Rx.out.below hb)
      have nRi_ := Aside0.mk (Ri.out.below hb)
      have nRg_ := Aside0.mk (Rg.out.below hb)
      clear HB gbK gxK Rw Rx Ri Rg hb
      have HB := n0_
      have gbK := ngbK_
      have gxK := ngxK_
      have Rw := nRw_
      have Rx := nRx_
      have Ri := nRi_
      have Rg := nRg_
      clear n0_ ngbK_ ngxK_ nRw_ nRx_ nRi_ nRg_
      refine ⟨_, rfl, ⟨gbK.out, gxK.out⟩, fun hHeld => nm_ ?_⟩
      refine on_ 4 63 (mk 5 0x1F) ?_
      refine dn_ ?_
      clear hHeld
      have hz := box5z gxK.out
      go_wp2_with (first | ((with_reducible refine gate_callee (f := 14) rfl ?_); refine goesL_ (some 66) rfl rfl Try.func14 (by kernel_rfl) rfl #[.slice Ax xs.length cx, .int .i64 1] rfl (by (try simp only [List.map_toArray, List.map_cons, List.map_nil]); first | done | rfl) ?_; refine (laws_markPartS.calls _ _ _ xs 1 m1 w _ HB.out (Kd.S_R Rx.out) AM.out).mono ?_; rintro e w16 ⟨rfl, hbm, hkp⟩; refine ⟨_, rfl, ?_⟩; clear hz; have n0_ := Aside0.mk hbm; have ngbK_ := Aside0.mk (blk_kept gbK.out hkp (by have := HG.out; have := H2.out; have := H3.out; have := H4.out; have := HX.out; omega)); have ngxK_ := Aside0.mk (blk_kept gxK.out hkp (by have := HG.out; have := H2.out; have := H3.out; have := H4.out; have := HX.out; omega)); have nRw_ := Aside0.mk (Rw.out.kept hkp (fun k_ hk_ => by have := HG.out; have := H2.out; have := H3.out; have := H4.out; have := HX.out; omega)); have nRi_ := Aside0.mk (Ri.out.kept hkp (fun k_ hk_ => by have := HG.out; have := H2.out; have := H3.out; have := H4.out; have := HX.out; omega)); have nRg_ := Aside0.mk (Rg.out.kept hkp (fun k_ hk_ => by have := HG.out; have := H2.out; have := H3.out; have := H4.out; have := HX.out; omega)); clear HB gbK gxK Rw Ri Rg hbm; have HB := n0_; have gbK := ngbK_; have gxK := ngxK_; have Rw := nRw_; have Ri := nRi_; have Rg := nRg_; clear n0_ ngbK_ ngxK_ nRw_ nRi_ nRg_; clear hkp Rx; have hz := box5z gxK.out) | ((with_reducible refine gate_callee (f := 15) rfl ?_); refine goesL_ (some 69) rfl rfl Try.func15 (by kernel_rfl) rfl #[.agg #[.int .i64 q0, .slice Ai q1.length ci, .int .i64 q2, .int .i64 q3, .int .i64 q4], .int .i64 m1] rfl (by (try simp only [List.map_toArray, List.map_cons, List.map_nil]); first | done | rfl) ?_; refine (laws_markResource.calls k q0 _ _ q1 q2 q3 q4 m1 m2 ml w _ HB.out Ri.out AN.out).mono ?_; rintro e w17 ⟨rfl, hri, hbm, hkp⟩; refine ⟨_, rfl, ?_⟩; clear hz hri; have n0_ := Aside0.mk hbm; have ngbK_ := Aside0.mk (blk_kept gbK.out hkp (by have := HG.out; have := H2.out; have := H3.out; have := H4.out; have := HX.out; omega)); have nRw_ := Aside0.mk (Rw.out.kept hkp (fun k_ hk_ => by have := HG.out; have := H2.out; have := H3.out; have := H4.out; have := HX.out; omega)); have nRg_ := Aside0.mk (Rg.out.kept hkp (fun k_ hk_ => by have := HG.out; have := H2.out; have := H3.out; have := H4.out; have := HX.out; omega)); clear HB gbK Rw Rg hbm; have HB := n0_; have gbK := ngbK_; have Rw := nRw_; have Rg := nRg_; clear n0_ ngbK_ nRw_ nRg_; clear hkp Ri gxK) | (go_at_call 12; refine (laws_eqPartS.calls k _ _ rs _ _ rs true _ Rg.out.C Rg.out.le Rw.out.C Rw.out.le AE.out).mono ?_; rintro e w18 ⟨rfl, hb⟩; have n0_ := Aside0.mk (below_step HB.out hb); have ngbK_ := Aside0.mk (blk_below gbK.out hb); have nRw_ := Aside0.mk (Rw.out.below hb); have nRg_ := Aside0.mk (Rg.out.below hb); clear HB gbK Rw Rg hb; have HB := n0_; have gbK := ngbK_; have Rw := nRw_; have Rg := nRg_; clear n0_ ngbK_ nRw_ nRg_) | ((with_reducible refine gate_callee (f := 14) rfl ?_); refine goesL_ (some 85) rfl rfl Try.func14 (by kernel_rfl) rfl #[.slice Ag rs.length cg, .int .i64 1] rfl (by (try simp only [List.map_toArray, List.map_cons, List.map_nil]); first | done | rfl) ?_; refine (laws_markPartS.exact _ _ _ rs 1 m3 w _ HB.out Rg.out AG3.out).mono ?_; rintro e w19 ⟨rfl, hbm, hkp, hex⟩; refine ⟨_, rfl, ?_⟩; have nx_ := Aside0.mk (show Row w w19 _ _ (.slice Ag rs.length cg) (laws_markPartS.mk rs 1) from hex); clear hex; have n0_ := Aside0.mk hbm; have ngbK_ := Aside0.mk (blk_kept gbK.out hkp (by have := HG.out; have := H2.out; have := H3.out; have := H4.out; have := HX.out; omega)); have nRw_ := Aside0.mk (Rw.out.kept hkp (fun k_ hk_ => by have := HG.out; have := H2.out; have := H3.out; have := H4.out; have := HX.out; omega)); clear HB gbK Rw hbm; have HB := n0_; have gbK := ngbK_; have Rw := nRw_; clear n0_ ngbK_ nRw_; clear hkp Rg; have Rg := nx_; clear nx_) | ((with_reducible refine gate_callee (f := 16) rfl ?_); refine goesL_ (some 88) rfl rfl Try.func16 (by kernel_rfl) rfl #[.slice Ag rs.length cg, .int .i64 1] rfl (by (try simp only [List.map_toArray, List.map_cons, List.map_nil]); first | done | rfl) ?_; refine (laws_heldPartS.callsM k _ _ rs m3 _ (Kd.S_reads' Rg.out).2.2 (Kd.S_reads' Rg.out).2.1 AH.out).mono ?_; rintro e w20 ⟨rfl, hdr⟩; refine ⟨_, rfl, ?_⟩; have hb := hdr.below; clear hdr; have n0_ := Aside0.mk (below_step HB.out hb); have ngbK_ := Aside0.mk (blk_below gbK.out hb); have nRw_ := Aside0.mk (Rw.out.below hb); have nRg_ := Aside0.mk (Rg.out.below hb); clear HB gbK Rw Rg hb; have HB := n0_; have gbK := ngbK_; have Rw := nRw_; have Rg := nRg_; clear n0_ ngbK_ nRw_ nRg_))
      have n0_ := Aside0.mk (below_drew1 HB.out)
      have ngbK_ := Aside0.mk (show w20.drew.heap[_]? = _ from gbK.out)
      have nRw_ := Aside0.mk (Rw.out.below (below_drew1 (Below.refl _ _)))
      have nRg_ := Aside0.mk (Rg.out.below (below_drew1 (Below.refl _ _)))
      clear HB gbK Rw Rg
      have HB := n0_
      have gbK := ngbK_
      have Rw := nRw_
      have Rg := nRg_
      clear n0_ ngbK_ nRw_ nRg_
      refine start_ (n := 10) (S := fun w' => w'.heap[gb]? = some (.cells #[.int .i64 a1_0, .slice A1_1 l1_1.length c1_1, .int .i64 a1_2, .int .i64 a1_3, .int .i64 a1_4] 27 (0, 0))) (ds := []) (mk 10 0) (by kernel_rfl) rfl rfl gbK.out (fun hHeld => ?_)
      refine with_tabW laws_FnExactPutPart.tab31 laws_FnExactPutPart.bits31 (fun HT_ HW_ => ?_)
      generalize w20.drew = wd31 at HB gbK Rw Rg hHeld ⊢
      refine on_ 0 95 (mk 10 0x1) ?_
      refine rd_ 2 97 (mk 10 0x5) (hy := by (intro w' hS_; have hz_ := box5z hS_; go_simp; with_reducible rfl)) ?_
      refine cl_ 1 96 (mk 10 0x7) Try.func9 #[.slice A0 l0.length c0] ?_
      refine (laws_toPartS.calls k _ _ l0 xs _ (Kd.C_below HR0.out HB.out) HC0.out AT.out).mono ?_
      rintro e w21 ⟨v_, rfl, ho0, hb⟩
      have nn_ := Aside0.mk (Row.new HB.out ho0)
      clear ho0
      have n0_ := Aside0.mk (below_step HB.out hb)
      have ngbK_ := Aside0.mk (blk_below gbK.out hb)
      have nRw_ := Aside0.mk (Rw.out.below hb)
      have nRg_ := Aside0.mk (Rg.out.below hb)
      clear HB gbK Rw Rg hb
      have HB := n0_
      have gbK := ngbK_
      have Rw := nRw_
      have Rg := nRg_
      clear n0_ ngbK_ nRw_ nRg_
      have Rb := nn_
      clear nn_
      obtain ⟨Ab, cb, e_⟩ := Kd.S_slice Rb.out
      subst e_
      refine ⟨_, rfl, gbK.out, fun hHeld => nm_ ?_⟩
      refine cl_ 3 98 (mk 10 0xF) Try.func10 #[.agg #[.int .i64 a1_0, .slice A1_1 l1_1.length c1_1, .int .i64 a1_2, .int .i64 a1_3, .int .i64 a1_4]] ?_
      refine (laws_toResource.calls k a1_0 _ _ l1_1 a1_2 a1_3 a1_4 q0 q1 q2 q3 q4 _ (Kd.C_below HR1.out HB.out) HC1.out AQ.out).mono ?_
      rintro e w22 ⟨v_, rfl, ho0, hb⟩
      have nn_ := Aside0.mk (RowI.new HB.out ho0)
      clear ho0
      have n0_ := Aside0.mk (below_step HB.out hb)
      have nRb_ := Aside0.mk (Rb.out.below hb)
      have ngbK_ := Aside0.mk (blk_below gbK.out hb)
      have nRw_ := Aside0.mk (Rw.out.below hb)
      have nRg_ := Aside0.mk (Rg.out.below hb)
      clear HB Rb gbK Rw Rg hb
      have HB := n0_
      have Rb := nRb_
      have gbK := ngbK_
      have Rw := nRw_
      have Rg := nRg_
      clear n0_ nRb_ ngbK_ nRw_ nRg_
      have Rk := nn_
      clear nn_
      obtain ⟨Ak, ck, e_⟩ := Kd.R_slice Rk.out
      subst e_
      refine ⟨_, rfl, gbK.out, fun hHeld => nm_ ?_⟩
      refine cl_ 4 99 (mk 10 0x1F) Try.func11 #[.slice Ab xs.length cb, .agg #[.int .i64 q0, .slice Ak q1.length ck, .int .i64 q2, .int .i64 q3, .int .i64 q4]] ?_
      refine (impl_PutPart.calls k _ _ xs q0 _ _ q1 q2 q3 q4 rs rb _ Rb.out.C Rb.out.le Rk.out.C Rk.out.le AI.out).mono ?_
      rintro e w23 ⟨v_, rfl, ho0, hb⟩
      have nn_ := Aside0.mk (Row.new HB.out ho0)
      clear ho0
      have n0_ := Aside0.mk (below_step HB.out hb)
      have ngbK_ := Aside0.mk (blk_below gbK.out hb)
      have nRw_ := Aside0.mk (Rw.out.below hb)
      have nRg_ := Aside0.mk (Rg.out.below hb)
      clear HB gbK Rw Rg hb
      have HB := n0_
      have gbK := ngbK_
      have Rw := nRw_
      have Rg := nRg_
      clear n0_ ngbK_ nRw_ nRg_
      have Rh := nn_
      clear nn_
      obtain ⟨Ah, ch, e_⟩ := Kd.S_slice Rh.out
      subst e_
      refine ⟨_, rfl, gbK.out, fun hHeld => nm_ ?_⟩
      refine on_ 5 94 (mk 10 0x3F) ?_
      refine on_ 6 100 (mk 10 0x7F) ?_
      refine on_ 7 101 (mk 10 0xFF) ?_
      refine on_ 8 15 (mk 10 0x1FF) ?_
      refine on_ 9 16 (mk 10 0x3FF) ?_
      refine dn_ ?_
      clear Rb Rk hHeld
      go_wp2_with (first | ((with_reducible refine gate_callee (f := 12) rfl ?_); refine goesL_ (some 104) rfl rfl Try.func12 (by kernel_rfl) rfl #[.slice Ah rs.length ch, .slice Aw rs.length cw] rfl (by (try simp only [List.map_toArray, List.map_cons, List.map_nil]); first | done | rfl) ?_; refine (laws_eqPartS.calls k _ _ rs _ _ rs true _ Rh.out.C Rh.out.le Rw.out.C Rw.out.le AE.out).mono ?_; rintro e w24 ⟨rfl, hb⟩; refine ⟨_, rfl, ?_⟩; have n0_ := Aside0.mk (below_step HB.out hb); have ngbK_ := Aside0.mk (blk_below gbK.out hb); have nRw_ := Aside0.mk (Rw.out.below hb); have nRg_ := Aside0.mk (Rg.out.below hb); have nRh_ := Aside0.mk (Rh.out.below hb); clear HB gbK Rw Rg Rh hb; have HB := n0_; have gbK := ngbK_; have Rw := nRw_; have Rg := nRg_; have Rh := nRh_; clear n0_ ngbK_ nRw_ nRg_ nRh_) | ((with_reducible refine gate_callee (f := 16) rfl ?_); refine goesL_ (some 113) rfl rfl Try.func16 (by kernel_rfl) rfl #[.slice Ag rs.length cg, .int .i64 1] rfl (by (try simp only [List.map_toArray, List.map_cons, List.map_nil]); first | done | rfl) ?_; refine (laws_heldPartS.callsM k _ _ rs m3 _ (Kd.S_reads' Rg.out).2.2 (Kd.S_reads' Rg.out).2.1 AH.out).mono ?_; rintro e w20 ⟨rfl, hdr⟩; refine ⟨_, rfl, ?_⟩; have hb := hdr.below; clear hdr; have n0_ := Aside0.mk (below_step HB.out hb); have ngbK_ := Aside0.mk (blk_below gbK.out hb); have nRw_ := Aside0.mk (Rw.out.below hb); have nRg_ := Aside0.mk (Rg.out.below hb); clear HB gbK Rw Rg hb; have HB := n0_; have gbK := ngbK_; have Rw := nRw_; have Rg := nRg_; clear n0_ ngbK_ nRw_ nRg_))
      go_ret
      exact ⟨(by first | rfl | (simp [errW_none, errW_some] <;> rfl) | (simp [*, errW_none, errW_some] <;> rfl)), (by repeat (first | (with_reducible first | exact HB.out | apply below_alloc | apply pw_below_drewN | apply below_drew1) | exact HB.out))⟩

end Go.Proofs.Ytlpfobakbgipbaa.QFnExactPutPart
