/- Reading arguments: a value that is read as data, at a type made of whole numbers, slices and structs, has cells of the kind that the printed functions take. No conditions beyond each lemma's own. -/
import Derived.Deep.Slices
import Derived.Deep.Fields
import Derived.ChangeSame
import Derived.Test.YtlpfobakbgipbaaWWords
namespace Go.Proofs.Ytlpfobakbgipbaa.Opens
open Go.ChangeShapes Go.WideShapes Go.Deep Go.RowKit Go.Proofs.YtlpfobakbgipbaaW.PrintWords

theorem list_of {α : Type} {Q : Nat → α → Prop} : ∀ n, (∀ i, i < n → ∃ x, Q i x) → ∃ xs : List α, xs.length = n ∧ ∀ i x, xs[i]? = some x → Q i x
  | 0, _ => ⟨[], rfl, fun i x h => by simp at h⟩
  | n + 1, h => by
    obtain ⟨xs, hl, hx⟩ := list_of n (fun i hi => h i (by omega))
    obtain ⟨y, hy⟩ := h n (by omega)
    refine ⟨xs ++ [y], by simp [hl], fun i x hi => ?_⟩
    rcases Nat.lt_or_ge i xs.length with hlt | hge
    · rw [List.getElem?_append_left hlt] at hi
      exact hx i x hi
    · rw [List.getElem?_append_right hge] at hi
      have hlt := (List.getElem?_eq_some_iff.1 hi).1
      simp only [List.length_singleton] at hlt
      have h0 : i - xs.length = 0 := by omega
      rw [h0] at hi
      have hin : i = n := by omega
      simp only [List.getElem?_cons_zero, Option.some.injEq] at hi
      subst hi
      subst hin
      exact hy

section
variable {P : Program}
def Opens {α : Type} (P : Program) (t : TypeId) (d : Kd α) (good : α → Prop) : Prop :=
  P.cellsOf t = d.sz ∧ ∀ (H : Type) (enc : TypeId × Value → H) (w : World) (base : Nat) (spare : Nat → Bool) (held : Bool) (fuel : Nat) (cs : List Value) (y : DataW H × List MemPlace),
    DataW.trod enc P w base spare held fuel t cs = some y → ∃ x : α, d.K w x cs ∧ good x

theorem opens_int {t : TypeId} {k : IntKind} (hc : P.cellsOf t = 1) (ht : P.underlying t = some (.int k)) : Opens P t (Kd.int k) (fun n => (Lit.int k n).wf = true) := by
  refine ⟨hc, ?_⟩
  intro H enc w base spare held fuel cs y h
  obtain ⟨n, rfl, _, hw⟩ := DataW.trod_int ht h
  exact ⟨n, rfl, hw⟩

theorem opens_slice {α : Type} {t e : TypeId} {d : Kd α} {good : α → Prop} (hc : P.cellsOf t = 1) (ht : P.underlying t = some (.slice e)) (he : Opens P e d good) :
    Opens P t (Kd.slice e d) (fun xs => xs.length ≤ 9223372036854775807 ∧ ∀ x ∈ xs, good x) := by
  refine ⟨hc, ?_⟩
  intro H enc w base spare held fuel cs y h
  obtain ⟨hsz, hop⟩ := he
  rcases open_slice ht h with ⟨rfl, rfl⟩ | ⟨a, len, cap, m, n, D, Pl, rfl, hb, hl, hm, hmm, _, hi⟩
  · exact ⟨[], ⟨none, 0, rfl, Nat.le_refl _, rfl, by simp, fun h => absurd h (by simp)⟩, by simp, fun x hx => by simp at hx⟩
  · have hlm : len ≤ m := by rw [hmm]; split <;> omega
    obtain ⟨xs, hxl, hx⟩ := list_of (Q := fun i x => (∃ c, c.length = d.sz ∧ d.K w x c ∧ ∀ j u, c[j]? = some u → w.cell? (a.add (i * d.sz + j)) = some u) ∧ good x) len (fun i hil => by
      obtain ⟨cs', hcs, htr⟩ := hi i (by omega)
      obtain ⟨x, hK, hg⟩ := hop _ _ _ _ _ _ _ _ _ htr
      obtain ⟨_, hcl, hat⟩ := World.cells?_some hcs
      have hcl' : cs'.length = d.sz := by rw [← hsz]; exact hcl
      refine ⟨x, ⟨cs', hcl', hK, fun j u hu => ?_⟩, hg⟩
      have hjl := (List.getElem?_eq_some_iff.1 hu).1
      have h1 := hat j (show j < P.cellsOf e by omega)
      rw [← Go.Deep.add_add, ← hsz, h1, hu])
    subst hxl
    refine ⟨xs, ⟨some a, cap, rfl, hl, rfl, by unfold maxLen at hm; omega, fun _ => ⟨a, rfl, fun j p hp => (hx j p hp).1⟩⟩, by unfold maxLen at hm; omega, fun x hx' => ?_⟩
    obtain ⟨j, hj⟩ := List.getElem?_of_mem hx'
    exact (hx j x hj).2

def OpensF {α : Type} (P : Program) (fs : List Field) (off : Nat) (d : Kd α) (good : α → Prop) : Prop :=
  ∀ (H : Type) (enc : TypeId × Value → H) (w : World) (base : Nat) (spare : Nat → Bool) (held : Bool) (n : Nat) (cs : List Value), cs.length = d.sz →
    (∀ f ∈ fs, ∃ y, DataW.trod enc P w base spare held n f.type ((cs.drop (f.offset - off)).take (P.cellsOf f.type)) = some y) → ∃ x : α, d.K w x cs ∧ good x

theorem opensF_one {α : Type} {f : Field} {off : Nat} {d : Kd α} {good : α → Prop} (ho : f.offset = off) (h : Opens P f.type d good) : OpensF P [f] off d good := by
  intro H enc w base spare held n cs hl hf
  obtain ⟨y, hy⟩ := hf f (List.mem_singleton.2 rfl)
  rw [ho, Nat.sub_self, List.drop_zero, h.1, ← hl, List.take_length] at hy
  exact h.2 _ _ _ _ _ _ _ _ _ hy

theorem opensF_cons {α β : Type} {f : Field} {fs : List Field} {off : Nat} {d : Kd α} {d' : Kd β} {good : α → Prop} {good' : β → Prop} (ho : f.offset = off)
    (hge : fs.all (fun g => decide (off + d.sz ≤ g.offset)) = true) (h : Opens P f.type d good) (ht : OpensF P fs (off + d.sz) d' good') :
    OpensF P (f :: fs) off (Kd.pair d d') (fun x => good x.1 ∧ good' x.2) := by
  intro H enc w base spare held n cs hl hf
  have hl' : cs.length = d.sz + d'.sz := hl
  obtain ⟨y, hy⟩ := hf f List.mem_cons_self
  rw [ho, Nat.sub_self, List.drop_zero, h.1] at hy
  obtain ⟨x, hx, gx⟩ := h.2 _ _ _ _ _ _ _ _ _ hy
  obtain ⟨x', hx', gx'⟩ := ht H enc w base spare held n (cs.drop d.sz) (by rw [List.length_drop]; omega) (fun g hg => by
    obtain ⟨z, hz⟩ := hf g (List.mem_cons_of_mem _ hg)
    have hle := of_decide_eq_true (List.all_eq_true.1 hge g hg)
    refine ⟨z, ?_⟩
    rw [List.drop_drop, show d.sz + (g.offset - (off + d.sz)) = g.offset - off by omega]
    exact hz)
  exact ⟨(x, x'), ⟨cs.take d.sz, cs.drop d.sz, (List.take_append_drop _ _).symm, hx, hx'⟩, gx, gx'⟩

theorem opens_struct {α β : Type} {t : TypeId} {fs : Array Field} {d : Kd α} {good : α → Prop} (ht : P.underlying t = some (.struct fs)) (hc : P.cellsOf t = d.sz) (hf : OpensF P fs.toList 0 d good)
    (p : β → α) (q : α → β) (hpq : ∀ a, p (q a) = a) : Opens P t (Kd.iso d p) (fun x => good (p x)) := by
  refine ⟨hc, ?_⟩
  intro H enc w base spare held fuel cs y h
  obtain ⟨xs, n, _, _, hl, hlen, hg⟩ := DataW.trod_struct ht h
  obtain ⟨x, hK, hgo⟩ := hf H enc w base spare held n cs (by rw [hl, hc]) (fun f hm => by
    obtain ⟨i, hi⟩ := List.getElem?_of_mem hm
    have hi' : fs[i]? = some f := by rw [← Array.getElem?_toList]; exact hi
    have h1 := hg i f hi'
    have hil : i < xs.length := by rw [hlen]; exact (Array.getElem?_eq_some_iff.1 hi').1
    exact ⟨xs[i], by rw [Nat.sub_zero, h1, List.getElem?_eq_getElem hil]⟩)
  exact ⟨q x, by show d.K w (p (q x)) cs; rw [hpq]; exact hK, by show good (p (q x)); rw [hpq]; exact hgo⟩
end
end Go.Proofs.Ytlpfobakbgipbaa.Opens
