/- The pure statement behind the law FnExactFollowAt: over numbers and lists the law answers true, at every input that the row's bounds let in. -/
import Derived.Test.YtgcidlnhgpjdpadQFnExactFollowAtx8
import Derived.Test.YtgcidlnhgpjdpadQFnExactFollowAtg
namespace Go.Proofs.Ytgcidlnhgpjdpad.Pure
open Go Go.RowKit Go.Proofs.Ytgcidlnhgpjdpad.QFnExactFollowAt Go.Proofs.YtgcidlnhgpjdpadW.PrintWords Go.Proofs.YtgcidlnhgpjdpadW.PrintLast Go.Proofs.YtgcidlnhgpjdpadW.PrintMore
set_option linter.unusedVariables false
set_option linter.unusedSimpArgs false
set_option maxRecDepth 100000

theorem w64 {x : Int} (h0 : -9223372036854775808≤x) (h1 : x≤9223372036854775807) : wrap64 x=x:=by unfold wrap64; omega
theorem ev_pos {α : Type} {c : Prop} [Decidable c] {g f : Nat→Option α} {r : α} (h : c) (k : Ev g r) : Ev (fun n => if c then g n else f n) r:=by
 obtain ⟨K,hK⟩:=k
 exact ⟨K,fun n hn => (if_pos h).trans (hK n hn)⟩
theorem ev_neg {α : Type} {c : Prop} [Decidable c] {g f : Nat→Option α} {r : α} (h : ¬ c) (k : Ev f r) : Ev (fun n => if c then g n else f n) r:=by
 obtain ⟨K,hK⟩:=k
 exact ⟨K,fun n hn => (if_neg h).trans (hK n hn)⟩
theorem ev_bind0 {α β : Type} {o : Option α} {f : Nat→α→Option β} {a : α} {r : β} (h : o=some a) (k : Ev (fun n => f n a) r) : Ev (fun n => o.bind (f n)) r:=by
 subst h
 exact k
theorem ev_of {α : Type} {o : Option α} {r : α} (h : o=some r) : Ev (fun _ => o) r:=⟨0,fun _ _ => h⟩
theorem rd_at (xs : List Int) (i : Nat) (h : i < xs.length) : rd xs (i : Int)=xs[i]:=by
 unfold rd
 rw [Int.toNat_natCast,List.getD_eq_getElem?_getD,List.getElem?_eq_getElem h]
 rfl
theorem set_take {out xs : List Int} {i : Nat} (h : out.take i=xs.take i) (hl : out.length=xs.length) (hi : i < xs.length) : (out.set ((i : Int)).toNat (rd xs i)).take (i+1)=xs.take (i+1):=by
 rw [rd_at xs i hi,Int.toNat_natCast,List.take_succ_eq_append_getElem hi,List.take_succ_eq_append_getElem (by rw [List.length_set]; omega)]
 rw [List.take_set_of_le (Nat.le_refl _),h]
 simp
def seqFrom (m : Int) (n : Nat) : List Int:=(List.range n).map fun (j : Nat) => m+(j : Int)
theorem seqFrom_length (m : Int) (n : Nat) : (seqFrom m n).length=n:=by simp [seqFrom]
theorem seqFrom_get (m : Int) (n i : Nat) (h : i < n) : (seqFrom m n)[i]'(by rw [seqFrom_length]; exact h)=m+(i : Int):=by simp [seqFrom]
theorem seq_set {x ys : List Int} {i : Nat} (h : x.take i=ys.take i) (hl : x.length=ys.length) (hi : i < ys.length) {v : Int} (hv : ys[i]=v) : (x.set ((i : Int)).toNat v).take (i+1)=ys.take (i+1):=by
 subst hv
 rw [Int.toNat_natCast,List.take_succ_eq_append_getElem hi,List.take_succ_eq_append_getElem (by rw [List.length_set]; omega)]
 rw [List.take_set_of_le (Nat.le_refl _),h]
 simp
theorem toIntS_l0 (xs : List Int) (hn : xs.length≤35184372088832) : ∀ (d i : Nat) (out : List Int),i+d=xs.length→out.length=xs.length→out.take i=xs.take i→Ev (fun k => laws_toIntS.l0 k xs out (i : Int)) xs:=by
 intro d
 induction d with
 | zero =>
  intro i out hd hl ht
  refine Ev.step (fun _ => laws_toIntS.l0.eq_2 ..) (ev_neg (by omega) (ev_of ?_))
  rw [List.take_of_length_le (by omega),List.take_of_length_le (by omega)] at ht
  rw [ht]
 | succ d ih =>
  intro i out hd hl ht
  refine Ev.step (fun _ => laws_toIntS.l0.eq_2 ..) (ev_pos (by omega) (ev_pos (by omega) (ev_pos (by omega) ?_)))
  rw [w64 (by omega) (by omega)]
  exact ih (i+1) _ (by omega) (by rw [List.length_set]; exact hl) (set_take ht hl (by omega))
theorem toIntS_ev (xs : List Int) (hn : xs.length≤35184372088832) : Ev (fun k => laws_toIntS.f k xs) xs:=by
 unfold laws_toIntS.f
 refine ev_pos (by omega) (ev_pos (by omega) ?_)
 exact toIntS_l0 xs hn xs.length 0 _ (by omega) (by simp) (by simp)
theorem eqIntS_l0 (xs : List Int) (hn : xs.length≤9223372036854775807) : ∀ (d i : Nat),i+d=xs.length→Ev (fun k => laws_eqIntS.l0 k xs xs (i : Int)) true:=by
 intro d
 induction d with
 | zero =>
  intro i hd
  exact Ev.step (fun _ => laws_eqIntS.l0.eq_2 ..) (ev_neg (by omega) (Ev.now true))
 | succ d ih =>
  intro i hd
  refine Ev.step (fun _ => laws_eqIntS.l0.eq_2 ..) (ev_pos (by omega) (ev_pos (by omega) (ev_pos (by omega) (ev_pos rfl ?_))))
  rw [w64 (by omega) (by omega)]
  exact ih (i+1) (by omega)
theorem eqIntS_same (xs : List Int) (hn : xs.length≤9223372036854775807) : Ev (fun k => laws_eqIntS.f k xs xs) true:=by
 unfold laws_eqIntS.f
 exact ev_pos rfl (eqIntS_l0 xs hn xs.length 0 (by omega))
theorem markIntS_l0 : ∀ (d i : Nat) (m : Int) (x : List Int) (s : Int) (n : Nat),n=x.length→i+d=n→m=s+(i : Int)→0≤s→s+(n : Int)≤4611686018427387904→x.take i=(seqFrom s n).take i→Ev (fun k => laws_markIntS.l0 k x m (i : Int)) (s+(n : Int),seqFrom s n):=by
 intro d
 induction d with
 | zero =>
  intro i m x s n hn hd hm hs hb ht
  refine Ev.step (fun _ => laws_markIntS.l0.eq_2 ..) (ev_neg (by omega) (ev_of ?_))
  rw [List.take_of_length_le (by omega),List.take_of_length_le (by rw [seqFrom_length]; omega)] at ht
  rw [ht,show m=s+(n : Int) by omega]
 | succ d ih =>
  intro i m x s n hn hd hm hs hb ht
  refine Ev.step (fun _ => laws_markIntS.l0.eq_2 ..) (ev_pos (by omega) (ev_pos (by omega) ?_))
  rw [w64 (x:=m+1) (by omega) (by omega),w64 (x:=(i : Int)+1) (by omega) (by omega)]
  exact ih (i+1) (m+1) _ s n (by rw [List.length_set]; exact hn) (by omega) (by omega) hs hb (seq_set ht (by rw [seqFrom_length]; omega) (by rw [seqFrom_length]; omega) (by rw [seqFrom_get _ _ _ (by omega)]; omega))
theorem markIntS_ev (x : List Int) (s : Int) (hs : 0≤s) (hb : s+(x.length : Int)≤4611686018427387904) : Ev (fun k => laws_markIntS.f k x s) (s+(x.length : Int),seqFrom s x.length):=by
 unfold laws_markIntS.f
 exact markIntS_l0 x.length 0 s x s x.length rfl (by omega) (by omega) hs hb rfl
theorem heldIntS_l0 (s : Int) (n : Nat) (hs : 0≤s) (hb : s+(n : Int)≤4611686018427387904) : ∀ (d i : Nat) (m : Int),i+d=n→m=s+(i : Int)→Ev (fun k => laws_heldIntS.l0 k (seqFrom s n) m (i : Int)) (s+(n : Int)):=by
 intro d
 induction d with
 | zero =>
  intro i m hd hm
  refine Ev.step (fun _ => laws_heldIntS.l0.eq_2 ..) (ev_neg (by rw [seqFrom_length]; omega) (ev_of ?_))
  rw [show m=s+(n : Int) by omega]
 | succ d ih =>
  intro i m hd hm
  refine Ev.step (fun _ => laws_heldIntS.l0.eq_2 ..) (ev_pos (by rw [seqFrom_length]; omega) (ev_pos (by omega) (ev_pos ?_ ?_)))
  ·rw [rd_at _ i (by rw [seqFrom_length]; omega),seqFrom_get _ _ _ (by omega)]
   omega
  ·rw [w64 (x:=m+1) (by omega) (by omega),w64 (x:=(i : Int)+1) (by omega) (by omega)]
   exact ih (i+1) (m+1) (by omega) (by omega)
theorem heldIntS_ev (s : Int) (n : Nat) (hs : 0≤s) (hb : s+(n : Int)≤4611686018427387904) : Ev (fun k => laws_heldIntS.f k (seqFrom s n) s) (s+(n : Int)):=by
 unfold laws_heldIntS.f
 exact heldIntS_l0 s n hs hb n 0 s (by omega) (by omega)
theorem markResource_ev (a0 : Int) (l : List Int) (a2 a3 a4 s : Int) (hs : 0≤s) (hb : s+(l.length : Int)≤4611686018427387904) : Ev (fun k => laws_markResource.f k a0 l a2 a3 a4 s) (s+(l.length : Int),seqFrom s l.length):=by
 unfold laws_markResource.f
 exact Ev.bind (markIntS_ev l s hs hb) (Ev.now _)
theorem heldResource_ev (a0 : Int) (n : Nat) (a2 a3 a4 s : Int) (hs : 0≤s) (hb : s+(n : Int)≤4611686018427387904) : Ev (fun k => laws_heldResource.f k a0 (seqFrom s n) a2 a3 a4 s) (s+(n : Int)):=by
 unfold laws_heldResource.f
 exact Ev.bind (heldIntS_ev s n hs hb) (ev_neg (by omega) (Ev.now _))
def szR (a : Int) (n : Nat) : Int:=if a - (n : Int) < 0 then -1 else a - (n : Int)
theorem szR_zero (a : Int) (h : 0≤a) : szR a 0=a:=by unfold szR; rw [if_neg (by omega)]; omega
theorem szR_neg (a : Int) (n m : Nat) (h : szR a n < 0) : szR a (n+m)=-1:=by
 unfold szR at h ⊢
 by_cases c : a - (n : Int) < 0
 ·rw [if_pos (by omega)]
 ·rw [if_neg c] at h
  omega
theorem szR_neg1 (a : Int) (n : Nat) (h : szR a n < 0) : szR a n=-1:=by
 have:=szR_neg a n 0 h
 rwa [Nat.add_zero] at this
theorem szR_add (a : Int) (n m : Nat) (h : ¬ szR a n < 0) : szR (szR a n) m=szR a (n+m):=by
 unfold szR at h ⊢
 by_cases c : a - (n : Int) < 0
 ·rw [if_pos c] at h
  omega
 ·rw [if_neg c]
  by_cases d : a - (n : Int) - (m : Int) < 0
  ·rw [if_pos d,if_pos (by omega)]
  ·rw [if_neg d,if_neg (by omega)]
   omega
theorem szR_le (a : Int) (n : Nat) (h : ¬ szR a n < 0) : (n : Int)≤a:=by
 unfold szR at h
 by_cases c : a - (n : Int) < 0
 ·rw [if_pos c] at h
  omega
 ·omega
theorem szR_range (a : Int) (n : Nat) (h : ¬ szR a n < 0) : 0≤szR a n∧szR a n≤a:=by
 have:=szR_le a n h
 unfold szR at h ⊢
 rw [if_neg (by omega)]
 omega
theorem szIntS_val (l : List Int) (a : Int) (h0 : 0≤a) (h1 : a≤9223372036854775807) (hl : l.length≤9223372036854775807) : laws_szIntS.f l a=some (szR a l.length):=by
 unfold laws_szIntS.f szR
 rw [w64 (by omega) (by omega)]
 split <;> rfl
theorem some_neg {a : Int} (h : a < 0→a=-1) : (if a < 0 then some (-1) else some a)=some a:=by
 split
 ·rw [h (by assumption)]
 ·rfl
theorem getD_at {α : Type} (xs : List α) (z : α) (i : Nat) (h : i < xs.length) : xs.getD ((i : Int)).toNat z=xs[i]:=by
 rw [Int.toNat_natCast,List.getD_eq_getElem?_getD,List.getElem?_eq_getElem h]
 rfl
theorem set_takeG {α : Type} {out ys : List α} {i : Nat} (h : out.take i=ys.take i) (hl : out.length=ys.length) (hi : i < ys.length) {v : α} (hv : ys[i]=v) : (out.set ((i : Int)).toNat v).take (i+1)=ys.take (i+1):=by
 subst hv
 rw [Int.toNat_natCast,List.take_succ_eq_append_getElem hi,List.take_succ_eq_append_getElem (by rw [List.length_set]; omega)]
 rw [List.take_set_of_le (Nat.le_refl _),h]
 simp
def sumLen {α : Type} (f : α→List Int) (xs : List α) : Nat:=(xs.map fun x => (f x).length).sum
theorem sumLen_cons {α : Type} (f : α→List Int) (x : α) (xs : List α) : sumLen f (x :: xs)=(f x).length+sumLen f xs:=by simp [sumLen]
theorem sumLen_mem {α : Type} (f : α→List Int) : ∀ (xs : List α) (x : α),x ∈ xs→(f x).length≤sumLen f xs
 | y :: xs,x,h => by
  rw [sumLen_cons]
  rcases List.mem_cons.1 h with rfl | h
  ·omega
  ·have:=sumLen_mem f xs x h
   omega
theorem szResource_val (a0 : Int) (l : List Int) (a2 a3 a4 a : Int) (h0 : 0≤a) (h1 : a≤9223372036854775807) (hl : l.length≤9223372036854775807) : laws_szResource.f a0 l a2 a3 a4 a=some (szR a l.length):=by
 unfold laws_szResource.f
 rw [szIntS_val l a h0 h1 hl,Option.bind_some]
 exact some_neg (szR_neg1 a _)
theorem toResource_ev (a0 : Int) (l : List Int) (a2 a3 a4 : Int) (hn : l.length≤35184372088832) : Ev (fun k => laws_toResource.f k a0 l a2 a3 a4) (a0,l,a2,a3,a4):=by
 unfold laws_toResource.f laws_toAddress.f
 exact Ev.bind (toIntS_ev l hn) (Ev.now _)
theorem eqAddress_same (a b c : Int) : laws_eqAddress.f a b c a b c=some true:=by
 unfold laws_eqAddress.f
 rw [if_pos rfl,if_pos rfl,if_pos rfl]
theorem eqResource_same (a0 : Int) (l : List Int) (a2 a3 a4 : Int) (hn : l.length≤9223372036854775807) : Ev (fun k => laws_eqResource.f k a0 l a2 a3 a4 a0 l a2 a3 a4) true:=by
 unfold laws_eqResource.f
 refine ev_pos rfl (Ev.bind (eqIntS_same l hn) (ev_pos rfl (ev_bind0 (eqAddress_same _ _ _) (ev_pos rfl (Ev.now _)))))
theorem rd0Version (xs : List S80) (i : Nat) (h : i < xs.length) : rd_T80 xs (i : Int)=xs[i]:=getD_at xs z80 i h
theorem rd1Version (xs : List S82) (i : Nat) (h : i < xs.length) : rd_T82 xs (i : Int)=xs[i]:=getD_at xs z82 i h
def ls0Version (x : S80) : List Int:=x.f2.f1
def ls1Version (x : S82) : List Int:=x.f2.f1
def convVersion (x : S80) : S82:=⟨⟨x.f0.f0,x.f0.f1,x.f0.f2⟩,x.f1,⟨x.f2.f0,x.f2.f1,⟨x.f2.f2.f0,x.f2.f2.f1,x.f2.f2.f2⟩⟩⟩
theorem szVersion_val (x : S80) (a : Int) (h0 : 0≤a) (h1 : a≤9223372036854775807) (hl : (ls0Version x).length≤9223372036854775807) : laws_szVersion.f x.f0.f0 x.f0.f1 x.f0.f2 x.f1 x.f2.f0 x.f2.f1 x.f2.f2.f0 x.f2.f2.f1 x.f2.f2.f2 a=some (szR a (ls0Version x).length):=by
 unfold laws_szVersion.f
 refine (congrArg (fun o => Option.bind o _) (szResource_val _ _ _ _ _ a h0 h1 hl)).trans ?_
 exact some_neg (szR_neg1 a _)
theorem szVersionS_l0 (xs : List S80) (hi : ∀ x ∈ xs,(ls0Version x).length≤9223372036854775807) (hn : xs.length≤9223372036854775806) : ∀ (d i : Nat) (a : Int),i+d=xs.length→0≤a→a≤9223372036854775807→Ev (fun k => laws_szVersionS.l0 k xs a (i : Int)) (szR a (sumLen ls0Version (xs.drop i))):=by
 intro d
 induction d with
 | zero =>
  intro i a hd h0 h1
  refine Ev.step (fun _ => laws_szVersionS.l0.eq_2 ..) (ev_neg (by omega) (ev_of ?_))
  rw [List.drop_eq_nil_of_le (by omega)]
  exact congrArg some (szR_zero a h0).symm
 | succ d ih =>
  intro i a hd h0 h1
  refine Ev.step (fun _ => laws_szVersionS.l0.eq_2 ..) (ev_pos (by omega) (ev_pos (by omega) ?_))
  have hlt : i < xs.length:=by omega
  rw [rd0Version xs i hlt,List.drop_eq_getElem_cons hlt,sumLen_cons]
  refine ev_bind0 (szVersion_val _ a h0 h1 (hi _ (List.getElem_mem hlt))) ?_
  by_cases c : szR a (ls0Version (xs[i]'hlt)).length < 0
  ·refine ev_pos c (ev_of ?_)
   rw [szR_neg _ _ _ c]
  ·refine ev_neg c ?_
   have hr:=szR_range _ _ c
   rw [w64 (x:=(i : Int)+1) (by omega) (by omega),← szR_add _ _ _ c]
   exact ih (i+1) _ (by omega) (by omega) (by omega)
theorem szVersionS_ev (xs : List S80) (a : Int) (h0 : 0≤a) (h1 : a≤9223372036854775806) (hl : xs.length≤9223372036854775807) (hi : ∀ x ∈ xs,(ls0Version x).length≤9223372036854775807) : Ev (fun k => laws_szVersionS.f k xs a) (szR a (xs.length+sumLen ls0Version xs)):=by
 unfold laws_szVersionS.f
 rw [w64 (by omega) (by omega)]
 by_cases c : a - (xs.length : Int) < 0
 ·refine ev_pos c (ev_of ?_)
  rw [szR_neg _ _ _ (by unfold szR; rw [if_pos c]; omega)]
 ·refine ev_neg c ?_
  have e : szR a xs.length=a - (xs.length : Int):=by unfold szR; rw [if_neg c]
  have h:=szVersionS_l0 xs hi (by omega) xs.length 0 (a - (xs.length : Int)) (by omega) (by omega) (by omega)
  rw [List.drop_zero,← e,szR_add _ _ _ (by rw [e]; exact c),e] at h
  exact h
theorem toVersion_ev (x : S80) (hn : (ls0Version x).length≤35184372088832) : Ev (fun k => laws_toVersion.f k x.f0.f0 x.f0.f1 x.f0.f2 x.f1 x.f2.f0 x.f2.f1 x.f2.f2.f0 x.f2.f2.f1 x.f2.f2.f2) (x.f0.f0,x.f0.f1,x.f0.f2,x.f1,x.f2.f0,x.f2.f1,x.f2.f2.f0,x.f2.f2.f1,x.f2.f2.f2):=by
 unfold laws_toVersion.f laws_toAddress.f
 exact ev_bind0 rfl (Ev.bind (toResource_ev _ _ _ _ _ hn) (Ev.now _))
theorem toVersionS_l0 (xs : List S80) (hn : xs.length≤1048576) (hi : ∀ x ∈ xs,(ls0Version x).length≤35184372088832) : ∀ (d i : Nat) (out : List S82),i+d=xs.length→out.length=xs.length→out.take i=(xs.map convVersion).take i→Ev (fun k => laws_toVersionS.l0 k xs out (i : Int)) (xs.map convVersion):=by
 intro d
 induction d with
 | zero =>
  intro i out hd hl ht
  refine Ev.step (fun _ => laws_toVersionS.l0.eq_2 ..) (ev_neg (by omega) (ev_of ?_))
  rw [List.take_of_length_le (by omega),List.take_of_length_le (by rw [List.length_map]; omega)] at ht
  rw [ht]
 | succ d ih =>
  intro i out hd hl ht
  have hlt : i < xs.length:=by omega
  refine Ev.step (fun _ => laws_toVersionS.l0.eq_2 ..) (ev_pos (by omega) (ev_pos (by omega) ?_))
  rw [rd0Version xs i hlt]
  refine Ev.bind (toVersion_ev _ (hi _ (List.getElem_mem hlt))) (ev_pos (by omega) ?_)
  rw [w64 (by omega) (by omega)]
  exact ih (i+1) _ (by omega) (by rw [List.length_set]; exact hl) (set_takeG ht (by rw [List.length_map]; exact hl) (by rw [List.length_map]; exact hlt) (by rw [List.getElem_map]; rfl))
theorem toVersionS_ev (xs : List S80) (hn : xs.length≤1048576) (hi : ∀ x ∈ xs,(ls0Version x).length≤35184372088832) : Ev (fun k => laws_toVersionS.f k xs) (xs.map convVersion):=by
 unfold laws_toVersionS.f
 refine ev_pos (by omega) (ev_pos (by omega) ?_)
 exact toVersionS_l0 xs hn hi xs.length 0 _ (by omega) (by simp) (by simp)
theorem eqVersion_same (x : S82) (hn : (ls1Version x).length≤9223372036854775807) : Ev (fun k => laws_eqVersion.f k x.f0.f0 x.f0.f1 x.f0.f2 x.f1 x.f2.f0 x.f2.f1 x.f2.f2.f0 x.f2.f2.f1 x.f2.f2.f2 x.f0.f0 x.f0.f1 x.f0.f2 x.f1 x.f2.f0 x.f2.f1 x.f2.f2.f0 x.f2.f2.f1 x.f2.f2.f2) true:=by
 unfold laws_eqVersion.f
 exact ev_bind0 (eqAddress_same _ _ _) (ev_pos rfl (ev_pos rfl (Ev.bind (eqResource_same _ _ _ _ _ hn) (ev_pos rfl (Ev.now _)))))
theorem eqVersionS_l0 (xs : List S82) (hn : xs.length≤9223372036854775806) (hi : ∀ x ∈ xs,(ls1Version x).length≤9223372036854775807) : ∀ (d i : Nat),i+d=xs.length→Ev (fun k => laws_eqVersionS.l0 k xs xs (i : Int)) true:=by
 intro d
 induction d with
 | zero =>
  intro i hd
  exact Ev.step (fun _ => laws_eqVersionS.l0.eq_2 ..) (ev_neg (by omega) (Ev.now true))
 | succ d ih =>
  intro i hd
  have hlt : i < xs.length:=by omega
  refine Ev.step (fun _ => laws_eqVersionS.l0.eq_2 ..) (ev_pos (by omega) (ev_pos (by omega) (ev_pos (by omega) ?_)))
  rw [rd1Version xs i hlt]
  refine Ev.bind (eqVersion_same _ (hi _ (List.getElem_mem hlt))) (ev_pos rfl ?_)
  rw [w64 (by omega) (by omega)]
  exact ih (i+1) (by omega)
theorem eqVersionS_same (xs : List S82) (hn : xs.length≤9223372036854775806) (hi : ∀ x ∈ xs,(ls1Version x).length≤9223372036854775807) : Ev (fun k => laws_eqVersionS.f k xs xs) true:=by
 unfold laws_eqVersionS.f
 exact ev_pos rfl (eqVersionS_l0 xs hn hi xs.length 0 (by omega))
abbrev Res5:=Int × List Int × Int × Int × Int
def ansStep (a b c tick : Int) (r : Res5) (x : S82) : Res5:=if (x.f0.f0 == a && (x.f0.f1 == b && (x.f0.f2 == c)))=true∧x.f1≤tick then (x.f2.f0,x.f2.f1,x.f2.f2.f0,x.f2.f2.f1,x.f2.f2.f2) else r
def ansOf (xs : List S82) (a b c tick : Int) : Res5:=xs.foldl (ansStep a b c tick) (4,[],0,0,0)
theorem ansStep_yes (a b c tick : Int) (r : Res5) (x : S82) (h : (x.f0.f0 == a && (x.f0.f1 == b && (x.f0.f2 == c)))=true) (h2 : x.f1≤tick) : ansStep a b c tick r x=(x.f2.f0,x.f2.f1,x.f2.f2.f0,x.f2.f2.f1,x.f2.f2.f2):=if_pos ⟨h,h2⟩
theorem ansStep_no (a b c tick : Int) (r : Res5) (x : S82) (h : ¬ ((x.f0.f0 == a && (x.f0.f1 == b && (x.f0.f2 == c)))=true∧x.f1≤tick)) : ansStep a b c tick r x=r:=if_neg h
theorem ansOf_len (n : Nat) (xs : List S82) (a b c tick : Int) (hi : ∀ x ∈ xs,(ls1Version x).length≤n) : ∀ (r : Res5),r.2.1.length≤n→(xs.foldl (ansStep a b c tick) r).2.1.length≤n:=by
 induction xs with
 | nil => exact fun r h => h
 | cons x xs ih =>
  intro r hr
  rw [List.foldl_cons]
  refine ih (fun y hy => hi y (List.mem_cons_of_mem _ hy)) _ ?_
  by_cases h : (x.f0.f0 == a && (x.f0.f1 == b && (x.f0.f2 == c)))=true∧x.f1≤tick
  ·rw [ansStep_yes _ _ _ _ _ _ h.1 h.2]; exact hi x (List.mem_cons_self ..)
  ·rw [ansStep_no _ _ _ _ _ _ h]; exact hr
theorem l5Copy_val (a : Int) (l : List Int) (b c d : Int) (hl : l.length≤1048576) : spec_l5Copy.f a l b c d=some (a,l,b,c,d):=by
 unfold spec_l5Copy.f
 rw [Option.bind_some,if_pos (by simp; omega),List.nil_append]
theorem copyResource_val (a : Int) (l : List Int) (b c d : Int) (hl : l.length≤1048576) : impl_copyResource.f a l b c d=some (a,l,b,c,d):=by
 unfold impl_copyResource.f slices_Clone_int_int.f
 rw [Option.bind_some,if_pos (by simp; omega),List.nil_append,Option.bind_some]
theorem spec_AnswerAt_l0 (xs : List S82) (tick a b c : Int) (hn : xs.length≤1048576) (hi : ∀ x ∈ xs,(ls1Version x).length≤1048576) : ∀ (d i : Nat) (r0 : Int) (r1 : List Int) (r2 r3 r4 : Int),i+d=xs.length→Ev (fun k => spec_AnswerAt.l0 k xs tick (i : Int) a b c r0 r1 r2 r3 r4) ((xs.drop i).foldl (ansStep a b c tick) (r0,r1,r2,r3,r4)):=by
 intro d
 induction d with
 | zero =>
  intro i r0 r1 r2 r3 r4 hd
  refine Ev.step (fun _ => spec_AnswerAt.l0.eq_2 ..) (ev_neg (by omega) (ev_of ?_))
  rw [List.drop_eq_nil_of_le (by omega)]
  rfl
 | succ d ih =>
  intro i r0 r1 r2 r3 r4 hd
  have hlt : i < xs.length:=by omega
  refine Ev.step (fun _ => spec_AnswerAt.l0.eq_2 ..) (ev_pos (by omega) (ev_pos (by omega) ?_))
  rw [rd1Version xs i hlt,List.drop_eq_getElem_cons hlt,List.foldl_cons,w64 (x:=(i : Int)+1) (by omega) (by omega)]
  by_cases h : ((xs[i].f0.f0 == a && (xs[i].f0.f1 == b && (xs[i].f0.f2 == c)))=true)
  ·by_cases h2 : xs[i].f1≤tick
   ·rw [ansStep_yes _ _ _ _ _ _ h h2]
    exact ev_pos h (ev_pos h2 (ev_bind0 (l5Copy_val _ _ _ _ _ (hi _ (List.getElem_mem hlt))) (ih (i+1) _ _ _ _ _ (by omega))))
   ·rw [ansStep_no _ _ _ _ _ _ (fun w => h2 w.2)]
    exact ev_pos h (ev_neg h2 (ih (i+1) _ _ _ _ _ (by omega)))
  ·rw [ansStep_no _ _ _ _ _ _ (fun w => h w.1)]
   exact ev_neg h (ih (i+1) _ _ _ _ _ (by omega))
theorem spec_AnswerAt_ev (xs : List S82) (a b c tick : Int) (hn : xs.length≤1048576) (hi : ∀ x ∈ xs,(ls1Version x).length≤1048576) : Ev (fun k => spec_AnswerAt.f k xs a b c tick) (ansOf xs a b c tick):=by
 unfold spec_AnswerAt.f
 exact spec_AnswerAt_l0 xs tick a b c hn hi xs.length 0 _ _ _ _ _ (Nat.zero_add _)
theorem impl_AnswerAt_l0 (xs : List S82) (tick a b c : Int) (hn : xs.length≤1048576) (hi : ∀ x ∈ xs,(ls1Version x).length≤1048576) : ∀ (i : Nat),i≤xs.length→Ev (fun k => impl_AnswerAt.l0 k xs tick ((i : Int) - 1) a b c) (ansOf (xs.take i) a b c tick):=by
 intro i
 induction i with
 | zero =>
  intro _
  exact Ev.step (fun _ => impl_AnswerAt.l0.eq_2 ..) (ev_neg (by omega) (ev_of rfl))
 | succ i ih =>
  intro hd
  have hlt : i < xs.length:=by omega
  have e : ((i+1 : Nat) : Int) - 1=(i : Int):=by omega
  rw [e]
  refine Ev.step (fun _ => impl_AnswerAt.l0.eq_2 ..) (ev_pos (by omega) (ev_pos (by omega) (ev_pos (by omega) ?_)))
  have et : ansOf (xs.take (i+1)) a b c tick=ansStep a b c tick (ansOf (xs.take i) a b c tick) (xs[i]'hlt):=by
   unfold ansOf
   rw [List.take_succ_eq_append_getElem hlt,List.foldl_append]
   rfl
  rw [rd1Version xs i hlt,et,w64 (x:=(i : Int) - 1) (by omega) (by omega)]
  by_cases h : ((xs[i].f0.f0 == a && (xs[i].f0.f1 == b && (xs[i].f0.f2 == c)))=true)
  ·by_cases h2 : xs[i].f1≤tick
   ·rw [ansStep_yes _ _ _ _ _ _ h h2]
    exact ev_pos h (ev_pos h2 (ev_bind0 (copyResource_val _ _ _ _ _ (hi _ (List.getElem_mem hlt))) (Ev.now _)))
   ·rw [ansStep_no _ _ _ _ _ _ (fun w => h2 w.2)]
    exact ev_pos h (ev_neg h2 (ih (by omega)))
  ·rw [ansStep_no _ _ _ _ _ _ (fun w => h w.1)]
   exact ev_neg h (ih (by omega))
theorem impl_AnswerAt_ev (xs : List S82) (a b c tick : Int) (hn : xs.length≤1048576) (hi : ∀ x ∈ xs,(ls1Version x).length≤1048576) : Ev (fun k => impl_AnswerAt.f k xs a b c tick) (ansOf xs a b c tick):=by
 unfold impl_AnswerAt.f
 rw [w64 (by omega) (by omega)]
 have h:=impl_AnswerAt_l0 xs tick a b c hn hi xs.length (Nat.le_refl _)
 rw [List.take_length] at h
 exact h
theorem rd37 (xs : List S37) (i : Nat) (h : i < xs.length) : rd_T37 xs (i : Int)=xs[i]:=getD_at xs z37 i h
def isA (a b c : Int) (x : S37) : Bool:=x.f0 == a && (x.f1 == b && (x.f2 == c))
theorem spec_l9Has_l0 (xs : List S37) (a b c : Int) (hn : xs.length≤1048576) : ∀ (d i : Nat),i+d=xs.length→Ev (fun k => spec_l9Has.l0 k xs (i : Int) a b c) ((xs.drop i).any (isA a b c)):=by
 intro d
 induction d with
 | zero =>
  intro i hd
  refine Ev.step (fun _ => spec_l9Has.l0.eq_2 ..) (ev_neg (by omega) (ev_of ?_))
  rw [List.drop_eq_nil_of_le (by omega)]
  rfl
 | succ d ih =>
  intro i hd
  have hlt : i < xs.length:=by omega
  refine Ev.step (fun _ => spec_l9Has.l0.eq_2 ..) (ev_pos (by omega) (ev_pos (by omega) ?_))
  rw [rd37 xs i hlt,List.drop_eq_getElem_cons hlt,List.any_cons,w64 (x:=(i : Int)+1) (by omega) (by omega)]
  by_cases h : isA a b c xs[i]=true
  ·rw [h,Bool.true_or]
   exact ev_pos h (Ev.now _)
  ·rw [Bool.eq_false_iff.2 h,Bool.false_or]
   exact ev_neg h (ih (i+1) (by omega))
theorem impl_Address_92_l0 (xs : List S37) (a b c : Int) (hn : xs.length≤1048576) : ∀ (d i : Nat),i+d=xs.length→∃ t,Ev (fun k => impl_Address_92.l0 k xs (xs.length : Int) (i : Int) a b c) t∧decide (t ≥ 0)=(xs.drop i).any (isA a b c):=by
 intro d
 induction d with
 | zero =>
  intro i hd
  refine ⟨-1,Ev.step (fun _ => impl_Address_92.l0.eq_2 ..) (ev_neg (by omega) (Ev.now _)),?_⟩
  rw [List.drop_eq_nil_of_le (by omega)]
  rfl
 | succ d ih =>
  intro i hd
  have hlt : i < xs.length:=by omega
  have e : (a == (xs[i]).f0 && (b == (xs[i]).f1 && (c == (xs[i]).f2)))=isA a b c xs[i]:=by
   unfold isA
   rw [show (a == (xs[i]).f0)=((xs[i]).f0 == a) from BEq.comm,show (b == (xs[i]).f1)=((xs[i]).f1 == b) from BEq.comm,show (c == (xs[i]).f2)=((xs[i]).f2 == c) from BEq.comm]
  rw [List.drop_eq_getElem_cons hlt,List.any_cons]
  by_cases h : isA a b c xs[i]=true
  ·rw [h,Bool.true_or]
   refine ⟨(i : Int),Ev.step (fun _ => impl_Address_92.l0.eq_2 ..) (ev_pos (by omega) (ev_pos (by omega) (ev_pos (by omega) ?_))),decide_eq_true (by omega)⟩
   rw [rd37 xs i hlt,e]
   exact ev_pos h (Ev.now _)
  ·rw [Bool.eq_false_iff.2 h,Bool.false_or]
   obtain ⟨t,ht,hv⟩:=ih (i+1) (by omega)
   refine ⟨t,Ev.step (fun _ => impl_Address_92.l0.eq_2 ..) (ev_pos (by omega) (ev_pos (by omega) (ev_pos (by omega) ?_))),hv⟩
   rw [rd37 xs i hlt,e,w64 (x:=(i : Int)+1) (by omega) (by omega)]
   exact ev_neg h ht
theorem spec_l9Has_ev (xs : List S37) (a b c : Int) (hn : xs.length≤1048576) : Ev (fun k => spec_l9Has.f k xs a b c) (xs.any (isA a b c)):=spec_l9Has_l0 xs a b c hn xs.length 0 (Nat.zero_add _)
theorem impl_has_ev (xs : List S37) (a b c : Int) (hn : xs.length≤1048576) : Ev (fun k => impl_Address_74.f k xs a b c) (xs.any (isA a b c)):=by
 unfold impl_Address_74.f impl_Address_92.f
 obtain ⟨t,ht,hv⟩:=impl_Address_92_l0 xs a b c hn xs.length 0 (Nat.zero_add _)
 refine Ev.bind ht (ev_of ?_)
 exact congrArg some hv
abbrev Res6:=Int × List Int × Int × Int × Int × (List (S37))
theorem follow_l0 (xs : List S82) (tick : Int) (hn : xs.length≤1048576) (hi : ∀ x ∈ xs,(ls1Version x).length≤1048576) : ∀ (d : Nat) (asked : List S37) (r0 : Int) (l : List Int) (r2 r3 r4 : Int),asked.length+d=5→l.length≤1048576→∃ R : Res6,Ev (fun k => spec_FollowAt.l0 k xs tick asked r0 l r2 r3 r4) R∧Ev (fun k => impl_FollowAt.l0 k xs tick asked r0 l r2 r3 r4) R∧R.2.1.length≤1048576∧R.2.2.2.2.2.length≤5:=by
 intro d
 induction d with
 | zero =>
  intro asked r0 l r2 r3 r4 hd hl
  refine ⟨(r0,l,r2,r3,r4,asked),?_,?_,hl,by show asked.length≤5; omega⟩
  ·refine Ev.step (fun _ => spec_FollowAt.l0.eq_2 ..) ?_
   by_cases h0 : r0=3
   ·exact ev_pos h0 (ev_neg (by omega) (Ev.now _))
   ·exact ev_neg h0 (Ev.now _)
  ·refine Ev.step (fun _ => impl_FollowAt.l0.eq_2 ..) ?_
   by_cases h0 : r0=3
   ·exact ev_pos h0 (ev_neg (by omega) (Ev.now _))
   ·exact ev_neg h0 (Ev.now _)
 | succ d ih =>
  intro asked r0 l r2 r3 r4 hd hl
  by_cases h0 : r0=3
  ·by_cases hh : asked.any (isA r2 r3 r4)=true
   ·exact ⟨(r0,l,r2,r3,r4,asked),Ev.step (fun _ => spec_FollowAt.l0.eq_2 ..) (ev_pos h0 (ev_pos (by omega) (Ev.bind (spec_l9Has_ev asked r2 r3 r4 (by omega)) (ev_pos hh (Ev.now _))))),Ev.step (fun _ => impl_FollowAt.l0.eq_2 ..) (ev_pos h0 (ev_pos (by omega) (Ev.bind (impl_has_ev asked r2 r3 r4 (by omega)) (ev_pos hh (Ev.now _))))),hl,by show asked.length≤5; omega⟩
   ·have e1:=spec_AnswerAt_ev xs r2 r3 r4 tick hn hi
    have e2:=impl_AnswerAt_ev xs r2 r3 r4 tick hn hi
    have hr : (ansOf xs r2 r3 r4 tick).2.1.length≤1048576:=ansOf_len 1048576 _ _ _ _ _ hi _ (by simp)
    generalize ansOf xs r2 r3 r4 tick=q at e1 e2 hr
    obtain ⟨R,s1,s2,h1,h2⟩:=ih (asked ++ [(⟨r2,r3,r4⟩ : S37)]) q.1 q.2.1 q.2.2.1 q.2.2.2.1 q.2.2.2.2 (by rw [List.length_append,List.length_singleton]; omega) hr
    exact ⟨R,Ev.step (fun _ => spec_FollowAt.l0.eq_2 ..) (ev_pos h0 (ev_pos (by omega) (Ev.bind (spec_l9Has_ev asked r2 r3 r4 (by omega)) (ev_neg hh (ev_pos (by omega) (Ev.bind e1 s1)))))),Ev.step (fun _ => impl_FollowAt.l0.eq_2 ..) (ev_pos h0 (ev_pos (by omega) (Ev.bind (impl_has_ev asked r2 r3 r4 (by omega)) (ev_neg hh (ev_pos (by omega) (Ev.bind e2 s2)))))),h1,h2⟩
  ·exact ⟨(r0,l,r2,r3,r4,asked),Ev.step (fun _ => spec_FollowAt.l0.eq_2 ..) (ev_neg h0 (Ev.now _)),Ev.step (fun _ => impl_FollowAt.l0.eq_2 ..) (ev_neg h0 (Ev.now _)),hl,by show asked.length≤5; omega⟩
theorem follow_ev (xs : List S82) (a b c tick : Int) (hn : xs.length≤1048576) (hi : ∀ x ∈ xs,(ls1Version x).length≤1048576) : ∃ R : Res6,Ev (fun k => spec_FollowAt.f k xs a b c tick) R∧Ev (fun k => impl_FollowAt.f k xs a b c tick) R∧R.2.1.length≤1048576∧R.2.2.2.2.2.length≤5:=by
 have e1:=spec_AnswerAt_ev xs a b c tick hn hi
 have e2:=impl_AnswerAt_ev xs a b c tick hn hi
 have hr : (ansOf xs a b c tick).2.1.length≤1048576:=ansOf_len 1048576 _ _ _ _ _ hi _ (by simp)
 generalize ansOf xs a b c tick=q at e1 e2 hr
 obtain ⟨R,s1,s2,h1,h2⟩:=follow_l0 xs tick hn hi 4 [(⟨a,b,c⟩ : S37)] q.1 q.2.1 q.2.2.1 q.2.2.2.1 q.2.2.2.2 rfl hr
 refine ⟨R,?_,?_,h1,h2⟩
 ·unfold spec_FollowAt.f
  exact Ev.bind e1 s1
 ·unfold impl_FollowAt.f
  exact Ev.bind e2 s2
theorem eqAddressS_l0 (xs : List S37) (hn : xs.length≤1048576) : ∀ (d i : Nat),i+d=xs.length→Ev (fun k => laws_eqAddressS.l0 k xs xs (i : Int)) true:=by
 intro d
 induction d with
 | zero =>
  intro i hd
  exact Ev.step (fun _ => laws_eqAddressS.l0.eq_2 ..) (ev_neg (by omega) (Ev.now true))
 | succ d ih =>
  intro i hd
  have hlt : i < xs.length:=by omega
  refine Ev.step (fun _ => laws_eqAddressS.l0.eq_2 ..) (ev_pos (by omega) (ev_pos (by omega) (ev_pos (by omega) ?_)))
  rw [rd37 xs i hlt]
  refine ev_bind0 (eqAddress_same _ _ _) (ev_pos rfl ?_)
  rw [w64 (by omega) (by omega)]
  exact ih (i+1) (by omega)
theorem eqAddressS_same (xs : List S37) (hn : xs.length≤1048576) : Ev (fun k => laws_eqAddressS.f k xs xs) true:=by
 unfold laws_eqAddressS.f
 exact ev_pos rfl (eqAddressS_l0 xs hn xs.length 0 (by omega))
theorem rd37_same (xs : List S37) (i : Nat) (h : i < xs.length) (v : S37) : rd_T37 (xs.set (i : Int).toNat v) (i : Int)=v:=by
 rw [rd37 _ i (by rw [List.length_set]; exact h)]
 simp
theorem rd37_other (xs : List S37) (i j : Nat) (hj : j < xs.length) (hne : j ≠ i) (v : S37) : rd_T37 (xs.set (i : Int).toNat v) (j : Int)=rd_T37 xs (j : Int):=by
 rw [rd37 _ j (by rw [List.length_set]; exact hj),rd37 xs j hj]
 simp [List.getElem_set,Ne.symm hne]
theorem markAddressS_l0 (s : Int) (n : Nat) (hs : 0≤s) (hb : s+3 * (n : Int)≤4611686018427387904) : ∀ (d i : Nat) (m : Int) (x : List S37),n=x.length→i+d=n→m=s+3 * (i : Int)→(∀ j : Nat,j < i→rd_T37 x (j : Int)=⟨s+3 * (j : Int),s+3 * (j : Int)+1,s+3 * (j : Int)+2⟩)→∃ y : List S37,Ev (fun k => laws_markAddressS.l0 k x m (i : Int)) (s+3 * (n : Int),y)∧y.length=n∧∀ j : Nat,j < n→rd_T37 y (j : Int)=⟨s+3 * (j : Int),s+3 * (j : Int)+1,s+3 * (j : Int)+2⟩:=by
 intro d
 induction d with
 | zero =>
  intro i m x hn hd hm ht
  refine ⟨x,Ev.step (fun _ => laws_markAddressS.l0.eq_2 ..) (ev_neg (by omega) (ev_of ?_)),hn.symm,fun j hj => ht j (by omega)⟩
  rw [show m=s+3 * (n : Int) by omega]
 | succ d ih =>
  intro i m x hn hd hm ht
  have hlt : i < x.length:=by omega
  have key : ∀ (x2 x3 : List S37),x2=x.set (i : Int).toNat (⟨m,(rd_T37 x i).f1,(rd_T37 x i).f2⟩ : S37)→x3=x2.set (i : Int).toNat (⟨(rd_T37 x2 i).f0,m+1,(rd_T37 x2 i).f2⟩ : S37)→∃ y : List S37,Ev (fun k => laws_markAddressS.l0 k (x3.set (i : Int).toNat (⟨(rd_T37 x3 i).f0,(rd_T37 x3 i).f1,m+2⟩ : S37)) (m+3) ((i+1 : Nat) : Int)) (s+3 * (n : Int),y)∧y.length=n∧∀ j : Nat,j < n→rd_T37 y (j : Int)=⟨s+3 * (j : Int),s+3 * (j : Int)+1,s+3 * (j : Int)+2⟩:=by
   intro x2 x3 h2 h3
   have l2 : x2.length=n:=by rw [h2,List.length_set,hn]
   have l3 : x3.length=n:=by rw [h3,List.length_set,l2]
   refine ih (i+1) (m+3) _ (by rw [List.length_set]; exact l3.symm) (by omega) (by omega) (fun j hj => ?_)
   by_cases e : j=i
   ·subst e
    rw [rd37_same _ _ (by omega)]
    have e3 : rd_T37 x3 (j : Int)=⟨m,m+1,(rd_T37 x2 j).f2⟩:=by
     rw [h3,rd37_same _ _ (by omega),h2,rd37_same _ _ (by omega)]
    rw [e3,hm]
   ·rw [rd37_other _ _ _ (by omega) e,h3,rd37_other _ _ _ (by omega) e,h2,rd37_other _ _ _ (by omega) e]
    exact ht j (by omega)
  obtain ⟨y,hy,r⟩:=key _ _ rfl rfl
  refine ⟨y,Ev.step (fun _ => laws_markAddressS.l0.eq_2 ..) (ev_pos (by omega) (ev_pos (by omega) (ev_bind0 rfl (ev_bind0 rfl ?_)))),r⟩
  rw [w64 (x:=m+1) (by omega) (by omega),w64 (x:=m+1+1) (by omega) (by omega),w64 (x:=m+1+1+1) (by omega) (by omega),w64 (x:=(i : Int)+1) (by omega) (by omega),show m+1+1+1=m+3 by omega,show m+1+1=m+2 by omega]
  exact hy
theorem heldAddressS_l0 (s : Int) (n : Nat) (hs : 0≤s) (hb : s+3 * (n : Int)≤4611686018427387904) (y : List S37) (hl : y.length=n) (hy : ∀ j : Nat,j < n→rd_T37 y (j : Int)=⟨s+3 * (j : Int),s+3 * (j : Int)+1,s+3 * (j : Int)+2⟩) : ∀ (d i : Nat) (m : Int),i+d=n→m=s+3 * (i : Int)→Ev (fun k => laws_heldAddressS.l0 k y m (i : Int)) (s+3 * (n : Int)):=by
 intro d
 induction d with
 | zero =>
  intro i m hd hm
  refine Ev.step (fun _ => laws_heldAddressS.l0.eq_2 ..) (ev_neg (by omega) (ev_of ?_))
  rw [show m=s+3 * (n : Int) by omega]
 | succ d ih =>
  intro i m hd hm
  refine Ev.step (fun _ => laws_heldAddressS.l0.eq_2 ..) (ev_pos (by omega) (ev_pos (by omega) ?_))
  rw [hy i (by omega),w64 (x:=m+1) (by omega) (by omega),w64 (x:=m+1+1) (by omega) (by omega),w64 (x:=m+1+1+1) (by omega) (by omega),w64 (x:=(i : Int)+1) (by omega) (by omega)]
  exact ev_pos (by show s+3 * (i : Int)=m; omega) (ev_pos (by show s+3 * (i : Int)+1=m+1; omega) (ev_pos (by show s+3 * (i : Int)+2=m+1+1; omega) (ih (i+1) _ (by omega) (by omega))))
theorem marksAddressS (x : List S37) (s : Int) (hs : 0≤s) (hb : s+3 * (x.length : Int)≤4611686018427387904) : ∃ y : List S37,Ev (fun k => laws_markAddressS.f k x s) (s+3 * (x.length : Int),y)∧Ev (fun k => laws_heldAddressS.f k y s) (s+3 * (x.length : Int)):=by
 obtain ⟨y,h1,h2,h3⟩:=markAddressS_l0 s x.length hs hb x.length 0 s x rfl (by omega) (by omega) (fun j hj => by omega)
 refine ⟨y,?_,?_⟩
 ·unfold laws_markAddressS.f
  exact h1
 ·unfold laws_heldAddressS.f
  exact heldAddressS_l0 s x.length hs hb y h2 h3 x.length 0 s (by omega) (by omega)
theorem bump_val : ∀ (n : Nat) (a : Int),0≤a→a+(n : Int)≤4611686018427387904→bump n a=a+(n : Int):=by
 intro n
 induction n with
 | zero => intro a _ _; show a=_; omega
 | succ n ih =>
  intro a h0 h1
  show bump n (wrap64 (a+1))=_
  rw [w64 (by omega) (by omega),ih (a+1) (by omega) (by omega)]
  omega
theorem markVersion_cnt (l : List S82) : laws_markVersionS.cnt l=8 * l.length+sumLen ls1Version l:=by
 induction l with
 | nil => rfl
 | cons x l ih =>
  unfold laws_markVersionS.cnt at ih ⊢
  rw [List.map_cons,List.sum_cons,ih,sumLen_cons,List.length_cons]
  show 8+(ls1Version x).length+_=_
  omega
theorem markVersion_val (l : List S82) (h : laws_markVersionS.cnt l≤1073741824) : ∃ m,laws_markVersionS.f l 1=some m∧0≤m:=by
 refine ⟨_,rfl,?_⟩
 rw [bump_val _ 1 (by omega) (by omega)]
 omega
theorem sumLen_conv (l : List S80) : sumLen ls1Version (l.map convVersion)=sumLen ls0Version l:=by
 induction l with
 | nil => rfl
 | cons x l ih => rw [List.map_cons,sumLen_cons,sumLen_cons,ih]; rfl
theorem FnExactFollowAt : ∀ (x0 : List (S80)) (x1 : S35) (x2 : Int),(x0.length≤9223372036854775807∧∀ y ∈ x0,g80 y)→(g35 x1)→((Lit.int .i64 x2).wf=true)→∃ k,laws_FnExactFollowAt.f k x0 x1.f0 x1.f1 x1.f2 x2=some true:=by
 intro xs ad tick hg _ _
 obtain ⟨hl,hy⟩:=hg
 have hi : ∀ x ∈ xs,(ls0Version x).length≤9223372036854775807:=fun x hx => (hy x hx).2.2.2.1.1
 refine Ev.rounds (g:=fun k => laws_FnExactFollowAt.f k xs ad.f0 ad.f1 ad.f2 tick) ?_
 unfold laws_FnExactFollowAt.f
 refine Ev.bind (szVersionS_ev xs 1048576 (by omega) (by omega) hl hi) ?_
 by_cases hb : szR 1048576 (xs.length+sumLen ls0Version xs) < 0
 ·exact ev_pos hb (Ev.now true)
 refine ev_neg hb ?_
 have hle:=szR_le _ _ hb
 have hi2 : ∀ x ∈ xs,(ls0Version x).length≤1048576:=fun x hx => by have:=sumLen_mem ls0Version xs x hx; omega
 have hto:=toVersionS_ev xs (by omega) (fun x hx => by have:=hi2 x hx; omega)
 have hlen : (xs.map convVersion).length=xs.length:=List.length_map ..
 have hc : ∀ x ∈ xs.map convVersion,(ls1Version x).length≤1048576:=by
  intro x hx
  obtain ⟨y,hy',rfl⟩:=List.mem_map.1 hx
  exact hi2 y hy'
 obtain ⟨m,hm,hm0⟩:=markVersion_val (xs.map convVersion) (by rw [markVersion_cnt,sumLen_conv,hlen]; omega)
 obtain ⟨r,e1,e2,hr,ha⟩:=follow_ev (xs.map convVersion) ad.f0 ad.f1 ad.f2 tick (by omega) hc
 have hq:=eqResource_same r.1 r.2.1 r.2.2.1 r.2.2.2.1 r.2.2.2.2.1 (by omega)
 have hA:=eqAddressS_same r.2.2.2.2.2 (by omega)
 have hx:=eqVersionS_same (xs.map convVersion) (by omega) (fun x hx => by have:=hc x hx; omega)
 obtain ⟨y,hmk,hhe⟩:=marksAddressS r.2.2.2.2.2 (1+(r.2.1.length : Int)) (by omega) (by omega)
 refine Ev.bind hto (ev_bind0 rfl (Ev.bind e1 (Ev.bind hto (ev_bind0 rfl (Ev.bind e2 (Ev.bind hq (ev_pos rfl (Ev.bind hA ?_))))))))
 refine Ev.step (fun _ => laws_FnExactFollowAt.j0.eq_2 ..) (ev_neg (by decide) ?_)
 refine Ev.bind hto (Ev.bind hx (ev_pos rfl (ev_bind0 hm (ev_neg (by omega) (Ev.bind hq (ev_pos rfl (Ev.bind hA ?_)))))))
 refine Ev.step (fun _ => laws_FnExactFollowAt.j1.eq_2 ..) (ev_neg (by decide) ?_)
 refine Ev.bind (markResource_ev _ _ _ _ _ 1 (by omega) (by omega)) (Ev.bind hmk ?_)
 refine Ev.bind (heldResource_ev _ _ _ _ _ 1 (by omega) (by omega)) (ev_neg (by omega) (Ev.bind hhe (ev_neg (by omega) (ev_pos rfl ?_))))
 refine Ev.bind hto (ev_bind0 rfl (Ev.bind e2 (Ev.bind hq (ev_pos rfl (Ev.bind hA ?_)))))
 refine Ev.step (fun _ => laws_FnExactFollowAt.j2.eq_2 ..) (ev_neg (by decide) ?_)
 exact Ev.bind (heldResource_ev _ _ _ _ _ 1 (by omega) (by omega)) (ev_neg (by omega) (Ev.bind hhe (ev_neg (by omega) (ev_pos rfl (Ev.now true)))))

end Go.Proofs.Ytgcidlnhgpjdpad.Pure
