/- A part of a proof: a machine of abstract values that tells what functions of the program compute, and the plain facts on them. -/
import Derived.Test.YtkcoljbmhmbmbaaGreatAm5
import Derived.ProofKit
import Derived.ChangeArms
import Derived.OpenShut
import Derived.SizedLaws
import Derived.JoinedCond
import Derived.Deep.CondSized
set_option linter.unusedVariables false
set_option linter.unusedSimpArgs false
set_option linter.unnecessarySimpa false
set_option linter.unusedSectionVars false
namespace Go.Am
open Go
def Q5S (H : Heap) : List Nat → List Nat
 | [] => []
 | i :: l => (match H[i]? with | some (some (.vec _ _)) => [] | some (some _) => [i] | _ => []) ++ Q5S H l
def Q1S (H : Heap) (as : List AVal) : List Nat × List Nat :=
 let r := Q3L H 400 [] (idsL as)
 let ps := Qdh as ++ (Q9P H r ++ Q5S H r)
 (Qbf ps true r, Qbf ps false r)
def Q4m (nf : Nat) (H : Heap) (as : List AVal) : List Nat × List Nat :=
 let kp := Q1S H as
 cond (Nat.beq kp.1.length nf) kp (kp.1 ++ kp.2, [])
structure Q19 where
 args : List Tm
 H : List Tm
 nf : Nat
@[reducible] def Q19.T (c : Q19) : StT := ⟨c.args, c.H⟩
def renF (f : Nat → Nat) : AVal → AVal
 | .ptr id p => .ptr (f id) p
 | .sl id p off len => .sl (f id) p off len
 | .vsl id => .vsl (f id)
 | .parr id p off n => .parr (f id) p off n
 | .sfp id p T => .sfp (f id) p T
 | .vbs id => .vbs (f id)
 | .mp id => .mp (f id)
 | .pair a b => .pair (renF f a) (renF f b)
 | .fn g c => .fn g (renF f c)
 | .tup a => .tup (renF f a)
 | .undef => .undef
 | .int k n => .int k n
 | .bool b => .bool b
 | .str s => .str s
 | .nilp => .nilp
 | .nils => .nils
 | .ros t xs => .ros t xs
 | .rop t x => .rop t x
 | .arr n t xs => .arr n t xs
 | .vec t xs => .vec t xs
 | .unit => .unit
 | .nilm => .nilm
 | .mpc k v xs => .mpc k v xs
def Q1c (keep : List Nat) (nf n0 : Nat) (j : Nat) : Nat := cond (Nat.blt j nf) (keep.getD j 0) (n0 + (j - nf))
def Q1A : List Nat → Heap → Heap → Heap
 | i :: is, a :: as, H => Q1A is as (H.set i a)
 | _, _, H => H
def renH (f : Nat → Nat) : Heap → Heap
 | [] => []
 | none :: l => none :: renH f l
 | some a :: l => some (renF f a) :: renH f l
def Qaw : List AVal → AVal
 | [] => .unit
 | a :: l => .pair a (Qaw l)
def resL : List AVal → AVal
 | [v] => v
 | vs => .tup (Qaw vs)
def Q2z (H : Heap) : List Nat → Bool
 | [] => true
 | i :: l => (match H[i]? with | some (some _) => true | _ => false) && Q2z H l
def Q2w (H : Heap) : List Tm → List AVal → Option (List AVal × List Nat)
 | [], [] => some ([], [])
 | .dat t :: ts, a :: as => (argD H t a).bind fun u => (Q2w H ts as).bind fun w => some (toA t u.1 :: w.1, u.2 ++ w.2)
 | _ :: ts, a :: as => (Q2w H ts as).bind fun w => some (a :: w.1, w.2)
 | _, _ => none
def Q4n : AVal → Bool
 | .ros _ _ => false
 | .rop _ _ => false
 | .arr _ t _ => Q2e t
 | .vec t _ => Q2e t
 | .pair a b => Q4n a && Q4n b
 | .fn _ c => Q4n c
 | .tup _ => false
 | .undef => true
 | .int _ _ => true
 | .bool _ => true
 | .str _ => true
 | .nilp => true
 | .nils => true
 | .ptr _ _ => true
 | .sl _ _ _ _ => true
 | .vsl _ => true
 | .parr _ _ _ _ => true
 | .sfp _ _ _ => true
 | .vbs _ => true
 | .mp _ => true
 | .nilm => true
 | .mpc k v _ => Q2e k && Q2e v
 | .unit => true
def Qbq : List AVal → Bool
 | [] => true
 | a :: l => Q4n a && Qbq l
def Q8Q : Heap → Bool
 | [] => true
 | none :: l => Q8Q l
 | some a :: l => Q4n a && Q8Q l
def Q2n : List AVal → Bool
 | [] => true
 | .tup _ :: _ => false
 | _ :: l => Q2n l
def Q1g (T : Q19) (os : List Out) (J : T.T.den → Option (outDen os)) : Qj :=
  ⟨fun as0 H k =>
    match Q2w H T.args as0 with
    | none => none
    | some (as, ids) =>
    let H0 := Q0v ids H
    let kp := Q4m T.nf H0 as
    let keep := kp.1 ++ kp.2
    cond (Nat.beq kp.1.length T.nf && Q1V keep && Q2z H0 keep)
      (match T.T.mat ⟨as.map fun a => (renA keep a).getD .undef, keep.map fun i => (H0.getD i none).bind (renA keep)⟩ with
       | some x => (J x).bind fun y => Q27 os y fun _ s =>
          cond (Q2n s.sl && (ids.isEmpty || (Qbq s.sl && Q8Q s.H)))
          (k (resL (s.sl.map (renF (Q1c kp.1 T.nf H.length)))) (Q0v kp.2 (Q1A kp.1 (renH (Q1c kp.1 T.nf H.length) s.H) H) ++ renH (Q1c kp.1 T.nf H.length) (s.H.drop T.nf)) (.touch H.length keep)) none
       | none => none) none⟩
def QdU (tin : List Ty) (as : List AVal) (H : Heap) : Bool := (Q2G H tin as).isSome
def QdV (T : Q19) (as0 : List AVal) (H : Heap) : Bool :=
 match Q2w H T.args as0 with
 | none => false
 | some (as, ids) =>
  let H0 := Q0v ids H
  let kp := Q4m T.nf H0 as
  let keep := kp.1 ++ kp.2
  Nat.beq kp.1.length T.nf && (T.T.mat ⟨as.map fun a => (renA keep a).getD .undef, keep.map fun i => (H0.getD i none).bind (renA keep)⟩).isSome
def Qdj (p : List AVal → Heap → Bool) (a b : Qj) : Qj := ⟨fun as H k => cond (p as H) (a.f as H k) (b.f as H k)⟩
def Q1Z (P : Program) (st : St) : List ResultVar → Option (List AVal)
 | [] => some []
 | r :: rs =>
  match Q7w P st r with
  | some v => (match Q1Z P st rs with | some l => some (v :: l) | none => none)
  | none => none
def Q3z {ρ : Type} : (os : List Out) → St → (outDen os → Option ρ) → Option ρ
 | [], _, _ => none
 | [o], s, K => o.go s K
 | o :: o' :: os, s, K =>
  match (Q2k o.gs s).bind o.T.mat with
  | some x => K (.inl x)
  | none => Q3z (o' :: os) s fun y => K (.inr y)
def finH {ρ : Type} (P : Program) (rs : List ResultVar) (os : List Out) (K : outDen os → Option ρ) (e : Exit) (st : St) : Option ρ :=
 match e with
 | .ret => (match Q1Z P st rs with | some vs => Q3z os ⟨vs, st.H⟩ K | none => none)
 | .normal => (match Q1Z P st rs with | some vs => Q3z os ⟨vs, st.H⟩ K | none => none)
 | _ => none
def Qcn (n : Nat) (T : Q19) (x : T.T.den) : St :=
 ⟨(T.T.inst x).sl ++ List.replicate (n - T.args.length) .undef, (T.T.inst x).H⟩
def Q1l (C : Ctx) (fn : Func) (c : Code) (ann : Ann) (T : Q19) (os : List Out) (F : {ρ : Type} → T.T.den → (outDen os → Option ρ) → Option ρ) : Prop :=
 ∀ {ρ : Type} (x : T.T.den) (K : outDen os → Option ρ), evC C c ann (Qcn fn.ntmps T x) (finH C.P fn.results.toList os K) = F x K
end Go.Am
namespace Go.Am
open Go
theorem Q3v {H : Heap} : ∀ {l : List Nat}, Q2z H l = true → ∀ i, i ∈ l → ∃ a, H[i]? = some (some a)
 | [], _, i, hi => by simp at hi
 | j :: l, h, i, hi => by
  simp only [Q2z, Bool.and_eq_true] at h
  rcases List.mem_cons.1 hi with rfl | hi
  ·have h1 := h.1
   split at h1
   ·rename_i a ha; exact ⟨a, ha⟩
   ·cases h1
  ·exact Q3v h.2 i hi
theorem Qd2 (f : Nat → Nat) (a : AVal) : (renF f a).isVb = a.isVb := by cases a <;> rfl
theorem Qcs (f : Nat → Nat) (a : AVal) : (renF f a).isAgg = a.isAgg := by cases a <;> rfl
theorem Q59 (f : Nat → Nat) : ∀ a : AVal, (renF f a).sh = a.sh
 | .pair a b => by simp only [renF, AVal.sh, Q59 f a, Q59 f b]
 | .undef | .int _ _ | .bool _ | .str _ | .nilp | .nils | .unit | .ros _ _ | .rop _ _ | .arr _ _ _ | .vec _ _ | .ptr _ _ | .sl _ _ _ _ | .vsl _ | .parr _ _ _ _ | .sfp _ _ _ | .vbs _ | .mp _ | .nilm | .mpc _ _ _ | .fn _ _ | .tup _ => rfl
theorem Q41 {f : Nat → Nat} {m : Mem} {μ μ' : LMap} (hf : ∀ j l, μ j = some l → μ' (f j) = some l) : ∀ {a : AVal} {cs : List Value}, CRel m μ a cs → CRel m μ' (renF f a) cs
 | .pair a b, cs, h => by
  simp only [CRel, renF] at h ⊢
  have hs : (renF f a).size = a.size := by unfold AVal.size; rw [Q59]
  rw [hs]
  exact ⟨Q41 hf h.1, Q41 hf h.2⟩
 | .undef, _, h | .tup _, _, h => by simp only [CRel] at h
 | .int _ _, cs, h | .bool _, cs, h | .str _, cs, h | .nilp, cs, h | .nils, cs, h | .unit, cs, h | .ros _ _, cs, h | .rop _ _, cs, h | .arr _ _ _, cs, h | .vec _ _, cs, h | .nilm, cs, h | .mpc _ _ _, cs, h => by
  simp only [renF, CRel] at h ⊢; exact h
 | .ptr id p, cs, h => by
  simp only [renF, CRel] at h ⊢
  obtain ⟨l, o, s, h1, h2⟩ := h
  exact ⟨l, o, s, hf _ _ h1, h2⟩
 | .sl id p off len, cs, h => by
  simp only [renF, CRel] at h ⊢
  obtain ⟨l, o, n, t, a, cap, h1, h2⟩ := h
  exact ⟨l, o, n, t, a, cap, hf _ _ h1, h2⟩
 | .vsl id, cs, h => by
  simp only [renF, CRel] at h ⊢
  obtain ⟨l, n, t, a, cap, h1, h2⟩ := h
  exact ⟨l, n, t, a, cap, hf _ _ h1, h2⟩
 | .parr id p off n, cs, h => by
  simp only [renF, CRel] at h ⊢
  obtain ⟨l, o, N, t, h1, h2⟩ := h
  exact ⟨l, o, N, t, hf _ _ h1, h2⟩
 | .vbs id, cs, h => by
  simp only [renF, CRel] at h ⊢
  obtain ⟨l, n, a, cap, h1, h2⟩ := h
  exact ⟨l, n, a, cap, hf _ _ h1, h2⟩
 | .mp id, cs, h => by
  simp only [renF, CRel] at h ⊢
  obtain ⟨l, h1, h2⟩ := h
  exact ⟨l, hf _ _ h1, h2⟩
 | .sfp id p T, cs, h => by
  simp only [renF, CRel] at h ⊢
  obtain ⟨l, o, s, h1, h2⟩ := h
  exact ⟨l, o, s, hf _ _ h1, h2⟩
 | .fn g c, cs, h => by
  simp only [renF, CRel] at h ⊢
  obtain ⟨cap, h1, h2⟩ := h
  exact ⟨cap, h1, Q41 hf h2⟩
theorem Q3S {m m' : Mem} {μ : LMap} : ∀ {a : AVal} {cs : List Value}, Q4n a = true → CRel m μ a cs → CRel m' μ a cs
 | .pair a b, cs, hn, h => by
  simp only [Q4n, Bool.and_eq_true] at hn
  simp only [CRel] at h ⊢
  exact ⟨Q3S hn.1 h.1, Q3S hn.2 h.2⟩
 | .ros _ _, _, hn, _ | .rop _ _, _, hn, _ => by cases hn
 | .undef, _, _, h | .tup _, _, _, h => by simp only [CRel] at h
 | .int _ _, cs, _, h | .bool _, cs, _, h | .str _, cs, _, h | .nilp, cs, _, h | .nils, cs, _, h | .unit, cs, _, h | .ptr _ _, cs, _, h | .sl _ _ _ _, cs, _, h | .vsl _, cs, _, h | .parr _ _ _ _, cs, _, h | .sfp _ _ _, cs, _, h | .vbs _, cs, _, h | .mp _, cs, _, h | .nilm, cs, _, h | .mpc _ _ _, cs, _, h => by
  simp only [CRel] at h ⊢; exact h
 | .arr n t xs, cs, hn, h => by
  simp only [CRel] at h ⊢
  exact Q3t (t := .arr n t) hn h
 | .vec t xs, cs, hn, h => by
  simp only [CRel] at h ⊢
  exact Q3t (t := .arr xs.length t) hn h
 | .fn g c, cs, hn, h => by
  simp only [CRel] at h ⊢
  obtain ⟨cap, h1, h2⟩ := h
  exact ⟨cap, h1, Q3S (a := c) hn h2⟩
theorem Q6x {m m' : Mem} {μ μ' : LMap} {a a' : AVal} {v : Value} (h0 : a' = .undef ↔ a = .undef) (h1 : (∃ s, a' = .tup s) ↔ ∃ s, a = .tup s) (h2 : a'.isAgg = a.isAgg) (h3 : ∀ cs, CRel m μ a cs → CRel m' μ' a' cs) (hv : Q1k m μ a v) : Q1k m' μ' a' v := by
 by_cases e0 : a = .undef
 ·rw [h0.2 e0]; trivial
 by_cases e1 : ∃ s, a = .tup s
 ·obtain ⟨s, rfl⟩ := e1; exact hv.elim
 rw [Q1K e0 fun s e => e1 ⟨s, e⟩] at hv
 rw [Q1K (fun e => e0 (h0.1 e)) fun s e => e1 (h1.1 ⟨s, e⟩), h2]
 split
 ·rename_i ha
  rw [if_pos ha] at hv
  obtain ⟨cs, h4, h5⟩ := hv
  exact ⟨cs, h4, h3 _ h5⟩
 ·rename_i ha
  rw [if_neg ha] at hv
  exact h3 _ hv
theorem Q3n {f : Nat → Nat} (a : AVal) : (renF f a = .undef ↔ a = .undef) ∧ ((∃ s, renF f a = .tup s) ↔ ∃ s, a = .tup s) := by
 cases a <;> simp [renF]
theorem Q7O {f : Nat → Nat} {m : Mem} {μ μ' : LMap} (hf : ∀ j l, μ j = some l → μ' (f j) = some l) {a : AVal} {v : Value} (hv : Q1k m μ a v) : Q1k m μ' (renF f a) v :=
 Q6x (Q3n a).1 (Q3n a).2 (Qcs f a) (fun _ h => Q41 hf h) hv
theorem Q8r {f : Nat → Nat} {m : Mem} {μ μ' : LMap} (hf : ∀ j l, μ j = some l → μ' (f j) = some l) : ∀ {a : AVal} {vs : List Value}, TRel m μ a vs → TRel m μ' (renF f a) vs
 | .unit, vs, h => h
 | .pair a b, vs, h => by
  obtain ⟨v, r, h1, h2, h3⟩ := h
  exact ⟨v, r, h1, Q7O hf h2, Q8r hf h3⟩
 | .undef, _, hv | .int _ _, _, hv | .bool _, _, hv | .str _, _, hv | .nilp, _, hv | .nils, _, hv | .ros _ _, _, hv | .rop _ _, _, hv | .arr _ _ _, _, hv | .vec _ _, _, hv
 | .ptr _ _, _, hv | .sl _ _ _ _, _, hv | .vsl _, _, hv | .parr _ _ _ _, _, hv | .sfp _ _ _, _, hv | .vbs _, _, hv | .mp _, _, hv | .nilm, _, hv | .mpc _ _ _, _, hv | .fn _ _, _, hv | .tup _, _, hv => hv.elim
theorem Q4r {m : Mem} {μ : LMap} {a : AVal} {v : Value} (h : ∀ s, a ≠ .tup s) : VRel m μ a v = Q1k m μ a v := by
 cases a <;> first | rfl | exact absurd rfl (h _)
theorem Q8t {f : Nat → Nat} {m : Mem} {μ μ' : LMap} (hf : ∀ j l, μ j = some l → μ' (f j) = some l) {a : AVal} {v : Value} (hv : VRel m μ a v) : VRel m μ' (renF f a) v := by
 by_cases h1 : ∃ s, a = .tup s
 ·obtain ⟨s, rfl⟩ := h1
  obtain ⟨vs, h2, h3⟩ := hv
  exact ⟨vs, h2, Q8r hf h3⟩
 ·rw [Q4r fun s e => h1 ⟨s, e⟩] at hv
  rw [Q4r fun s e => h1 ((Q3n a).2.1 ⟨s, e⟩)]
  exact Q7O hf hv
theorem QbH {m m' : Mem} {μ : LMap} {a : AVal} {v : Value} (hn : Q4n a = true) (hv : VRel m μ a v) : VRel m' μ a v := by
 have ht : ∀ s, a ≠ .tup s := fun s e => by subst e; cases hn
 rw [Q4r ht] at hv ⊢
 exact Q6x Iff.rfl Iff.rfl rfl (fun _ h => Q3S hn h) hv
theorem Q3g {f : Nat → Nat} : ∀ {H : Heap} {i : Nat}, (renH f H)[i]? = (H[i]?).map fun o => o.map (renF f)
 | [], i => by simp [renH]
 | none :: l, 0 => rfl
 | some a :: l, 0 => rfl
 | none :: l, i + 1 => by simp only [renH, List.getElem?_cons_succ]; exact Q3g
 | some a :: l, i + 1 => by simp only [renH, List.getElem?_cons_succ]; exact Q3g
theorem Q3G {f : Nat → Nat} : ∀ {H : Heap}, (renH f H).length = H.length
 | [] => rfl
 | none :: l => by simp [renH, Q3G (H := l)]
 | some a :: l => by simp [renH, Q3G (H := l)]
theorem Q1w : ∀ {is : List Nat} {as H : Heap}, (Q1A is as H).length = H.length
 | [], _, _ => rfl
 | i :: is, [], H => rfl
 | i :: is, a :: as, H => by rw [Q1A, Q1w, List.length_set]
theorem Q6O : ∀ {is : List Nat} {as H : Heap} {x : Nat} {v : AVal}, is.length ≤ as.length → (Q1A is as H)[x]? = some (some v) →
  (x ∉ is ∧ H[x]? = some (some v)) ∨ ∃ j : Nat, is[j]? = some x ∧ as[j]? = some (some v)
 | [], as, H, x, v, _, h => .inl ⟨by simp, h⟩
 | i :: is, [], H, x, v, hl, h => by simp at hl
 | i :: is, a :: as, H, x, v, hl, h => by
  simp only [Q1A] at h
  rcases Q6O (by simpa using hl) h with ⟨h1, h2⟩ | ⟨j, h1, h2⟩
  ·by_cases hx : i = x
   ·subst hx
    have hlt : i < (H.set i a).length := (List.getElem?_eq_some_iff.1 h2).1
    rw [List.getElem?_set_self (by simpa using hlt)] at h2
    exact .inr ⟨0, rfl, by simpa using h2⟩
   ·rw [List.getElem?_set_ne hx] at h2
    exact .inl ⟨by simp [h1, Ne.symm hx], h2⟩
  ·exact .inr ⟨j + 1, by simpa using h1, by simpa using h2⟩
theorem Q29 : ∀ {is : List Nat} {as H : Heap} {x : Nat}, x ∉ is → (Q1A is as H)[x]? = H[x]?
 | [], _, _, _, _ => rfl
 | i :: is, [], _, _, _ => rfl
 | i :: is, a :: as, H, x, h => by
  simp only [List.mem_cons, not_or] at h
  rw [Q1A, Q29 h.2, List.getElem?_set_ne (Ne.symm h.1)]
theorem Q5j : ∀ {is : List Nat} {H : Heap} {x : Nat}, x ∉ is → (Q0v is H)[x]? = H[x]?
 | [], _, _, _ => rfl
 | i :: is, H, x, h => by
  simp only [List.mem_cons, not_or] at h
  rw [Q0v, Q5j h.2, List.getElem?_set_ne (Ne.symm h.1)]
theorem QbF {fx ls : List Nat} {nf : Nat} {H Hc : Heap} {i : Nat} {a : AVal} (hnf : fx.length = nf) (hle : nf ≤ Hc.length)
  (h : (Q0v ls (Q1A fx (renH (Q1c fx nf H.length) Hc) H) ++ renH (Q1c fx nf H.length) (Hc.drop nf))[i]? = some (some a)) :
  (i ∉ fx ++ ls ∧ H[i]? = some (some a)) ∨ ∃ j b, Hc[j]? = some (some b) ∧ a = renF (Q1c fx nf H.length) b ∧ i = Q1c fx nf H.length j := by
 have hlen : (Q0v ls (Q1A fx (renH (Q1c fx nf H.length) Hc) H)).length = H.length := by rw [Q1G, Q1w]
 rcases Nat.lt_or_ge i H.length with hi | hi
 ·rw [List.getElem?_append_left (by omega)] at h
  obtain ⟨h1, h2⟩ := Q1h h
  rcases Q6O (by rw [Q3G]; omega) h2 with ⟨h3, h4⟩ | ⟨j, h3, h4⟩
  ·exact .inl ⟨by simp [h1, h3], h4⟩
  ·rw [Q3g] at h4
   cases hj : Hc[j]? with
   | none => rw [hj] at h4; cases h4
   | some o =>
    rw [hj] at h4
    cases o with
    | none => cases h4
    | some b =>
     simp only [Option.map_some, Option.some.injEq] at h4
     have hjn : j < nf := by rw [← hnf]; exact (List.getElem?_eq_some_iff.1 h3).1
     refine .inr ⟨j, b, hj, h4.symm, ?_⟩
     have : Nat.blt j nf = true := by simpa [Nat.blt_eq] using hjn
     simp only [Q1c, this, cond_true, List.getD_eq_getElem?_getD, h3, Option.getD_some]
 ·rw [List.getElem?_append_right (by omega), hlen, Q3g, List.getElem?_drop] at h
  cases hj : Hc[nf + (i - H.length)]? with
  | none => rw [hj] at h; cases h
  | some o =>
   rw [hj] at h
   cases o with
   | none => cases h
   | some b =>
    simp only [Option.map_some, Option.some.injEq] at h
    refine .inr ⟨_, b, hj, h.symm, ?_⟩
    have : Nat.blt (nf + (i - H.length)) nf = false := by
     cases hb : Nat.blt (nf + (i - H.length)) nf with
     | false => rfl
     | true => rw [Nat.blt_eq] at hb; omega
    simp only [Q1c, this, cond_false]
    omega
theorem Qae {m : Mem} {μ : LMap} : ∀ {as : List AVal} {us : List Value}, us.length = as.length → (∀ (i : Nat) (x : AVal), as[i]? = some x → ∃ v, us[i]? = some v ∧ VRel m μ x v) → Q1e m μ as us
 | [], [], _, _ => trivial
 | [], _ :: _, h, _ => by simp at h
 | _ :: _, [], h, _ => by simp at h
 | a :: as, u :: us, hl, h => by
  obtain ⟨v, h1, h2⟩ := h 0 a rfl
  simp only [List.getElem?_cons_zero, Option.some.injEq] at h1
  subst h1
  exact ⟨h2, Qae (by simpa using hl) fun i x hx => by simpa using h (i + 1) x (by simpa using hx)⟩
theorem Q4w {m : Mem} {μ : LMap} {as : List AVal} {vs : List Value} (h : Q1e m μ as vs) : RS m μ as { tmps := vs.toArray, defers := [] } := by
 refine ⟨by simp [h.length], rfl, fun i x hx => ?_⟩
 obtain ⟨v, h1, h2⟩ := h.get hx
 exact ⟨v, by simpa using h1, h2⟩
theorem Q4E {m : Mem} {μ : LMap} {as : List AVal} {vs : List Value} (h : RS m μ as { tmps := vs.toArray, defers := [] }) : Q1e m μ as vs :=
 Qae (by simpa using h.size) fun i x hx => by
  obtain ⟨v, h1, h2⟩ := h.rel i x hx
  exact ⟨v, by simpa using h1, h2⟩
theorem Q8v {m : Mem} {μ : LMap} {as : List AVal} {vs : List Value} (n : Nat) (h : Q1e m μ as vs) : RS m μ (as ++ List.replicate (n - as.length) .undef) { tmps := vs.toArray ++ Array.replicate (n - vs.toArray.size) undef, defers := [] } := by
 have hl := h.length
 refine ⟨by simp [hl], rfl, fun i x hx => ?_⟩
 rcases Nat.lt_or_ge i as.length with h1 | h1
 ·rw [List.getElem?_append_left h1] at hx
  obtain ⟨v, h2, h3⟩ := h.get hx
  exact ⟨v, by rw [Array.getElem?_append_left (by simp; omega)]; simpa using h2, h3⟩
 ·rw [List.getElem?_append_right h1, List.getElem?_replicate] at hx
  split at hx
  ·rename_i h2
   cases hx
   refine ⟨undef, ?_, Q3X _⟩
   rw [Array.getElem?_append_right (by simp; omega)]
   rw [Array.getElem?_replicate, if_pos (by simp; omega)]
  ·cases hx
theorem Q0Y : ∀ (ts : List Tm) (x : tdens ts), (Q1j ts x).length = ts.length
 | [], _ => rfl
 | .undef :: ts, x => by simp [Q1j, Q0Y ts x]
 | .dat t :: ts, x => by simp [Q1j, Q0Y ts x.2]
 | .vec t :: ts, x => by simp [Q1j, Q0Y ts x.2]
 | .vsl i :: ts, x => by simp [Q1j, Q0Y ts x]
 | .slr i p :: ts, x => by simp [Q1j, Q0Y ts x.2]
 | .ptr i p :: ts, x => by simp [Q1j, Q0Y ts x]
 | .nilp :: ts, x => by simp [Q1j, Q0Y ts x]
 | .sfp _ _ _ :: ts, x => by simp [Q1j, Q0Y ts x]
 | .vbs _ :: ts, x => by simp [Q1j, Q0Y ts x]
 | .mp _ :: ts, x => by simp [Q1j, Q0Y ts x]
 | .nilm :: ts, x => by simp [Q1j, Q0Y ts x]
 | .mpd _ _ :: ts, x => by simp [Q1j, Q0Y ts x.2]
 | .nils :: ts, x => by simp [Q1j, Q0Y ts x]
 | .unit :: ts, x => by simp [Q1j, Q0Y ts x]
 | .pair a b :: ts, x => by simp [Q1j, Q0Y ts x.2]
 | .fn f c :: ts, x => by simp [Q1j, Q0Y ts x.2]
 | .tup c :: ts, x => by simp [Q1j, Q0Y ts x.2]
theorem Q83 (T : StT) (x : T.den) : (T.inst x).sl.length = T.sl.length := by
 simp [StT.inst, Q0Y]
theorem Q5l (T : StT) (x : T.den) : (T.inst x).H.length = T.H.length := by
 simp [StT.inst, Q0Y, Q3B]
theorem Q2C {nf : Nat} : ∀ {os : List Out}, os.all (fun o => Nat.ble nf o.T.H.length) = true → ∀ (y : outDen os), ∃ e s, (∀ {ρ : Type} (K : Exit → St → Option ρ), Q27 os y K = K e s) ∧ nf ≤ s.H.length
 | [], _, y => nomatch y
 | [o], h, y => ⟨o.e, o.T.inst y, fun _ => rfl, by
  simp only [List.all_cons, List.all_nil, Bool.and_true] at h
  rw [Q5l]; exact Nat.le_of_ble_eq_true h⟩
 | o :: o' :: os, h, .inl a => ⟨o.e, o.T.inst a, fun _ => rfl, by
  rw [List.all_cons, Bool.and_eq_true] at h
  rw [Q5l]; exact Nat.le_of_ble_eq_true h.1⟩
 | o :: o' :: os, h, .inr b => by
  rw [List.all_cons, Bool.and_eq_true] at h
  obtain ⟨e, s, h1, h2⟩ := Q2C h.2 b
  exact ⟨e, s, fun K => h1 K, h2⟩
theorem Q5E {P : Program} {m : Mem} {μ : LMap} {st : St} {w : World} {a : Act} (rh : RH m μ st.H w) (rs : RS m μ st.sl a) : ∀ {l : List ResultVar} {vs : List AVal}, Q1Z P st l = some vs →
  ∃ us, (l.mapM (fun r => match r with | .tmp t => pure (a.tmps.getD t undef) | .cell b t => do loadVar t (← asAddr (a.tmps.getD b undef)) : ResultVar → Sem Value)).run P w = .ok us w ∧ Q1e m μ vs us
 | [], vs, h => by
  simp only [Q1Z, Option.some.injEq] at h
  subst h
  exact ⟨[], by simp only [List.mapM_nil]; rfl, trivial⟩
 | q :: l, vs, h => by
  simp only [Q1Z] at h
  split at h
  ·rename_i v hv
   split at h
   ·rename_i l' hl
    cases h
    obtain ⟨us, h1, h2⟩ := Q5E rh rs hl
    obtain ⟨u, h4, h5⟩ := Q87 rh rs hv
    refine ⟨u :: us, ?_, h5, h2⟩
    haveI := Q3R
    cases q with
    | tmp t =>
     dsimp only at h4
     simp only [List.mapM_cons, run_bind]
     rw [h4]
     simp only [h1, QP]
    | cell b t =>
     dsimp only at h4
     simp only [List.mapM_cons, run_bind] at h4 ⊢
     rw [h4]
     simp only [h1, QP]
   ·cases h
  ·cases h
theorem Q7F {ρ : Type} {np : Nat} : ∀ {os : List Out} {s : St} {K : outDen os → Option ρ} {r : ρ}, os.all (Out.ok np) = true → Q3z os s K = some r →
  ∃ y e s', K y = some r ∧ Q1a np s s' ∧ ∀ {ρ' : Type} (K' : Exit → St → Option ρ'), Q27 os y K' = K' e s'
 | [], _, _, _, _, h => by simp [Q3z] at h
 | [o], s, K, r, ho, h => by
  simp only [List.all_cons, List.all_nil, Bool.and_true] at ho
  simp only [Q3z] at h
  obtain ⟨x, h1, h2⟩ := Q8n ho h
  exact ⟨x, o.e, _, h1, h2, fun K' => rfl⟩
 | o :: o' :: os, s, K, r, ho, h => by
  rw [List.all_cons, Bool.and_eq_true] at ho
  simp only [Q3z] at h
  split at h
  ·rename_i x hx
   have h1 : o.go s (fun z => if True then some z else none) = some x := by
    unfold Out.go
    cases hg : Q2k o.gs s with
    | none => rw [hg] at hx; cases hx
    | some s1 =>
     rw [hg] at hx
     simp only [Option.bind_some] at hx
     simp [hx]
   obtain ⟨x', h2, h3⟩ := Q8n ho.1 h1
   simp only [if_true, Option.some.injEq] at h2
   subst h2
   exact ⟨.inl x', o.e, _, h, h3, fun K' => rfl⟩
  ·obtain ⟨y, e, s', h1, h2, h3⟩ := Q7F ho.2 h
   exact ⟨.inr y, e, s', h1, h2, fun K' => h3 K'⟩
theorem Q4G {m : Mem} {μ : LMap} : ∀ {as : List AVal} {us : List Value}, (∀ a ∈ as, ∀ s, a ≠ .tup s) → Q1e m μ as us → TRel m μ (Qaw as) us
 | [], [], _, _ => rfl
 | [], _ :: _, _, h => h.elim
 | _ :: _, [], _, h => h.elim
 | a :: as, u :: us, hn, h => ⟨u, us, rfl, by rw [← Q4r (hn a (by simp))]; exact h.1, Q4G (fun b hb => hn b (by simp [hb])) h.2⟩
theorem Q9J {m : Mem} {μ : LMap} {as : List AVal} {us : List Value} (hn : ∀ a ∈ as, ∀ s, a ≠ .tup s) (h : Q1e m μ as us) : VRel m μ (resL as) (if us.length = 1 then us.headD undef else .tuple us.toArray) := by
 have hl := h.length
 match as, us, h, hl with
 | [], us, h, hl =>
  rw [if_neg (by simp at hl; simp [hl])]
  exact ⟨us.toArray, rfl, by simpa using Q4G hn h⟩
 | [a], [u], h, hl => exact h.1
 | [a], [], h, hl => cases hl
 | [a], _ :: _ :: _, h, hl => simp at hl
 | a :: b :: as, us, h, hl =>
  rw [if_neg (by simp at hl; omega)]
  exact ⟨us.toArray, rfl, by simpa using Q4G hn h⟩
theorem Qag {C : Ctx} (hΓ : ∀ f, Qb C.P f (C.Γ f)) (hmix : C.P.follows .mixedOrders = true) {f : Nat} {fn : Func} {c : Code} {ann : Ann} {T : Q19} {os : List Out} {F : {ρ : Type} → T.T.den → (outDen os → Option ρ) → Option ρ}
  (hf : C.P.funcs[f]? = some fn) (hb : fn.body = some c) (hA : Q3 T.nf C.P c ann) (hB : Q1l C fn c ann T os F) (ho : os.all (Out.ok T.nf) = true) {x : T.T.den} {y : outDen os} (hF : F x some = some y) {e0 : Exit} {s : St}
  (hs : ∀ {ρ : Type} (K : Exit → St → Option ρ), Q27 os y K = K e0 s) {m : Mem} {μ : LMap} {w : World} {vs : List Value} (rh : RH m μ (T.T.inst x).H w) (hv : Q1e m μ (T.T.inst x).sl vs) :
  Calls C.P f vs.toArray w (fun e w' => ∃ us m' μ', e = .returned (if us.length = 1 then us.headD undef else .tuple us.toArray) ∧ Q1e m' μ' s.sl us ∧ Q11 T.nf m μ (T.T.inst x).H w m' μ' s.H w') := by
 refine calls_of_wp hf hb ?_
 have h1 : evC C c ann (Qcn fn.ntmps T x) (finH C.P fn.results.toList os some) = some y := (hB x some).trans hF
 obtain ⟨e, st', h2, h3⟩ := Q1u hΓ hmix c ann _ _ _ hA h1
 have hstart := Q8v fn.ntmps hv
 rw [Q83] at hstart
 refine h3 m μ w _ _ rh hstart fun a' w' m' μ' rs' p => ?_
 have done : (match Q1Z C.P st' fn.results.toList with | some vs => Q3z os ⟨vs, st'.H⟩ some | none => none) = some y →
   a'.defers = [] ∧ ∃ v, (results fn a'.tmps).run C.P w' = .ok v w' ∧ ∃ us m' μ', Ending.returned v = .returned (if us.length = 1 then us.headD undef else .tuple us.toArray) ∧ Q1e m' μ' s.sl us ∧ Q11 T.nf m μ (T.T.inst x).H w m' μ' s.H w' := by
  intro h
  split at h
  ·rename_i rv hrv
   obtain ⟨us, h4, h5⟩ := Q5E p.rh rs' hrv
   obtain ⟨y', e', s', h6, h7, h8⟩ := Q7F ho h
   cases h6
   have h9 := (h8 (ρ' := Exit × St) fun e s => some (e, s)).symm.trans (hs fun e s => some (e, s))
   cases h9
   obtain ⟨m5, μ5, rs5, p5⟩ := h7 m' μ' w' { tmps := us.toArray, defers := [] } p.rh (Q4w h5)
   exact ⟨rs'.defers, _, Q2u h4, us, m5, μ5, rfl, Q4E rs5, p.trans p5⟩
  ·cases h
 cases e with
 | normal => exact done h2
 | ret => exact done h2
 | _ => cases h2
end Go.Am
namespace Go.Am
open Go
theorem Q4V : ∀ {l : List AVal}, Q2n l = true → ∀ a ∈ l, ∀ s, a ≠ .tup s
 | [], _, a, ha, _ => by simp at ha
 | b :: l, h, a, ha, s => by
  rcases List.mem_cons.1 ha with rfl | ha
  ·intro e; subst e; simp [Q2n] at h
  ·have : Q2n l = true := by cases b <;> first | exact h | (simp [Q2n] at h)
   exact Q4V this a ha s
theorem Q7t : ∀ {l : List AVal}, Qbq l = true → ∀ a ∈ l, Q4n a = true
 | [], _, a, ha => by simp at ha
 | b :: l, h, a, ha => by
  simp only [Qbq, Bool.and_eq_true] at h
  rcases List.mem_cons.1 ha with rfl | ha
  ·exact h.1
  ·exact Q7t h.2 a ha
theorem Q47 : ∀ {l : Heap}, Q8Q l = true → ∀ (i : Nat) (a : AVal), l[i]? = some (some a) → Q4n a = true
 | [], _, i, a, ha => by simp at ha
 | none :: l, h, 0, a, ha => by simp at ha
 | none :: l, h, i + 1, a, ha => Q47 (l := l) h i a (by simpa using ha)
 | some b :: l, h, 0, a, ha => by
  simp only [List.getElem?_cons_zero, Option.some.injEq] at ha
  subst ha
  simp only [Q8Q, Bool.and_eq_true] at h
  exact h.1
 | some b :: l, h, i + 1, a, ha => by
  simp only [Q8Q, Bool.and_eq_true] at h
  exact Q47 h.2 i a (by simpa using ha)
theorem Q6C {m m' : Mem} {μ μ' : LMap} {f : AVal → AVal} : ∀ {as : List AVal} {us : List Value}, (∀ a ∈ as, ∀ v, VRel m μ a v → VRel m' μ' (f a) v) → Q1e m μ as us → Q1e m' μ' (as.map f) us
 | [], [], _, _ => trivial
 | [], _ :: _, _, h => h.elim
 | _ :: _, [], _, h => h.elim
 | a :: as, u :: us, hf, h => ⟨hf a (by simp) u h.1, Q6C (fun b hb => hf b (by simp [hb])) h.2⟩
theorem Q6F {m : Mem} {μ : LMap} {H : Heap} {w : World} {ids : List Nat} (rh : RH m μ H w) : ∀ {ts : List Tm} {as as' : List AVal} {ids' : List Nat} {vs : List Value}, Q2w H ts as = some (as', ids') → (∀ i, i ∈ ids' → i ∈ ids) → Q1e m μ as vs →
  Q1e (frzM m μ H w ids) μ as' vs
 | [], [], _, _, [], h, _, _ => by simp only [Q2w, Option.some.injEq, Prod.mk.injEq] at h; obtain ⟨rfl, rfl⟩ := h; trivial
 | [], [], _, _, _ :: _, _, _, hv => hv.elim
 | [], _ :: _, _, _, _, h, _, _ => by simp [Q2w] at h
 | t :: ts, [], _, _, _, h, _, _ => by cases t <;> simp [Q2w] at h
 | t :: ts, a :: as, _, _, [], _, _, hv => hv.elim
 | t :: ts, a :: as, as', ids', v :: vs, h, hi, hv => by
  have other : ((Q2w H ts as).bind fun w => some (a :: w.1, w.2)) = some (as', ids') → Q1e (frzM m μ H w ids) μ as' (v :: vs) := by
   intro h
   simp only [Option.bind_eq_some_iff, Option.some.injEq, Prod.mk.injEq] at h
   obtain ⟨q, h1, rfl, rfl⟩ := h
   exact ⟨hv.1.mono (Q2V rh) (LMap.le_refl _), Q6F rh h1 hi hv.2⟩
  cases t with
  | dat t =>
   simp only [Q2w, Option.bind_eq_some_iff, Option.some.injEq, Prod.mk.injEq] at h
   obtain ⟨u, h1, q, h2, rfl, rfl⟩ := h
   obtain ⟨h3, h4, h5, h6⟩ := Q63 rh h1 (fun i hi' => hi i (by simp [hi']))
   exact ⟨Q7b h4 h5 h6 hv.1, Q6F rh h2 (fun i hi' => hi i (by simp [hi'])) hv.2⟩
  | _ => exact other h
theorem Q11.weaken {np np' : Nat} (hle : np ≤ np') {m m' : Mem} {μ μ' : LMap} {H H' : Heap} {w w' : World} (h : Q11 np' m μ H w m' μ' H' w') : Q11 np m μ H w m' μ' H' w' :=
 ⟨h.rh, h.ml, fun i l hi => h.fix i l (by omega), h.os, h.tape, h.output, h.size, h.keep, h.grow, h.mgrow⟩
theorem Qbz {m m' : Mem} {kt vt : Ty} {xs : List (kt.den × vt.den)} {es : List MapEntry} {c : Nat} (hn : Q4n (.mpc kt vt xs) = true) (h : Q2t m kt vt xs es c) : Q2t m' kt vt xs es c := by
 simp only [Q4n, Bool.and_eq_true] at hn
 have key : ∀ {t : Ty} {x : t.den} {v : Value}, Q2e t = true → DV m t x v → DV m' t x v := by
  intro t x v ht hd
  unfold DV at *
  exact Q6x Iff.rfl Iff.rfl rfl (fun cs hc => Q1n.2 (Q3t ht (Q1n.1 hc))) hd
 obtain ⟨ys, g1, g2, g3, g4⟩ := h
 exact ⟨ys, g1, g2, ⟨g3.1, fun i x e h1 h2 => ⟨key hn.1 (g3.2 i x e h1 h2).1, key hn.2 (g3.2 i x e h1 h2).2⟩⟩, g4⟩
theorem Q8p {m : Mem} {μ : LMap} {H : Heap} {w : World} (rh : RH m μ H w) {b : Nat} (h : Q1q μ H b) : m b = none ∧ b < w.heap.size := by
 obtain ⟨i, a, l, hi, hl, hz, rfl⟩ := h
 rcases hz with hz | hz
 ·obtain ⟨l', hbk⟩ := rh.blk i a hi
  have : l' = l := Option.some.inj (hbk.loc.symm.trans hl)
  subst this
  rcases hbk.cells with ⟨p1, _⟩ | ⟨_, gm, cs, E, fz, g1, _⟩
  ·omega
  ·exact ⟨gm, Q0Q g1⟩
 ·obtain ⟨_, _, _, _, es, c, _, g1, _⟩ := rh.mp i a l hi hl hz
  exact ⟨rh.map_mem g1, Q0Q g1⟩
theorem Q61 {m : Mem} {μ : LMap} {H : Heap} {w : World} (rh : RH m μ H w) {i j : Nat} {a b : AVal} {li lj : Loc} (hi : H[i]? = some (some a)) (hj : H[j]? = some (some b)) (hli : μ i = some li) (hlj : μ j = some lj)
  (zi : 0 < li.tot ∨ li.mp = true) (zj : 0 < lj.tot ∨ lj.mp = true) (he : li.b = lj.b) : i = j := by
 rcases zi with zi | zi
 ·rcases zj with zj | zj
  ·exact rh.inj i j a b li lj hi hj hli hlj zi zj he
  ·obtain ⟨cs, fz, g1⟩ := rh.typ i a li hi hli zi
   obtain ⟨_, _, _, _, es, c, _, g2, _⟩ := rh.mp j b lj hj hlj zj
   rw [he, g2] at g1; cases g1
 ·rcases zj with zj | zj
  ·obtain ⟨cs, fz, g1⟩ := rh.typ j b lj hj hlj zj
   obtain ⟨_, _, _, _, es, c, _, g2, _⟩ := rh.mp i a li hi hli zi
   rw [← he, g2] at g1; cases g1
  ·exact rh.mpi i j a b li lj hi hj zi zj hli hlj he
theorem Q3a {μ : LMap} {H : Heap} {ids keep : List Nat} {b : Nat} (h : Q1q (renM keep μ) (keep.map fun i => ((Q0v ids H).getD i none).bind (renA keep)) b) :
  ∃ i a l, i ∈ keep ∧ H[i]? = some (some a) ∧ μ i = some l ∧ (0 < l.tot ∨ l.mp = true) ∧ l.b = b := by
 obtain ⟨j, x, l, hj, hl, hz, he⟩ := h
 rw [List.getElem?_map, Option.map_eq_some_iff] at hj
 obtain ⟨i, h1, h2⟩ := hj
 rw [Option.bind_eq_some_iff] at h2
 obtain ⟨y, h3, _⟩ := h2
 have h4 : (Q0v ids H)[i]? = some (some y) := by
  rw [List.getD_eq_getElem?_getD] at h3
  cases hh : (Q0v ids H)[i]? with
  | none => rw [hh] at h3; cases h3
  | some z => rw [hh] at h3; simp only [Option.getD_some] at h3; rw [h3]
 simp only [renM, h1, Option.bind_some] at hl
 exact ⟨i, y, l, List.mem_of_getElem? h1, (Q1h h4).2, hl, hz, he⟩
def Q5p (μ μ5 : LMap) (n nf : Nat) : LMap := fun i => if i < n then μ i else μ5 (i - n + nf)
section
variable {m m5 mm : Mem} {μ μ5 : LMap} {H Hc : Heap} {w w' : World} {fx ls ids : List Nat} {nf : Nat} {B0 : Heap} {m1 : Mem}
theorem Q7B (rh : RH m μ H w) (hnf : fx.length = nf) (hlive : Q2z (Q0v ids H) (fx ++ ls) = true) (P : Q11 nf m1 (renM (fx ++ ls) μ) B0 w m5 μ5 Hc w') :
  ∀ j l, μ5 j = some l → Q5p μ μ5 H.length nf (Q1c fx nf H.length j) = some l := by
 intro j l hj
 unfold Q5p Q1c
 by_cases hjn : j < nf
 ·have hb : Nat.blt j nf = true := by simpa [Nat.blt_eq] using hjn
  obtain ⟨i, hi⟩ : ∃ i, fx[j]? = some i := ⟨fx[j]'(by omega), by simp [show j < fx.length by omega]⟩
  obtain ⟨a, ha⟩ := Q3v hlive i (by simp [List.mem_of_getElem? hi])
  have ha' := (Q1h ha).2
  obtain ⟨l0, hbk⟩ := rh.blk i a ha'
  have h1 : renM (fx ++ ls) μ j = some l0 := by
   simp only [renM]
   rw [List.getElem?_append_left (by omega), hi]
   exact hbk.loc
  have h2 := P.fix j l0 hjn h1
  rw [hj] at h2
  cases h2
  have hil : i < H.length := (List.getElem?_eq_some_iff.1 ha').1
  simp only [hb, cond_true, List.getD_eq_getElem?_getD, hi, Option.getD_some, if_pos hil]
  exact hbk.loc
 ·have hb : Nat.blt j nf = false := by
   cases hb : Nat.blt j nf with
   | false => rfl
   | true => rw [Nat.blt_eq] at hb; omega
  simp only [hb, cond_false]
  rw [if_neg (by omega), show H.length + (j - nf) - H.length + nf = j by omega]
  exact hj
theorem Q8E (rh : RH m μ H w) (hnf : fx.length = nf) (hsn : nf ≤ Hc.length) (hlive : Q2z (Q0v ids H) (fx ++ ls) = true)
  (P : Q11 nf m1 (renM (fx ++ ls) μ) ((fx ++ ls).map fun i => ((Q0v ids H).getD i none).bind (renA (fx ++ ls))) w m5 μ5 Hc w')
  (hm1 : m.le mm) (hm2 : ∀ b cs, mm b = some cs → ∃ E fz, w'.heap[b]? = some (.cells cs E fz)) (hm4 : ∀ (j : Nat) a, Hc[j]? = some (some a) → ∀ cs, CRel m5 μ5 a cs → CRel mm μ5 a cs)
  (hm5 : ∀ b c, mm b = some c → m b = some c ∨ Q1q (renM (fx ++ ls) μ) ((fx ++ ls).map fun i => ((Q0v ids H).getD i none).bind (renA (fx ++ ls))) b ∨ w.heap.size ≤ b) (hm6 : ∀ b, m5 b = none → mm b = none)
  (hm7 : ∀ (j : Nat) kt vt xs es c, Hc[j]? = some (some (.mpc kt vt xs)) → Q2t m5 kt vt xs es c → Q2t mm kt vt xs es c) :
  Post m μ H w mm (Q5p μ μ5 H.length nf) (Q0v ls (Q1A fx (renH (Q1c fx nf H.length) Hc) H) ++ renH (Q1c fx nf H.length) (Hc.drop nf)) w' := by
 have hg := Q7B rh hnf hlive P
 have hμ : μ.le (Q5p μ μ5 H.length nf) := by
  intro i l hi
  unfold Q5p
  rw [if_pos]
  ·exact hi
  ·rcases Nat.lt_or_ge i H.length with h | h
   ·exact h
   ·rw [rh.dom i h] at hi; cases hi
 have apart : ∀ i a l, i ∉ fx ++ ls → H[i]? = some (some a) → μ i = some l → (0 < l.tot ∨ l.mp = true) → ¬ Q1q (renM (fx ++ ls) μ) ((fx ++ ls).map fun i => ((Q0v ids H).getD i none).bind (renA (fx ++ ls))) l.b := by
  intro i a l hi ha hl hz ho
  obtain ⟨i', a', l', h1, h2, h3, h4, h5⟩ := Q3a ho
  have := Q61 rh ha h2 hl h3 hz h4 h5.symm
  subst this
  exact hi h1
 have look := fun {i : Nat} {a : AVal} h => QbF (fx := fx) (ls := ls) (nf := nf) (H := H) (Hc := Hc) (i := i) (a := a) hnf hsn h
 have callee : ∀ {j : Nat} {b : AVal} {l : Loc}, Hc[j]? = some (some b) → Q5p μ μ5 H.length nf (Q1c fx nf H.length j) = some l → μ5 j = some l := by
  intro j b l hj hl
  obtain ⟨l0, hbk⟩ := P.rh.blk j b hj
  have := hg _ _ hbk.loc
  rw [hl] at this
  cases this
  exact hbk.loc
 have mixed : ∀ {i : Nat} {a : AVal} {l l' : Loc} {j : Nat} {b : AVal}, i ∉ fx ++ ls → H[i]? = some (some a) → Q5p μ μ5 H.length nf i = some l → (0 < l.tot ∨ l.mp = true) → Hc[j]? = some (some b) → Q5p μ μ5 H.length nf (Q1c fx nf H.length j) = some l' → (0 < l'.tot ∨ l'.mp = true) → l.b = l'.b → False := by
  intro i a l l' j b h1 h2 hl hz h3 hl' hz' he
  obtain ⟨l0, hbk⟩ := rh.blk i a h2
  have e1 := hμ _ _ hbk.loc
  rw [hl] at e1
  cases e1
  have hown : Q1q μ5 Hc l.b := ⟨j, b, l', h3, callee h3 hl', hz', he.symm⟩
  have hlt := (Q8p rh ⟨i, a, l, h2, hbk.loc, hz, rfl⟩).2
  exact apart i a l h1 h2 hbk.loc hz (P.grow _ hown hlt)
 refine ⟨⟨hm2, ?_, ?_, ?_, ?_, ?_, ?_, ?_⟩, hm1, hμ, P.os, P.tape, P.output, P.size, ?_, ?_, ?_, ⟨by rw [List.length_append, Q1G, Q1w]; omega, fun i hi hn => by unfold Q5p; rw [if_pos hi]; exact hn⟩⟩
 ·intro i a hi
  rcases look hi with ⟨h1, h2⟩ | ⟨j, b, h1, rfl, rfl⟩
  ·obtain ⟨l, hbk⟩ := rh.blk i a h2
   refine ⟨l, hμ _ _ hbk.loc, hbk.sh, ?_⟩
   rcases hbk.cells with ⟨p1, p2, p3, p4⟩ | ⟨p0, gm, cs, E, fz, g1, g2, g3, g4, g5⟩
   ·exact .inl ⟨p1, p2, p3, p4.mono hm1 hμ⟩
   ·have hno := apart i a l h1 h2 hbk.loc (.inl p0)
    refine .inr ⟨p0, ?_, cs, E, fz, ?_, g2, g3, g4, g5.mono hm1 hμ⟩
    ·cases hc : mm l.b with
     | none => rfl
     | some c =>
      rcases hm5 _ _ hc with h4 | h4 | h4
      ·rw [gm] at h4; cases h4
      ·exact (hno h4).elim
      ·have := Q0Q g1; omega
    ·rw [P.keep _ (Q0Q g1) hno]; exact g1
  ·obtain ⟨l, hbk⟩ := P.rh.blk j b h1
   refine ⟨l, hg _ _ hbk.loc, by rw [hbk.sh, Q59], ?_⟩
   rw [Q59]
   rcases hbk.cells with ⟨p1, p2, p3, p4⟩ | ⟨p0, gm, cs, E, fz, g1, g2, g3, g4, g5⟩
   ·exact .inl ⟨p1, p2, p3, Q41 hg (hm4 j b h1 _ p4)⟩
   ·exact .inr ⟨p0, hm6 _ gm, cs, E, fz, g1, g2, g3, g4, Q41 hg (hm4 j b h1 _ g5)⟩
 ·intro i i' a a' li li' hi hi' hl hl' z z' he
  rcases look hi with ⟨h1, h2⟩ | ⟨j, b, h1, rfl, rfl⟩
  ·rcases look hi' with ⟨h3, h4⟩ | ⟨j', b', h3, rfl, rfl⟩
   ·obtain ⟨l0, hbk⟩ := rh.blk i a h2
    obtain ⟨l1, hbk'⟩ := rh.blk i' a' h4
    have e1 := hμ _ _ hbk.loc
    have e2 := hμ _ _ hbk'.loc
    rw [hl] at e1; rw [hl'] at e2
    cases e1; cases e2
    exact rh.inj i i' a a' li li' h2 h4 hbk.loc hbk'.loc z z' he
   ·exact (mixed h1 h2 hl (.inl z) h3 hl' (.inl z') he).elim
  ·rcases look hi' with ⟨h3, h4⟩ | ⟨j', b', h3, rfl, rfl⟩
   ·exact (mixed h3 h4 hl' (.inl z') h1 hl (.inl z) he.symm).elim
   ·rw [P.rh.inj j j' b b' li li' h1 h3 (callee h1 hl) (callee h3 hl') z z' he]
 ·intro i hi
  rw [List.length_append, Q1G, Q1w, Q3G, List.length_drop] at hi
  unfold Q5p
  rw [if_neg (by omega)]
  exact P.rh.dom _ (by omega)
 ·intro i a l hi hl hz
  rcases look hi with ⟨h1, h2⟩ | ⟨j, b, h1, rfl, rfl⟩
  ·obtain ⟨l0, hbk⟩ := rh.blk i a h2
   have e1 := hμ _ _ hbk.loc
   rw [hl] at e1
   cases e1
   obtain ⟨cs, fz, k1⟩ := rh.typ i a l h2 hbk.loc hz
   exact ⟨cs, fz, by rw [P.keep _ (Q0Q k1) (apart i a l h1 h2 hbk.loc (.inl hz))]; exact k1⟩
  ·obtain ⟨l0, hbk⟩ := P.rh.blk j b h1
   have e1 := hg _ _ hbk.loc
   rw [hl] at e1
   cases e1
   exact P.rh.typ j b l h1 hbk.loc hz
 ·intro i a l hi hv hl hz
  rcases look hi with ⟨h1, h2⟩ | ⟨j, b, h1, rfl, rfl⟩
  ·obtain ⟨l0, hbk⟩ := rh.blk i a h2
   have e1 := hμ _ _ hbk.loc
   rw [hl] at e1
   cases e1
   exact rh.vb i a l h2 hv hbk.loc hz
  ·obtain ⟨l0, hbk⟩ := P.rh.blk j b h1
   have e1 := hg _ _ hbk.loc
   rw [hl] at e1
   cases e1
   exact P.rh.vb j b l h1 (by rw [Qd2] at hv; exact hv) hbk.loc hz
 ·intro i a l hi hl hpz
  rcases look hi with ⟨h1, h2⟩ | ⟨j, b, h1, rfl, rfl⟩
  ·obtain ⟨l0, hbk⟩ := rh.blk i a h2
   have e1 := hμ _ _ hbk.loc
   rw [hl] at e1
   cases e1
   obtain ⟨g0, kt, vt, xs, es, c, e, g1, g2⟩ := rh.mp i a l h2 hbk.loc hpz
   exact ⟨g0, kt, vt, xs, es, c, e, by rw [P.keep _ (Q0Q g1) (apart i a l h1 h2 hbk.loc (.inr hpz))]; exact g1, g2.mono hm1⟩
  ·obtain ⟨l0, hbk⟩ := P.rh.blk j b h1
   have e1 := hg _ _ hbk.loc
   rw [hl] at e1
   cases e1
   obtain ⟨g0, kt, vt, xs, es, c, e, g1, g2⟩ := P.rh.mp j b l h1 hbk.loc hpz
   subst e
   exact ⟨g0, kt, vt, xs, es, c, rfl, g1, hm7 j kt vt xs _ _ h1 g2⟩
 ·intro i i' a a' li li' hi hi' z z' hl hl' he
  rcases look hi with ⟨h1, h2⟩ | ⟨j, b, h1, rfl, rfl⟩
  ·rcases look hi' with ⟨h3, h4⟩ | ⟨j', b', h3, rfl, rfl⟩
   ·obtain ⟨l0, hbk⟩ := rh.blk i a h2
    obtain ⟨l1, hbk'⟩ := rh.blk i' a' h4
    have e1 := hμ _ _ hbk.loc
    have e2 := hμ _ _ hbk'.loc
    rw [hl] at e1; rw [hl'] at e2
    cases e1; cases e2
    exact rh.mpi i i' a a' li li' h2 h4 z z' hbk.loc hbk'.loc he
   ·exact (mixed h1 h2 hl (.inr z) h3 hl' (.inr z') he).elim
  ·rcases look hi' with ⟨h3, h4⟩ | ⟨j', b', h3, rfl, rfl⟩
   ·exact (mixed h3 h4 hl' (.inr z') h1 hl (.inr z) he.symm).elim
   ·rw [P.rh.mpi j j' b b' li li' h1 h3 z z' (callee h1 hl) (callee h3 hl') he]
 ·intro b hb hno
  refine P.keep b hb fun ho => hno ?_
  obtain ⟨i, a, l, _, h2, h3, h4, h5⟩ := Q3a ho
  exact ⟨i, a, l, h2, h3, h4, h5⟩
 ·rintro b ⟨i, a, l, hi, hl, hz, rfl⟩ hb
  rcases look hi with ⟨h1, h2⟩ | ⟨j, c, h1, rfl, rfl⟩
  ·obtain ⟨l0, hbk⟩ := rh.blk i a h2
   have e1 := hμ _ _ hbk.loc
   rw [hl] at e1
   cases e1
   exact ⟨i, a, l, h2, hbk.loc, hz, rfl⟩
  ·obtain ⟨l0, hbk⟩ := P.rh.blk j c h1
   have e1 := hg _ _ hbk.loc
   rw [hl] at e1
   cases e1
   obtain ⟨i', a', l', _, h2, h3, h4, h5⟩ := Q3a (P.grow _ ⟨j, c, l, h1, hbk.loc, hz, rfl⟩ hb)
   exact ⟨i', a', l', h2, h3, h4, h5⟩
 ·intro b c hc
  rcases hm5 b c hc with h | h | h
  ·exact .inl h
  ·obtain ⟨i', a', l', _, h2, h3, h4, h5⟩ := Q3a h
   exact .inr (.inl ⟨i', a', l', h2, h3, h4, h5⟩)
  ·exact .inr (.inr h)
end
theorem Q0P {C : Ctx} (hΓ : ∀ f, Qb C.P f (C.Γ f)) (hmix : C.P.follows .mixedOrders = true) {f : Nat} {fn : Func} {c : Code} {ann : Ann} {T : Q19} {os : List Out} (F : {ρ : Type} → T.T.den → (outDen os → Option ρ) → Option ρ)
  (hf : C.P.funcs[f]? = some fn) (hb : fn.body = some c) (hn : (fn.name == "runtime.NumGoroutine") = false) (hA : Q3 T.nf C.P c ann) (hB : Q1l C fn c ann T os F) (hT : T.T.ok = true) (ho : os.all (Out.ok T.nf) = true)
  (hle : os.all (fun o => Nat.ble T.nf o.T.H.length) = true) : Qb C.P f (Q1g T os fun x => F x some) := by
 intro ρ args H k r h
 simp only [StT.ok, Bool.and_eq_true] at hT
 simp only [Q1g] at h
 split at h
 ·cases h
 rename_i as ids hargs
 generalize hkp : Q4m _ (Q0v ids H) as = kp at h
 obtain ⟨fx, ls⟩ := kp
 dsimp only at h
 rw [Bool.cond_eq_ite] at h
 split at h
 case isFalse => cases h
 rename_i hchk
 simp only [Bool.and_eq_true] at hchk
 obtain ⟨⟨hnf0, hnd⟩, hlive⟩ := hchk
 have hnf : fx.length = T.nf := Nat.eq_of_beq_eq_true hnf0
 split at h
 case h_2 => cases h
 rename_i x hx
 rw [Option.bind_eq_some_iff] at h
 obtain ⟨y, hy, h⟩ := h
 obtain ⟨e0, s, hs, hsn⟩ := Q2C hle y
 rw [hs, Bool.cond_eq_ite] at h
 split at h
 case isFalse => cases h
 rename_i hro
 simp only [Bool.and_eq_true, Bool.or_eq_true, List.isEmpty_iff] at hro
 refine ⟨_, _, _, h, ?_, ?_⟩
 ·intro i hi hni
  simp only [List.mem_append, not_or] at hni
  rw [List.getElem?_append_left (by rw [Q1G, Q1w]; exact hi), Q5j hni.2, Q29 hni.1]
 ·intro m μ w vs rh hv
  refine ⟨_, _, Q1z hf hb hn _ w, .inl ⟨f, _, rfl, ?_⟩⟩
  have hp0 := Q3h (ids := ids) rh
  have hv1 := Q6F (ids := ids) rh hargs (fun _ h => h) hv
  obtain ⟨hrs1, hpw1⟩ := Q3k (np := 0) (st := ⟨as, Q0v ids H⟩) (keep := fx ++ ls) (Q39 hnd) rfl hp0.rh (Q4w hv1)
  obtain ⟨m2, μ2, hrs2, hpw2⟩ := Q7A (np := (fx ++ ls).length) hT.1 hT.2 hx _ _ w _ hpw1.rh hrs1
  refine (Qag hΓ hmix hf hb hA hB ho hy hs hpw2.rh (Q4E hrs2)).mono fun e w' he => ?_
  obtain ⟨us, m5, μ5, he, hvs, p5⟩ := he
  have P := (hpw2.weaken (by simp only [List.length_append]; omega)).trans p5
  have hg := Q7B rh hnf hlive P
  have done : ∀ mm : Mem, m.le mm → (∀ b cs, mm b = some cs → ∃ E fz, w'.heap[b]? = some (.cells cs E fz)) → (∀ a ∈ s.sl, ∀ v, VRel m5 μ5 a v → VRel mm μ5 a v) → (∀ (j : Nat) a, s.H[j]? = some (some a) → ∀ cs, CRel m5 μ5 a cs → CRel mm μ5 a cs) →
    (∀ b c, mm b = some c → m b = some c ∨ Q1q (renM (fx ++ ls) μ) ((fx ++ ls).map fun i => ((Q0v ids H).getD i none).bind (renA (fx ++ ls))) b ∨ w.heap.size ≤ b) → (∀ b, m5 b = none → mm b = none) →
    (∀ (j : Nat) kt vt xs es c, s.H[j]? = some (some (.mpc kt vt xs)) → Q2t m5 kt vt xs es c → Q2t mm kt vt xs es c) →
    Came m μ H w (resL (s.sl.map (renF (Q1c fx T.nf H.length)))) (Q0v ls (Q1A fx (renH (Q1c fx T.nf H.length) s.H) H) ++ renH (Q1c fx T.nf H.length) (s.H.drop T.nf)) e w' := by
   intro mm h1 h2 h3 h4 h5 h6 h7
   refine ⟨_, mm, _, he, Q9J ?_ (Q6C (fun a ha v hv => Q8t hg (h3 a ha v hv)) hvs), Q8E rh hnf hsn hlive P h1 h2 h4 h5 h6 h7⟩
   intro a ha q e
   rw [List.mem_map] at ha
   obtain ⟨b, hb, rfl⟩ := ha
   obtain ⟨q', hq⟩ := (Q3n b).2.1 ⟨q, e⟩
   exact Q4V hro.1 b hb q' hq
  by_cases hids : ids = []
  ·have hm1 : frzM m μ H w ids = m := by
    subst hids
    funext b
    unfold frzM
    rw [if_neg]
    rintro ⟨i, _, _, h, _⟩; simp at h
   refine done m5 ?_ P.rh.mem (fun _ _ _ h => h) (fun _ _ _ _ h => h) ?_ (fun _ h => h) (fun _ _ _ _ _ _ _ h => h)
   ·have := Mem.le_trans hpw1.ml P.ml
    rw [hm1] at this
    exact this
   ·intro b c hc
    rcases P.mgrow b c hc with h4 | h4 | h4
    ·rw [hm1] at h4; exact .inl h4
    ·exact .inr (.inl h4)
    ·exact .inr (.inr h4)
  ·have hro2 := hro.2.resolve_left hids
   have hle5 : m.le m5 := Mem.le_trans hp0.ml (Mem.le_trans hpw1.ml P.ml)
   refine done m (Mem.le_refl _) ?_ (fun a ha v hv => QbH (Q7t hro2.1 a ha) hv) (fun j a ha cs hc => Q3S (Q47 hro2.2 j a ha) hc) (fun b c hc => .inl hc) ?_ (fun j kt vt xs es c hj hm => Qbz (Q47 hro2.2 j _ hj) hm)
   ·intro b cs hb
    obtain ⟨E, fz, h2⟩ := rh.mem b cs hb
    refine ⟨E, fz, ?_⟩
    rw [P.keep b (Q0Q h2)]
    ·exact h2
    ·intro ho
     obtain ⟨i', a', l', _, k2, k3, k4, k5⟩ := Q3a ho
     have := (Q8p rh ⟨i', a', l', k2, k3, k4, k5⟩).1
     rw [hb] at this; cases this
   ·intro b h5
    cases hb : m b with
    | none => rfl
    | some c => have := hle5 b c hb; rw [h5] at this; cases this
theorem QdJ {P : Program} {f : Nat} {p : List AVal → Heap → Bool} {a b : Qj} (ha : Qb P f a) (hb : Qb P f b) : Qb P f (Qdj p a b) := by
 intro ρ args H k r h
 simp only [Qdj, Bool.cond_eq_ite] at h
 split at h
 ·exact ha args H k r h
 ·exact hb args H k r h
end Go.Am
namespace Go.Am
open Go
section
variable {np : Nat} {P : Program}
theorem Q3.nil {c : Code} : Q3 np P c .nil := by cases c <;> trivial
theorem Q3.seq {x y : Code} {a b : Ann} (ha : Q3 np P x a) (hb : Q3 np P y b) : Q3 np P (.seq x y) (.node [] none a b) := ⟨rfl, ha, hb⟩
theorem Q3.cond {v : Operand} {x y : Code} {a b : Ann} (ha : Q3 np P x a) (hb : Q3 np P y b) : Q3 np P (.cond v x y) (.node [] none a b) := ⟨rfl, ha, hb⟩
theorem Q3.block {i : Nat} {x : Code} {a b : Ann} (ha : Q3 np P x a) : Q3 np P (.block i x) (.node [] none a b) := ⟨rfl, ha⟩
theorem Q3.loop {c : Code} {pre : List Q1i} {s : Q2T} (hg : okG np pre = true) (h : StOK np P c s) : Q3 np P c (.node pre (some s) .nil .nil) := by cases c <;> exact ⟨hg, h⟩
theorem Q9E {f : Nat} {tin tout : List Ty} {J : dens tin → Option (dens tout)} (h : ∀ x, J x = none) : Qb P f (Qn tin tout J) := by
 intro ρ args H k r hr
 simp only [Qn] at hr
 split at hr
 ·rename_i x ids _
  rw [h x] at hr
  cases hb : (ids.isEmpty || tout.all Q2e) <;> rw [hb] at hr <;> cases hr
 ·cases hr
def szOK : Ty → Bool
 | .sl t => !(t.size == 0)
 | .pair a b => szOK a && szOK b
 | _ => true
theorem Q7U (H : Heap) : ∀ {t : Ty} (x : t.den), szOK t = true → argD H t (toA t x) = some (x, [])
 | .sl t, xs, h => by
  simp only [szOK, Bool.not_eq_true'] at h
  simp only [toA, argD, Q2U, dif_pos, h, cond_false]
 | .pair a b, x, h => by
  simp only [szOK, Bool.and_eq_true] at h
  simp only [toA, argD, Q7U H x.1 h.1, Q7U H x.2 h.2, Option.bind_some]
  rfl
 | .int k, x, _ => by simp only [toA, argD, Q12, if_true, Option.bind_some]
 | .bool, x, _ => rfl
 | .str, x, _ => rfl
 | .unit, x, _ => rfl
 | .arr n t, xs, _ => by simp only [toA, argD, Q12, if_true, dif_pos, Option.bind_some]
theorem Q8U (H : Heap) : ∀ {ts : List Ty} (x : dens ts), ts.all szOK = true → Q2G H ts (Q20 ts x) = some (x, [])
 | [], _, _ => rfl
 | t :: ts, x, h => by
  simp only [List.all_cons, Bool.and_eq_true] at h
  simp only [Q20, Q2G, Q7U H x.1 h.1, Q8U H x.2 h.2, Option.bind_some]
  rfl
def Q81 (tin tout : List Ty) (J : dens tin → Option (dens tout)) : Qj :=
 ⟨fun as H k => match Q2G H tin as with
  | some (x, ids) => cond (tin.all szOK) ((J x).bind fun y => k (resA tout y) (Q0v ids H) (.touch H.length ids)) none
  | none => none⟩
theorem Q5Y {i : Nat} : ∀ {ids : List Nat} {H : Heap}, i ∉ ids → (Q0v ids H)[i]? = H[i]?
 | [], _, _ => rfl
 | j :: l, H, h => by
  simp only [Q0v]
  rw [Q5Y (fun g => h (List.mem_cons_of_mem _ g)), List.getElem?_set_ne (fun e => h (by simp [e]))]
theorem Q6I {f : Nat} {tin tout : List Ty} {J : dens tin → Option (dens tout)} (h : Qb P f (Qn tin tout J)) : Qb P f (Q81 tin tout J) := by
 intro ρ args H k r hr
 simp only [Q81] at hr
 split at hr
 ·rename_i x ids hx
  cases hz : tin.all szOK with
  | false => rw [hz] at hr; cases hr
  | true =>
   rw [hz] at hr
   simp only [cond_true] at hr
   obtain ⟨y, hy, hr⟩ := Option.bind_eq_some_iff.1 hr
   refine ⟨_, _, _, hr, fun i _ hi => Q5Y hi, fun m μ w vs rh hv => ?_⟩
   have hp := Q3h (ids := ids) rh
   have hv2 := Q6j rh μ hx (fun _ h => h) hv
   have hc : (Qn tin tout J).f (Q20 tin x) (Q0v ids H) (fun v H' e => some (v, H', e)) = some (resA tout y, Q0v ids H, Eff.pure) := by
    simp only [Qn, Q8U _ x hz, List.isEmpty_nil, Bool.true_or, cond_true, hy, Option.bind_some, if_true]
   obtain ⟨v, H', e, h1, h2⟩ := h _ _ _ _ hc
   cases h1
   obtain ⟨nx, w1, h3, h4⟩ := h2.2 (Q0v ids H) (frzM m μ H w ids) μ w vs hp.rh hv2
   refine ⟨nx, w1, h3, ?_⟩
   have up : ∀ {e : Ending} {w2 : World}, Came (frzM m μ H w ids) μ (Q0v ids H) w (resA tout y) (Q0v ids H) e w2 → Came m μ H w (resA tout y) (Q0v ids H) e w2 := by
    rintro e w2 ⟨u, m', μ', he, hu, hpost⟩
    exact ⟨u, m', μ', he, hu, hp.trans hpost⟩
   rcases h4 with ⟨g, as, e1, h5⟩ | ⟨u, e1, h5⟩
   ·exact .inl ⟨g, as, e1, h5.mono fun e w2 he => up he⟩
   ·exact .inr ⟨u, e1, up h5⟩
 ·cases hr
end
end Go.Am
namespace Go.Am
open Go
def memW (W : World) : Mem := fun b => match W.heap[b]? with | some (.cells cs _ _) => some cs | _ => none
theorem Qd1 (W : World) : RH (memW W) mu0 [] W := by
 refine ⟨fun b cs hb => ?_, fun i a h => by simp at h, fun i j a b li lj h => by simp at h, fun i _ => rfl, fun i a l h => by simp at h, fun i a l h => by simp at h, fun i a l h => by simp at h, fun i j a b li lj h => by simp at h⟩
 unfold memW at hb
 split at hb
 ·rename_i c E fz h
  cases hb
  exact ⟨E, fz, h⟩
 ·cases hb
def Q5u : Ty → Bool
 | .sl t => (t.size != 0) && Q5u t
 | .pair a b => Q5u a && Q5u b
 | .arr _ t => Q5u t
 | _ => true
theorem Q6v {H : Heap} : ∀ {t : Ty} {x : t.den}, Q5u t = true → argD H t (toA t x) = some (x, [])
 | .sl t, x, h => by
  simp only [Q5u, Bool.and_eq_true, bne_iff_ne, ne_eq] at h
  exact Q7i (by simpa using h.1) (by simp [toA]) rfl
 | .pair a b, x, h => by
  simp only [Q5u, Bool.and_eq_true] at h
  simp only [toA, argD, Q6v h.1, Q6v h.2, Option.bind_some, List.append_nil]
 | .int _, x, _ => by simp [toA, argD, Q12]
 | .bool, x, _ | .str, x, _ | .unit, x, _ => rfl
 | .arr n t, x, _ => by simp [toA, argD, Q12]
theorem Q7m {H : Heap} : ∀ {ts : List Ty} {x : dens ts}, ts.all Q5u = true → Q2G H ts (Q20 ts x) = some (x, [])
 | [], _, _ => rfl
 | t :: ts, x, h => by
  rw [List.all_cons, Bool.and_eq_true] at h
  simp only [Q20, Q2G, Q6v h.1, Q7m h.2, Option.bind_some, List.append_nil]
open Go.RowKit in
theorem QbV {P : Program} {f : Nat} {fn : Func} {c : Code} {tin : List Ty} {J : dens tin → Option (dens [.bool])} (hs : Qb P f (Qn tin [.bool] J)) (hf : P.funcs[f]? = some fn) (hb : fn.body = some c) (hn : (fn.name == "runtime.NumGoroutine") = false)
  (hp : tin.all Q5u = true) {x : dens tin} (hJ : J x = some (true, ())) {W : World} {args : Array Value} (hv : Q1e (memW W) mu0 (Q20 tin x) args.toList) :
  Calls P f args W fun e W' => e = .returned (.bool true) ∧ Below W.heap.size W W' := by
 obtain ⟨v, H', e, h1, h2⟩ := hs (Q20 tin x) [] (fun v H e => some (v, H, e)) (.bool true, [], .pure) (by
  simp only [Qn, Q7m hp, hJ, List.isEmpty_nil, Bool.true_or, cond_true, Option.bind_some, if_true]
  rfl)
 cases h1
 obtain ⟨nx, w1, h3, h4⟩ := h2.2 [] (memW W) mu0 W args.toList (Qd1 W) hv
 rw [Q1z hf hb hn] at h3
 cases h3
 rcases h4 with ⟨g, ars, h5, h6⟩ | ⟨u, h5, _⟩
 ·cases h5
  simp only [Array.toArray_toList] at h6
  refine h6.mono fun e w' he => ?_
  obtain ⟨u, m', μ', he, hv, hpo⟩ := he
  have : u = .bool true := hv.isBool
  subst this
  exact ⟨he, hpo.os, hpo.tape, hpo.output, hpo.size, fun k hk => hpo.keep k hk Q49⟩
 ·cases h5
theorem QdO {n : Int} (h : (Lit.int .u64 n).wf = true) : 0 ≤ n ∧ n ≤ 18446744073709551615 := by
 simpa [Lit.wf, IntKind.min, IntKind.max, IntKind.bits, IntKind.signed] using h
theorem QdP {n : Int} (h : (Lit.int .i64 n).wf = true) : -9223372036854775808 ≤ n ∧ n ≤ 9223372036854775807 := by
 simpa [Lit.wf, IntKind.min, IntKind.max, IntKind.bits, IntKind.signed] using h
theorem QdQ {n : Int} (h : (Lit.int .u32 n).wf = true) : 0 ≤ n ∧ n ≤ 4294967295 := by
 simpa [Lit.wf, IntKind.min, IntKind.max, IntKind.bits, IntKind.signed] using h
theorem QdZ {n : Int} (h : (Lit.int .u8 n).wf = true) : 0 ≤ n ∧ n ≤ 255 := by
 simpa [Lit.wf, IntKind.min, IntKind.max, IntKind.bits, IntKind.signed] using h
section
variable {H : Type} {enc : TypeId × Value → H} {P : Program}
open Go.RowKit
theorem Q5n (hl : laidOutB P = true) {W W' : World} {sp' : Nat → Bool} : ∀ {ts : List TypeId} {vs : List Value} {ds : List (DataW H)} {ps : List MemPlace}, (∀ t ∈ ts, P.readableRec t = true ∧ t < P.types.size) →
  DataW.TrodAll enc P W 0 (fun _ => true) true ts vs ds ps → (∀ p ∈ ps, W.sameAt W' p) → (∀ p ∈ ps, sp' p.block = true) → DataW.TrodAll enc P W' 0 sp' true ts vs ds ps
 | [], [], [], ps, _, h, _, _ => h
 | t :: ts, v :: vs, d :: ds, ps, hr, h, hsame, hs => by
  obtain ⟨p, q, h1, h2, rfl⟩ := h
  exact ⟨p, q, WideElems.Trod_stays hl (hr t (by simp)).1 (hr t (by simp)).2 h1 (fun x hx => hsame x (by simp [hx])) (fun x hx => hs x (by simp [hx])),
   Q5n hl (fun t ht => hr t (by simp [ht])) h2 (fun x hx => hsame x (by simp [hx])) (fun x hx => hs x (by simp [hx])), rfl⟩
 | [], _ :: _, _, _, _, h, _, _ | [], [], _ :: _, _, _, h, _, _ | _ :: _, [], _, _, _, h, _, _ | _ :: _, _ :: _, [], _, _, h, _, _ => h.elim
theorem QcI (hl : laidOutB P = true) {f : Func} {s : ChangeSpec} {apart fresh handsOn again : Bool} {W W' : World} {args : Array Value} {ds gs : List (DataW H)} {before : List MemPlace} {tb : TypeId}
  (hread' : (f.params.toList.all fun t => P.readableRec t && decide (t < P.types.size)) = true) (hW : DataW.Whole enc P f.params.toList s.vars apart W args.toList ds gs before) (hvars : s.vars = [])
  (hsr : (s.fn H (ds ++ gs)).results = [.lit (.bool true)]) (hsa : (s.fn H (ds ++ gs)).args = ds) (hsv : (s.fn H (ds ++ gs)).vars = []) (hr : f.resultTypes = #[tb]) (htb : P.underlying tb = some .bool) (hb : Below W.heap.size W W') :
  s.post enc P f apart fresh handsOn again W args (.bool true) W' := by
 have hread : ∀ t ∈ f.params.toList, P.readableRec t = true ∧ t < P.types.size := fun t ht => by
  have := List.all_eq_true.1 hread' t ht
  simpa using this
 have hW' := hW
 obtain ⟨p, q, hA, hV, rfl, hz, hn⟩ := hW
 rw [hvars] at hV
 obtain ⟨rfl, rfl⟩ := ChangeShapes.trodVars_none hV
 have hlt : ∀ x ∈ p, x.block < W.heap.size := fun x hx => by simpa using hW'.lt x (by simp [hx])
 have hres : ∀ (b : Nat) (sp : Nat → Bool) (hd : Bool), DataW.TrodAll enc P W' b sp hd f.resultTypes.toList ((Value.bool true).resultList f.resultTypes.size) (s.fn H (ds ++ [])).results [] := by
  intro b sp hd
  rw [hsr, hr]
  exact ⟨[], [], ⟨1, by simp [DataW.trod, Value.cells, htb]⟩, rfl, rfl⟩
 have hargs : ∀ sp : Nat → Bool, (∀ x ∈ p, sp x.block = true) → DataW.TrodAll enc P W' 0 sp true f.params.toList args.toList (s.fn H (ds ++ [])).args p := by
  intro sp hsp
  rw [hsa]
  exact Q5n hl hread hA (fun x hx => hb.same (hlt x hx)) hsp
 have hvs : ∀ sp : Nat → Bool, DataW.TrodVars enc P W' sp s.vars (s.fn H (ds ++ [])).vars [] := by
  intro sp; rw [hsv, hvars]; rfl
 refine ⟨ds, [], p ++ [], [], p, [], hW', hres _ _ _, hargs _ (fun x hx => by simpa using hlt x hx), hvs _, hb.frame _, fun _ => ⟨?_, ?_⟩⟩
 ·exact ok_one hr rfl (okWide_bool_mk htb true)
 ·refine ⟨_, _, ([] ++ p) ++ [], ⟨[] ++ p, [], ChangeShapes.trodAll_append (hargs _ (fun _ _ => rfl)) (hres _ _ _), hvs _, rfl, ?_, ?_⟩, ?_⟩
  ·intro b off hp
   rw [hb.frozen (hlt (.cell b off) (by simpa using hp))]
   exact hz b off (by simpa using hp)
  ·intro ha
   have := hn ha
   simpa using this
  ·intro x hx _
   simpa using hx
end
end Go.Am
namespace Go.Am
open Go
def layF (P : Program) (g : TypeId → Ty → Bool) : Nat → List Field → Ty → Bool
 | _, [], .unit => true
 | off, f :: fs, .pair a b => f.offset == off && P.cellsOf f.type == a.size && g f.type a && layF P g (off + a.size) fs b
 | _, _, _ => false
def Q4P (P : Program) : Nat → TypeId → Ty → Bool
 | 0, _, _ => false
 | n + 1, T, t =>
  match P.underlying T, t with
  | some .bool, .bool => true
  | some (.int k), .int k' => decide (k = k')
  | some .string, .str => true
  | some (.slice e), .sl t => P.cellsOf e == t.size && t.size != 0 && Q4P P n e t
  | some (.array len e), .arr m t => len == m && P.cellsOf T == m * t.size && P.cellsOf e == t.size && Q4P P n e t
  | some (.struct fs), t => P.cellsOf T == t.size && layF P (Q4P P n) 0 fs.toList t
  | _, _ => false
def RD {H : Type} : (t : Ty) → t.den → DataW H → Prop
 | .int k, n, d => d = .lit (.int k n) ∧ (Lit.int k n).wf = true
 | .bool, b, d => d = .lit (.bool b)
 | .str, s, d => d = .lit (.string s.data.toList) ∧ s.size ≤ maxLen
 | .unit, _, d => d = .agg []
 | .pair a b, x, d => ∃ e r, d = .agg (e :: r) ∧ RD a x.1 e ∧ RD b x.2 (.agg r)
 | .arr n t, xs, d => ∃ ds : List (DataW H), d = .agg ds ∧ ds.length = n ∧ xs.length = n ∧ ∀ i, i < n → RD t (xs.getD i t.zero) (ds.getD i .nil)
 | .sl t, xs, d => (d = .nil ∧ xs = []) ∨ ∃ es sp : List (DataW H), d = .slice es sp ∧ es.length = xs.length ∧ ∀ i, i < xs.length → RD t (xs.getD i t.zero) (es.getD i .nil)
theorem Q4R {α : Type} (d : α) {R : Nat → α → Prop} : ∀ {n : Nat}, (∀ i, i < n → ∃ x, R i x) → ∃ xs : List α, xs.length = n ∧ ∀ i, i < n → R i (xs.getD i d)
 | 0, _ => ⟨[], rfl, fun i hi => by omega⟩
 | n + 1, h => by
  obtain ⟨xs, h1, h2⟩ := Q4R d (n := n) fun i hi => h i (by omega)
  obtain ⟨x, hx⟩ := h n (by omega)
  refine ⟨xs ++ [x], by simp [h1], fun i hi => ?_⟩
  rw [List.getD_eq_getElem?_getD]
  by_cases e : i = n
  ·subst e
   rw [List.getElem?_append_right (by omega), h1, Nat.sub_self]
   exact hx
  ·rw [List.getElem?_append_left (by omega), ← List.getD_eq_getElem?_getD]
   exact h2 i (by omega)
theorem Q8M {α β : Type} {f : α → Option β} : ∀ {l : List α} {r : List β}, l.mapM f = some r → r.length = l.length ∧ ∀ (i : Nat) (x : α), l[i]? = some x → ∃ y, r[i]? = some y ∧ f x = some y
 | [], r, h => by
  simp only [List.mapM_nil] at h
  cases h
  exact ⟨rfl, fun i x hx => by simp at hx⟩
 | a :: l, r, h => by
  simp only [List.mapM_cons] at h
  obtain ⟨y, h1, h2⟩ := Option.bind_eq_some_iff.1 h
  obtain ⟨ys, h3, h4⟩ := Option.bind_eq_some_iff.1 h2
  cases h4
  obtain ⟨g1, g2⟩ := Q8M h3
  refine ⟨by simp [g1], fun i x hx => ?_⟩
  cases i with
  | zero => simp only [List.getElem?_cons_zero, Option.some.injEq] at hx ⊢; subst hx; exact ⟨y, rfl, h1⟩
  | succ i => simp only [List.getElem?_cons_succ] at hx ⊢; exact g2 i x hx
theorem Qcy {W : World} {base : Nat} {a : Addr} {n : Nat} {c : List Value} (h : W.cells? base a n = some c) (hn : n ≠ 0) : a.spot = none ∧ (memW W).cells a.block a.off n = some c := by
 unfold World.cells? at h
 split at h
 ·obtain ⟨h1, h2⟩ := Q8M h
  simp only [List.length_range] at h1
  have look : ∀ i, i < n → ∃ y, c[i]? = some y ∧ W.cell? (a.add i) = some y := fun i hi => h2 i i (by simp [hi])
  obtain ⟨y0, _, h0⟩ := look 0 (by omega)
  have e0 : a.add 0 = a := rfl
  rw [e0] at h0
  unfold World.cell? at h0
  split at h0
  ·rename_i cs E fz hb
   split at h0
   ·cases h0
   ·rename_i hs
    have hs' : a.spot = none := by cases h : a.spot <;> simp_all
    refine ⟨hs', ?_⟩
    have hm : memW W a.block = some cs := by simp [memW, hb]
    have each : ∀ i, i < n → ∃ y, c[i]? = some y ∧ cs[a.off + i]? = some y := by
     intro i hi
     obtain ⟨y, g1, g2⟩ := look i hi
     refine ⟨y, g1, ?_⟩
     unfold World.cell? at g2
     have hbk : (a.add i).block = a.block := by unfold Addr.add; split <;> rfl
     have hoff : (a.add i).off = a.off + i := by unfold Addr.add; split <;> simp_all
     have hsp : (a.add i).spot = none := by unfold Addr.add; split <;> simp_all
     rw [hbk, hb] at g2
     simp only [hsp, hoff, Option.isSome_none, Bool.false_eq_true, if_false] at g2
     exact g2
    have hsz : a.off + n ≤ cs.size := by
     obtain ⟨y, _, g⟩ := each (n - 1) (by omega)
     have := (Array.getElem?_eq_some_iff.1 g).1
     omega
    simp only [Mem.cells, hm, if_pos hsz, Option.some.injEq]
    apply List.ext_getElem?
    intro i
    by_cases hi : i < n
    ·obtain ⟨y, g1, g2⟩ := each i hi
     rw [g1, List.getElem?_take, if_pos hi, List.getElem?_drop]
     simpa using g2
    ·rw [List.getElem?_eq_none (by simp; omega), List.getElem?_eq_none (by omega)]
  ·cases h0
 ·cases h
section
variable {H : Type} {enc : TypeId × Value → H} {P : Program}
theorem Q53 {W : World} {sp : Nat → Bool} {held : Bool} : ∀ (n : Nat) {fuel : Nat} {T : TypeId} {t : Ty} {cs : List Value} {d : DataW H} {ps : List MemPlace}, Q4P P n T t = true → DataW.trod enc P W 0 sp held fuel T cs = some (d, ps) →
  ∃ x : t.den, DRel (memW W) t x cs ∧ RD t x d
 | 0, _, _, _, _, _, _, h, _ => by simp [Q4P] at h
 | n + 1, 0, _, _, _, _, _, _, h => by simp [DataW.trod] at h
 | n + 1, fuel + 1, T, t, cs, d, ps, hl, h => by
  simp only [Q4P] at hl
  split at hl
  ·rename_i hu
   obtain ⟨b, rfl, hx⟩ := DataW.trod_bool hu h
   cases hx
   exact ⟨b, rfl, rfl⟩
  ·rename_i k k' hu
   simp only [decide_eq_true_eq] at hl
   subst hl
   obtain ⟨m, rfl, hx, hw⟩ := DataW.trod_int hu h
   cases hx
   exact ⟨m, rfl, rfl, hw⟩
  ·rename_i hu
   obtain ⟨b, rfl, hx, hw⟩ := DataW.trod_string hu h
   cases hx
   exact ⟨b, rfl, rfl, hw⟩
  ·rename_i e t hu
   simp only [Bool.and_eq_true, beq_iff_eq, bne_iff_ne] at hl
   obtain ⟨⟨hce, hts⟩, hle⟩ := hl
   rcases DataW.trod_slice hu h with ⟨rfl, hx⟩ | ⟨a, len, cap, elems, rest, m, _, rfl, hx, hb, hlc, hcm, hlen, hel, _, _⟩
   ·cases hx
    exact ⟨[], ⟨none, 0, rfl, Nat.le_refl _, fun i hi => by simp at hi⟩, .inl ⟨rfl, rfl⟩⟩
   ·cases hx
    have key : ∀ i, i < len → ∃ x : t.den, (∃ c, (a.add (i * t.size)).spot = none ∧ (memW W).cells a.block (a.off + i * t.size) t.size = some c ∧ DRel (memW W) t x c) ∧ RD t x ((elems.map (·.1)).getD i .nil) := by
     intro i hi
     have h1 := hel i hi
     have hel2 : elems[i]? = some (elems[i]'(by omega)) := by simp [show i < elems.length by omega]
     rw [hel2, Option.bind_eq_some_iff] at h1
     obtain ⟨c, h2, h3⟩ := h1
     rw [hce] at h2
     obtain ⟨g1, g2⟩ := Qcy h2 hts
     obtain ⟨x, k1, k2⟩ := Q53 n (d := (elems[i]'(by omega)).1) (ps := (elems[i]'(by omega)).2) hle h3
     have hbk : (a.add (i * t.size)).block = a.block := by unfold Addr.add; split <;> rfl
     have hoff : (a.add (i * t.size)).off = a.off + i * t.size := by unfold Addr.add; split <;> simp_all
     rw [hbk, hoff] at g2
     refine ⟨x, ⟨c, g1, g2, k1⟩, ?_⟩
     rw [List.getD_eq_getElem?_getD, List.getElem?_map, hel2]
     exact k2
    obtain ⟨xs, h1, h2⟩ := Q4R t.zero key
    refine ⟨xs, ⟨some a, cap, by rw [h1], by omega, fun i hi => ?_⟩, .inr ⟨_, _, rfl, by simp [hlen, h1], fun i hi => ?_⟩⟩
    ·rw [h1] at hi
     obtain ⟨⟨c, g1, g2, g3⟩, _⟩ := h2 i hi
     obtain ⟨⟨c0, g4, _, _⟩, _⟩ := h2 0 (by omega)
     have : a.spot = none := by simpa [Addr.add] using g4
     exact ⟨a, c, rfl, this, g2, g3⟩
    ·rw [h1] at hi
     exact (h2 i hi).2
  ·rename_i len e m t hu
   simp only [Bool.and_eq_true, beq_iff_eq] at hl
   obtain ⟨⟨⟨rfl, hcT⟩, hce⟩, hle⟩ := hl
   obtain ⟨elems, m, _, hx, hlen, hel, hr⟩ := DataW.trod_array hu h
   cases hx
   have key : ∀ i, i < len → ∃ x : t.den, DRel (memW W) t x ((cs.drop (i * t.size)).take t.size) ∧ RD t x ((elems.map (·.1)).getD i .nil) := by
    intro i hi
    have h1 := hr i hi
    have hel2 : elems[i]? = some (elems[i]'(by omega)) := by simp [show i < elems.length by omega]
    rw [hel2, hce] at h1
    obtain ⟨x, k1, k2⟩ := Q53 n (d := (elems[i]'(by omega)).1) (ps := (elems[i]'(by omega)).2) hle h1
    refine ⟨x, k1, ?_⟩
    rw [List.getD_eq_getElem?_getD, List.getElem?_map, hel2]
    exact k2
   obtain ⟨xs, h1, h2⟩ := Q4R t.zero key
   exact ⟨xs, ⟨h1, by rw [hlen, hcT], fun i hi => (h2 i hi).1⟩, ⟨_, rfl, by simp [hel], h1, fun i hi => (h2 i hi).2⟩⟩
  ·rename_i t _ _ fs hu
   simp only [Bool.and_eq_true, beq_iff_eq] at hl
   obtain ⟨hcT, hlf⟩ := hl
   obtain ⟨elems, m, _, hx, hlen, hel, hr⟩ := DataW.trod_struct hu h
   cases hx
   have key : ∀ (l : List Field) (off j : Nat) (t : Ty), (∀ i : Nat, l[i]? = fs[j + i]?) → layF P (Q4P P n) off l t = true → off + t.size = cs.length →
     ∃ x : t.den, DRel (memW W) t x (cs.drop off) ∧ RD t x (.agg ((elems.map (·.1)).drop j)) := by
    intro l
    induction l with
    | nil =>
     intro off j t hl h1 h2
     cases t <;> simp only [layF] at h1 <;> try (cases h1; done)
     refine ⟨(), ?_, ?_⟩
     ·simp only [Ty.size, Nat.add_zero] at h2
      simp only [DRel]
      rw [h2]; simp
     ·have := hl 0
      simp only [Nat.add_zero, List.getElem?_nil] at this
      have hj : fs.size ≤ j := by
       rcases Nat.lt_or_ge j fs.size with h | h
       ·simp [h] at this
       ·exact h
      simp only [RD]
      rw [List.drop_eq_nil_of_le (by simp; omega)]
    | cons f l ih =>
     intro off j t hl h1 h2
     cases t <;> simp only [layF] at h1 <;> try (cases h1; done)
     rename_i a b
     simp only [Bool.and_eq_true, beq_iff_eq] at h1
     obtain ⟨⟨⟨ho, hs⟩, hg⟩, hrest⟩ := h1
     simp only [Ty.size] at h2
     have hf : fs[j]? = some f := by have := hl 0; simpa using this.symm
     have hr1 := hr j f hf
     have hjlt : j < fs.size := (Array.getElem?_eq_some_iff.1 hf).1
     have hel2 : elems[j]? = some (elems[j]'(by omega)) := by simp [show j < elems.length by omega]
     rw [hel2, hs, ho] at hr1
     obtain ⟨x, k1, k2⟩ := Q53 n (d := (elems[j]'(by omega)).1) (ps := (elems[j]'(by omega)).2) hg hr1
     obtain ⟨y, k3, k4⟩ := ih (off + a.size) (j + 1) b (fun i => by have := hl (i + 1); simpa [Nat.add_assoc, Nat.add_comm 1 i] using this) hrest (by omega)
     refine ⟨(x, y), ?_, ?_⟩
     ·simp only [DRel]
      exact ⟨k1, by rw [List.drop_drop]; exact k3⟩
     ·simp only [RD]
      refine ⟨_, _, ?_, k2, k4⟩
      rw [List.drop_eq_getElem_cons (by simp; omega)]
      simp
   have := key fs.toList 0 0 t (fun i => by simp) hlf (by rw [hlen, hcT]; simp)
   simpa using this
  ·cases hl
theorem QaA {W : World} {r : Reach} {base : Nat} {T : TypeId} {t : Ty} {v : Value} {n : Nat} (hl : Q4P P n T t = true) (hv : Value.okWide P W r base T v) :
  if (toA t t.zero).isAgg then ∃ cs, v = .agg cs else v.cells = #[v] := by
 cases n with
 | zero => simp [Q4P] at hl
 | succ n =>
  simp only [Q4P] at hl
  unfold Value.okWide at hv
  split at hl
  ·rename_i hu
   rw [hu] at hv; dsimp only at hv
   unfold Cell.okWide Cell.ok at hv
   rw [hu] at hv
   cases v <;> simp_all [toA, AVal.isAgg, Value.cells]
  ·rename_i k k' hu
   rw [hu] at hv; dsimp only at hv
   unfold Cell.okWide Cell.ok at hv
   rw [hu] at hv
   cases v <;> simp_all [toA, AVal.isAgg, Value.cells]
  ·rename_i hu
   rw [hu] at hv; dsimp only at hv
   unfold Cell.okWide Cell.ok at hv
   rw [hu] at hv
   cases v <;> simp_all [toA, AVal.isAgg, Value.cells]
  ·rename_i e t hu
   rw [hu] at hv; dsimp only at hv
   unfold Cell.okWide Cell.ok at hv
   rw [hu] at hv
   cases v <;> simp_all [toA, AVal.isAgg, Value.cells]
  ·rename_i len e m t hu
   rw [hu] at hv; dsimp only at hv
   obtain ⟨cs, h, _⟩ := hv
   simp only [toA, AVal.isAgg, if_true]
   exact ⟨cs, h⟩
  ·rename_i t _ _ fs hu
   rw [hu] at hv; dsimp only at hv
   obtain ⟨cs, h, _⟩ := hv
   simp only [Bool.and_eq_true] at hl
   have : (toA t t.zero).isAgg = true := by
    cases hf : fs.toList with
    | nil => rw [hf] at hl; cases t <;> simp [layF] at hl <;> rfl
    | cons f l => rw [hf] at hl; cases t <;> simp [layF] at hl <;> rfl
   rw [this]
   exact ⟨cs, h⟩
  ·cases hl
theorem QbN {t : Ty} (x y : t.den) : (toA t x).isAgg = (toA t y).isAgg := by cases t <;> rfl
theorem QbQ {W : World} {t : Ty} {x : t.den} {v : Value} (ha : if (toA t t.zero).isAgg then ∃ cs, v = .agg cs else v.cells = #[v]) (h : DRel (memW W) t x v.cells.toList) : VRel (memW W) mu0 (toA t x) v := by
 rw [QbN t.zero x] at ha
 have hne := Q3J (t := t) (x := x)
 rw [Q4r hne.2, Q1K hne.1 hne.2]
 split
 ·rename_i hx
  rw [if_pos hx] at ha
  obtain ⟨cs, rfl⟩ := ha
  exact ⟨cs, rfl, Q1n.2 h⟩
 ·rename_i hx
  rw [if_neg hx] at ha
  rw [ha] at h
  exact Q1n.2 h
def Q7C (P : Program) : List TypeId → List Ty → Bool
 | [], [] => true
 | T :: Ts, t :: ts => Q4P P 40 T t && Q7C P Ts ts
 | _, _ => false
def RDa : (ts : List Ty) → dens ts → List (DataW H) → Prop
 | [], _, ds => ds = []
 | t :: ts, x, ds => ∃ d r, ds = d :: r ∧ RD t x.1 d ∧ RDa ts x.2 r
theorem Qa6 {W : World} {base : Nat} {sp : Nat → Bool} {held : Bool} : ∀ {Ts : List TypeId} {ts : List Ty} {vs : List Value} {ds : List (DataW H)} {ps : List MemPlace}, Q7C P Ts ts = true →
  (∀ (j : Nat) T v, Ts[j]? = some T → vs[j]? = some v → Value.okWide P W .any base T v) → DataW.TrodAll enc P W 0 sp held Ts vs ds ps → ∃ x : dens ts, Q1e (memW W) mu0 (Q20 ts x) vs ∧ RDa ts x ds
 | [], [], [], [], _, _, _, _ => ⟨(), trivial, rfl⟩
 | T :: Ts, t :: ts, v :: vs, d :: ds, ps, hl, hv, h => by
  simp only [Q7C, Bool.and_eq_true] at hl
  obtain ⟨p, q, h1, h2, rfl⟩ := h
  obtain ⟨fuel, h1⟩ := h1
  obtain ⟨x, k1, k2⟩ := Q53 40 hl.1 h1
  obtain ⟨y, k3, k4⟩ := Qa6 hl.2 (fun j T v h3 h4 => hv (j + 1) T v (by simpa using h3) (by simpa using h4)) h2
  exact ⟨(x, y), ⟨QbQ (QaA hl.1 (hv 0 T v rfl rfl)) k1, k3⟩, ⟨d, ds, rfl, k2, k4⟩⟩
 | [], [], _ :: _, _, _, _, _, h | [], [], [], _ :: _, _, _, _, h | _ :: _, _ :: _, [], _, _, _, _, h | _ :: _, _ :: _, _ :: _, [], _, _, _, h => h.elim
 | [], _ :: _, _, _, _, h, _, _ | _ :: _, [], _, _, _, h, _, _ => by simp [Q7C] at h
end
end Go.Am
namespace Go.Am
open Go
def WF (n : Nat) : (t : Ty) → t.den → Prop
 | .int k, x => (Lit.int k x).wf = true
 | .str, s => s.size ≤ n
 | .sl t, xs => xs.length ≤ n ∧ ∀ i, i < xs.length → WF n t (xs.getD i t.zero)
 | .arr m t, xs => xs.length = m ∧ ∀ i, i < m → WF n t (xs.getD i t.zero)
 | .pair a b, x => WF n a x.1 ∧ WF n b x.2
 | .bool, _ => True
 | .unit, _ => True
def WFa (n : Nat) : (ts : List Ty) → dens ts → Prop
 | [], _ => True
 | t :: ts, x => WF n t x.1 ∧ WFa n ts x.2
def bulk : (t : Ty) → t.den → Nat
 | .str, s => s.size + 1
 | .sl t, xs => (xs.map (bulk t)).sum + 1
 | .arr _ t, xs => (xs.map (bulk t)).sum + 1
 | .pair a b, x => bulk a x.1 + bulk b x.2
 | .int _, _ => 1
 | .bool, _ => 1
 | .unit, _ => 0
def Q9r : (ts : List Ty) → dens ts → Nat
 | [], _ => 0
 | t :: ts, x => bulk t x.1 + Q9r ts x.2
def layB (P : Program) (g : TypeId → Ty → Bool) : List Field → Ty → Bool
 | [], .unit => true
 | f :: fs, .pair a b => g f.type a && layB P g fs b
 | _, _ => false
def Q3C (P : Program) : Nat → TypeId → Ty → Bool
 | 0, _, _ => false
 | n + 1, T, t =>
  match P.underlying T, t with
  | some .bool, .bool => true
  | some (.int _), .int _ => true
  | some .string, .str => true
  | some (.slice e), .sl t => P.bytesOf e != 0 && Q3C P n e t
  | some (.array _ e), .arr _ t => Q3C P n e t
  | some (.struct fs), t => layB P (Q3C P n) fs.toList t
  | _, _ => false
section
variable {H : Type} {enc : TypeId × Value → H} {P : Program}
theorem Q3b {e : TypeId} {N : Nat} : ∀ {l : List (DataW H)}, (∀ w ∈ DataW.weightsAll P e l, w ≤ N) → ∀ (i : Nat) (d : DataW H), l[i]? = some d → ∀ w ∈ d.weights P e, w ≤ N
 | [], _, i, d, hd, _, _ => by simp at hd
 | d0 :: l, h, 0, d, hd, w, hw => by
  simp only [List.getElem?_cons_zero, Option.some.injEq] at hd
  subst hd
  exact h w (by simp only [DataW.weightsAll, List.mem_append]; exact .inl hw)
 | d0 :: l, h, i + 1, d, hd, w, hw => by
  simp only [List.getElem?_cons_succ] at hd
  exact Q3b (fun w hw => h w (by simp only [DataW.weightsAll, List.mem_append]; exact .inr hw)) i d hd w hw
theorem Qbp {N : Nat} : ∀ (n : Nat) {T : TypeId} {t : Ty} {x : t.den} {d : DataW H}, Q3C P n T t = true → RD t x d → (∀ w ∈ d.weights P T, w ≤ N) → WF N t x
 | 0, _, _, _, _, h, _, _ => by simp [Q3C] at h
 | n + 1, T, t, x, d, hl, hr, hw => by
  simp only [Q3C] at hl
  split at hl
  ·trivial
  ·exact hr.2
  ·obtain ⟨rfl, _⟩ := hr
   have := hw x.data.toList.length (by simp [DataW.weights])
   simpa [WF] using this
  ·rename_i e t hu
   simp only [Bool.and_eq_true, bne_iff_ne] at hl
   rcases hr with ⟨rfl, rfl⟩ | ⟨es, sp, rfl, h1, h2⟩
   ·exact ⟨Nat.zero_le _, fun i hi => by simp at hi⟩
   ·simp only [DataW.weights, hu] at hw
    refine ⟨?_, fun i hi => ?_⟩
    ·have := hw ((es.length + sp.length) * P.bytesOf e) (by simp)
     have h3 : es.length ≤ (es.length + sp.length) * P.bytesOf e := Nat.le_trans (Nat.le_add_right _ _) (Nat.le_mul_of_pos_right _ (by omega))
     omega
    ·have hd : es[i]? = some (es.getD i .nil) := by rw [List.getD_eq_getElem?_getD]; simp [show i < es.length by omega]
     exact Qbp n hl.2 (h2 i hi) (Q3b (fun w hx => hw w (by simp [hx])) i _ hd)
  ·rename_i len e m t hu
   obtain ⟨ds, rfl, h1, h2, h3⟩ := hr
   simp only [DataW.weights, hu] at hw
   refine ⟨h2, fun i hi => ?_⟩
   have hd : ds[i]? = some (ds.getD i .nil) := by rw [List.getD_eq_getElem?_getD]; simp [show i < ds.length by omega]
   exact Qbp n hl (h3 i hi) (Q3b hw i _ hd)
  ·rename_i t _ _ fs hu
   have key : ∀ (l : List Field) (t : Ty) (x : t.den) (ds : List (DataW H)), layB P (Q3C P n) l t = true → RD t x (.agg ds) → (∀ w ∈ DataW.weightsEach P (l.map (·.type)) ds, w ≤ N) → WF N t x := by
    intro l
    induction l with
    | nil =>
     intro t x ds h1 _ _
     cases t <;> simp only [layB] at h1 <;> try (cases h1; done)
     trivial
    | cons f l ih =>
     intro t x ds h1 h2 h3
     cases t <;> simp only [layB] at h1 <;> try (cases h1; done)
     simp only [Bool.and_eq_true] at h1
     obtain ⟨e, r, h4, h5, h6⟩ := h2
     cases h4
     simp only [List.map_cons, DataW.weightsEach, List.mem_append] at h3
     exact ⟨Qbp n h1.1 h5 (fun w hw => h3 w (.inl hw)), ih _ _ r h1.2 h6 fun w hw => h3 w (.inr hw)⟩
   have hd : ∃ ds, d = .agg ds := by
    cases hf : fs.toList with
    | nil => rw [hf] at hl; cases t <;> simp only [layB] at hl <;> first | (cases hl; done) | exact ⟨_, hr⟩
    | cons f l => 
     rw [hf] at hl; cases t <;> simp only [layB] at hl <;> try (cases hl; done)
     obtain ⟨e, r, h4, _⟩ := hr
     exact ⟨_, h4⟩
   obtain ⟨ds, rfl⟩ := hd
   refine key fs.toList t x ds hl hr ?_
   simpa [DataW.weights, hu] using hw
  ·cases hl
def Q4B (P : Program) : List TypeId → List Ty → Bool
 | [], [] => true
 | T :: Ts, t :: ts => Q3C P 40 T t && Q4B P Ts ts
 | _, _ => false
theorem Qci {N : Nat} : ∀ {Ts : List TypeId} {ts : List Ty} {x : dens ts} {ds : List (DataW H)}, Q4B P Ts ts = true → RDa ts x ds → (∀ w ∈ DataW.weightsEach P Ts ds, w ≤ N) → WFa N ts x
 | _, [], _, _, _, _, _ => trivial
 | [], _ :: _, _, _, h, _, _ => by simp [Q4B] at h
 | T :: Ts, t :: ts, x, ds, hl, hr, hw => by
  simp only [Q4B, Bool.and_eq_true] at hl
  obtain ⟨d, r, rfl, h1, h2⟩ := hr
  simp only [DataW.weightsEach, List.mem_append] at hw
  exact ⟨Qbp 40 hl.1 h1 (fun w h => hw w (.inl h)), Qci hl.2 h2 fun w h => hw w (.inr h)⟩
structure Bulk (B : DataW H → Nat) (BA : List (DataW H) → Nat) : Prop where
 pos : ∀ d, 1 ≤ B d
 nil : BA [] = 0
 cons : ∀ d r, BA (d :: r) = B d + BA r
 str : ∀ b, B (.lit (.string b)) = b.length + 1
 sl : ∀ e s, B (.slice e s) = BA e + BA s + 1
 agg : ∀ p, B (.agg p) = BA p + 1
theorem Qb6 {α β : Type} {f : α → Nat} {g : β → Nat} (da : α) (db : β) : ∀ {xs : List α} {ds : List β}, xs.length = ds.length → (∀ i, i < xs.length → f (xs.getD i da) ≤ g (ds.getD i db)) → (xs.map f).sum ≤ (ds.map g).sum
 | [], [], _, _ => Nat.le_refl _
 | x :: xs, d :: ds, hl, h => by
  simp only [List.map_cons, List.sum_cons]
  have h0 := h 0 (by simp)
  have h1 := Qb6 da db (f := f) (g := g) (xs := xs) (ds := ds) (by simpa using hl) (fun i hi => by have := h (i + 1) (by simpa using hi); simpa using this)
  simp at h0
  omega
 | [], _ :: _, hl, _ | _ :: _, [], hl, _ => by simp at hl
theorem Bulk.sum {B : DataW H → Nat} {BA : List (DataW H) → Nat} (h : Bulk B BA) : ∀ l, BA l = (l.map B).sum
 | [] => by simp [h.nil]
 | d :: l => by rw [h.cons, h.sum l]; simp
theorem Q6d {B : DataW H → Nat} {BA : List (DataW H) → Nat} (h : Bulk B BA) : ∀ {t : Ty} {x : t.den} {d : DataW H}, RD t x d → bulk t x ≤ B d
 | .int _, _, d, _ | .bool, _, d, _ => h.pos d
 | .unit, _, _, _ => Nat.zero_le _
 | .str, s, d, hr => by
  obtain ⟨rfl, _⟩ := hr
  rw [h.str]
  simp [bulk]
 | .pair a b, x, d, hr => by
  obtain ⟨e, r, rfl, h1, h2⟩ := hr
  have k1 := Q6d h h1
  have k2 := Q6d h h2
  rw [h.agg] at k2
  rw [h.agg, h.cons]
  simp only [bulk]
  omega
 | .arr n t, xs, d, hr => by
  obtain ⟨ds, rfl, h1, h2, h3⟩ := hr
  rw [h.agg, h.sum]
  have := Qb6 (f := bulk t) (g := B) t.zero .nil (xs := xs) (ds := ds) (by omega) fun i hi => Q6d h (h3 i (by omega))
  simp only [bulk]
  omega
 | .sl t, xs, d, hr => by
  rcases hr with ⟨rfl, rfl⟩ | ⟨es, sp, rfl, h1, h2⟩
  ·have := h.pos .nil
   simpa [bulk] using this
  ·rw [h.sl, h.sum]
   have := Qb6 (f := bulk t) (g := B) t.zero .nil (xs := xs) (ds := es) (by omega) fun i hi => Q6d h (h2 i hi)
   simp only [bulk]
   omega
theorem Qc1 {B : DataW H → Nat} {BA : List (DataW H) → Nat} (h : Bulk B BA) : ∀ {ts : List Ty} {x : dens ts} {ds : List (DataW H)}, RDa ts x ds → Q9r ts x ≤ BA ds
 | [], _, _, _ => Nat.zero_le _
 | t :: ts, x, _, hr => by
  obtain ⟨d, r, rfl, h1, h2⟩ := hr
  have k1 := Q6d h h1
  have k2 := Qc1 h h2
  rw [h.cons]
  simp only [Q9r]
  omega
theorem Q8a : ∀ {ts : List Ty} {x : dens ts} {ds : List (DataW H)}, RDa ts x ds → ds.length = ts.length
 | [], _, _, h => by cases h; rfl
 | t :: ts, x, _, h => by
  obtain ⟨d, r, rfl, _, h2⟩ := h
  simp [Q8a h2]
theorem len1 {α : Type} {l : List α} (h : l.length = 1) : ∃ a, l = [a] := by
 match l, h with
 | [a], _ => exact ⟨a, rfl⟩
theorem len2 {α : Type} {l : List α} (h : l.length = 2) : ∃ a b, l = [a, b] := by
 match l, h with
 | [a, b], _ => exact ⟨a, b, rfl⟩
theorem len3 {α : Type} {l : List α} (h : l.length = 3) : ∃ a b c, l = [a, b, c] := by
 match l, h with
 | [a, b, c], _ => exact ⟨a, b, c, rfl⟩
theorem len4 {α : Type} {l : List α} (h : l.length = 4) : ∃ a b c d, l = [a, b, c, d] := by
 match l, h with
 | [a, b, c, d], _ => exact ⟨a, b, c, d, rfl⟩
open Go.RowKit in
theorem Qd4 {C : Checked} {f : FuncId} {fn : Func} {c : Code} {s : ChangeSpec} {ts : List Ty} {tb : TypeId} {apart fresh handsOn again : Bool} {J : Nat → dens ts → Option (dens [.bool])}
  (laid : laidOutB C.prog = true) (hfn : C.prog.funcs[f]? = some fn) (hbody : fn.body = some c)
  (closed : ((fn.name == "runtime.NumGoroutine") == false && (ts.all Q5u && (Q7C C.prog fn.params.toList ts && (Q4B C.prog fn.params.toList ts && (fn.params.toList.all fun t => C.prog.readableRec t && decide (t < C.prog.types.size)))))) = true)
  (hsem : ∀ k, Qb C.prog f (Qn ts [.bool] (J k)))
  (hvars : s.vars = []) (hspec : ∀ ds : List (DataW H), ds.length = ts.length → (s.fn H ds).results = [.lit (.bool true)] ∧ (s.fn H ds).args = ds ∧ (s.fn H ds).vars = [])
  (hr : fn.resultTypes = #[tb]) (htb : C.prog.underlying tb = some .bool)
  {W : World} {base : Nat} {args : Array Value} {ds gs : List (DataW H)} {before : List MemPlace}
  (hJ : ∀ x : dens ts, RDa ts x ds → WFa reachBytes ts x → ∃ k, J k x = some (true, ()))
  (hval : ∀ (j : Nat) t v, fn.params[j]? = some t → args[j]? = some v → Value.okWide C.prog W .any base t v)
  (hW : DataW.Whole enc C.prog fn.params.toList s.vars apart W args.toList ds gs before)
  (hsz : (DataW.weightsEach C.prog (fn.params.toList ++ s.plain.varTypes C.prog) (ds ++ gs)).all (· ≤ reachBytes) = true) :
  Calls C.prog f args W fun e W' => ∃ v, e = .returned v ∧ s.post enc C.prog fn apart fresh handsOn again W args v W' := by
 simp only [Bool.and_eq_true, beq_iff_eq] at closed
 obtain ⟨h1, h2, h3, h4, h5⟩ := closed
 have hW' := hW
 obtain ⟨p, q, hA, hV, rfl, hfz, hnd⟩ := hW
 have hV2 := hV
 rw [hvars] at hV2
 obtain ⟨rfl, rfl⟩ := ChangeShapes.trodVars_none hV2
 obtain ⟨x, hx, hd⟩ := Qa6 (enc := enc) (base := base) h3 (fun j T v a b => hval j T v (by simpa using a) (by simpa using b)) hA
 have hsz' : ∀ w ∈ DataW.weightsEach C.prog fn.params.toList ds, w ≤ reachBytes := by
  have hvt : s.plain.varTypes C.prog = [] := by
   show s.vars.filterMap _ = []
   rw [hvars]
   rfl
  rw [hvt] at hsz
  simp only [List.append_nil, List.all_eq_true, decide_eq_true_eq] at hsz
  exact hsz
 have hwf := Qci (x := x) h4 hd hsz'
 obtain ⟨k, hk⟩ := hJ x hd hwf
 refine (QbV (hsem k) hfn hbody h1 h2 hk (W := W) (args := args) hx).mono fun e W' ⟨he, hb⟩ => ?_
 subst he
 have hl : (ds ++ []).length = ts.length := by rw [List.append_nil]; exact Q8a hd
 obtain ⟨g1, g2, g3⟩ := hspec (ds ++ []) hl
 exact ⟨_, rfl, QcI laid h5 hW' hvars g1 (g2.trans (List.append_nil _)) g3 hr htb hb⟩
end
end Go.Am
namespace Go.Am
open Go
def exTy : Ty → Bool
 | .sl _ => false
 | .pair a b => exTy a && exTy b
 | _ => true
def exTm : Tm → Bool
 | .undef => false
 | .dat t => exTy t
 | .pair a b => exTm a && exTm b
 | .fn _ c => exTm c
 | .tup c => exTm c
 | _ => true
def Q7c (H : Heap) (as : List AVal) (keep : List Nat) : Bool :=
 (idsL as).all (fun i => inB i keep) && keep.all fun i => match H[i]? with | some (some a) => (idsA a).all (fun j => inB j keep) | _ => false
def Qdf (T : Q19) (os : List Out) (J : T.T.den → Option (outDen os)) : Qj :=
  ⟨fun as0 H k =>
    match Q2w H T.args as0 with
    | some (as, []) =>
      let kp := Q4m T.nf H as
      cond (kp.2.isEmpty && Nat.beq kp.1.length T.nf && Q1V kp.1 && Q2z H kp.1 && Q7c H as kp.1)
        (match T.T.mat ⟨as.map fun a => (renA kp.1 a).getD .undef, kp.1.map fun i => (H.getD i none).bind (renA kp.1)⟩ with
         | some x => (J x).bind fun y => Q27 os y fun _ s => cond (Q2n s.sl && (idsL s.sl).isEmpty) (k (resL s.sl) H (.read kp.1)) none
         | none => none) none
    | _ => none⟩
theorem QcN : ∀ {t : Ty} {a : AVal} {x : t.den}, exTy t = true → Q12 t a = some x → toA t x = a := by
 intro t
 induction t with
 | pair u v hu hv =>
  intro a x h hx
  simp only [exTy, Bool.and_eq_true] at h
  cases a <;> simp only [Q12] at hx <;> try (cases hx; done)
  rw [Option.bind_eq_some_iff] at hx
  obtain ⟨p, h1, hx⟩ := hx
  rw [Option.bind_eq_some_iff] at hx
  obtain ⟨q, h2, hx⟩ := hx
  cases hx
  simp only [toA, hu h.1 h1, hv h.2 h2]
 | sl t => intro a x h; cases h
 | arr n t =>
  intro a x h hx
  cases a <;> simp only [Q12] at hx <;> try (cases hx; done)
  split at hx
  ·rename_i e; subst e
   split at hx
   ·rename_i e; subst e; cases hx; rfl
   ·cases hx
  ·cases hx
 | int k =>
  intro a x h hx
  cases a <;> simp only [Q12] at hx <;> try (cases hx; done)
  split at hx
  ·rename_i e; subst e; cases hx; rfl
  ·cases hx
 | bool => intro a x h hx; cases a <;> simp only [Q12] at hx <;> first | (cases hx; done) | (cases hx; rfl)
 | str => intro a x h hx; cases a <;> simp only [Q12] at hx <;> first | (cases hx; done) | (cases hx; rfl)
 | unit => intro a x h hx; cases a <;> simp only [Q12] at hx <;> first | (cases hx; done) | rfl
theorem Qdz : ∀ {t : Tm} {a : AVal} {x : t.den}, exTm t = true → t.mat a = some x → t.inst x = a := by
 intro t
 induction t with
 | undef => intro a x h; cases h
 | dat t => intro a x h hx; exact QcN h hx
 | pair u v hu hv =>
  intro a x h hx
  simp only [exTm, Bool.and_eq_true] at h
  cases a <;> simp only [Tm.mat] at hx <;> try (cases hx; done)
  rw [Option.bind_eq_some_iff] at hx
  obtain ⟨p, h1, hx⟩ := hx
  rw [Option.bind_eq_some_iff] at hx
  obtain ⟨q, h2, hx⟩ := hx
  cases hx
  simp only [Tm.inst, hu h.1 h1, hv h.2 h2]
 | fn f c ih =>
  intro a x h hx
  cases a <;> simp only [Tm.mat] at hx <;> try (cases hx; done)
  split at hx
  ·rename_i e; subst e; simp only [Tm.inst, ih h hx]
  ·cases hx
 | tup c ih =>
  intro a x h hx
  cases a <;> simp only [Tm.mat] at hx <;> try (cases hx; done)
  simp only [Tm.inst, ih h hx]
 | vec t =>
  intro a x h hx
  cases a <;> simp only [Tm.mat] at hx <;> try (cases hx; done)
  split at hx
  ·rename_i e; subst e; cases hx; rfl
  ·cases hx
 | mpd k v =>
  intro a x h hx
  cases a <;> simp only [Tm.mat] at hx <;> try (cases hx; done)
  split at hx
  ·rename_i e; subst e
   split at hx
   ·rename_i e; subst e; cases hx; rfl
   ·cases hx
  ·cases hx
 | slr id p =>
  intro a x h hx
  cases a <;> simp only [Tm.mat] at hx <;> try (cases hx; done)
  split at hx
  ·rename_i e; obtain ⟨e1, e2⟩ := e; subst e1; subst e2; cases hx; rfl
  ·cases hx
 | ptr id p =>
  intro a x h hx
  cases a <;> simp only [Tm.mat] at hx <;> try (cases hx; done)
  split at hx
  ·rename_i e; obtain ⟨e1, e2⟩ := e; subst e1; subst e2; rfl
  ·cases hx
 | sfp id p T =>
  intro a x h hx
  cases a <;> simp only [Tm.mat] at hx <;> try (cases hx; done)
  split at hx
  ·rename_i e; obtain ⟨e1, e2, e3⟩ := e; subst e1; subst e2; subst e3; rfl
  ·cases hx
 | vsl id =>
  intro a x h hx
  cases a <;> simp only [Tm.mat] at hx <;> try (cases hx; done)
  split at hx
  ·rename_i e; subst e; rfl
  ·cases hx
 | vbs id =>
  intro a x h hx
  cases a <;> simp only [Tm.mat] at hx <;> try (cases hx; done)
  split at hx
  ·rename_i e; subst e; rfl
  ·cases hx
 | mp id =>
  intro a x h hx
  cases a <;> simp only [Tm.mat] at hx <;> try (cases hx; done)
  split at hx
  ·rename_i e; subst e; rfl
  ·cases hx
 | nilp => intro a x h hx; cases a <;> simp only [Tm.mat] at hx <;> first | (cases hx; done) | rfl
 | nils => intro a x h hx; cases a <;> simp only [Tm.mat] at hx <;> first | (cases hx; done) | rfl
 | nilm => intro a x h hx; cases a <;> simp only [Tm.mat] at hx <;> first | (cases hx; done) | rfl
 | unit => intro a x h hx; cases a <;> simp only [Tm.mat] at hx <;> first | (cases hx; done) | rfl
theorem Qbh : ∀ {l : List AVal} {i : Nat} {a : AVal}, l[i]? = some a → a ≠ .undef → (optH l)[i]? = some (some a)
 | [], i, a, h, _ => by simp at h
 | b :: l, i, a, h, hn => by
  cases i with
  | zero =>
   simp only [List.getElem?_cons_zero, Option.some.injEq] at h; subst h
   cases b <;> first | rfl | exact absurd rfl hn
  | succ i =>
   have e : (optH (b :: l))[i + 1]? = (optH l)[i]? := by cases b <;> rfl
   rw [e]; simp only [List.getElem?_cons_succ] at h; exact Qbh h hn
theorem Qd5 {T : StT} {s : St} {x : T.den} (hex : T.H.all exTm = true) (h : T.mat s = some x) : (T.inst x).H = s.H ∧ ∀ j : Nat, s.H[j]? ≠ some none := by
 unfold StT.mat at h
 split at h
 ·rename_i hlen
  obtain ⟨g1, g2, g3⟩ := Q6y h
  have hl : (T.inst x).H.length = s.H.length := by
   simp only [StT.inst, Q3B, List.length_drop, g1, List.length_append]
   omega
  have key : ∀ j : Nat, j < s.H.length → ∃ a, s.H[j]? = some (some a) ∧ (T.inst x).H[j]? = some (some a) := by
   intro j hj
   have hi : j < T.H.length := by omega
   have ht : (T.sl ++ T.H)[T.sl.length + j]? = some T.H[j] := by
    rw [List.getElem?_append_right (by omega), Nat.add_sub_cancel_left]; simp
   obtain ⟨b, z, h3, h4, h5⟩ := g3 _ _ ht
   rw [List.getElem?_append_right (by omega), show T.sl.length + j - s.sl.length = j by omega] at h3
   have hok : exTm T.H[j] = true := List.all_eq_true.1 hex T.H[j] (by simp)
   have hne : b ≠ .undef := by
    intro e; subst e
    have := QbU h4
    rw [this] at hok; cases hok
   rcases Q66 h3 with h6 | ⟨_, h6⟩
   ·refine ⟨b, h6, ?_⟩
    simp only [StT.inst]
    refine Qbh ?_ hne
    rw [List.getElem?_drop, h5, Qdz hok h4]
   ·exact absurd h6 hne
  refine ⟨?_, ?_⟩
  ·apply List.ext_getElem?
   intro j
   rcases Nat.lt_or_ge j s.H.length with hj | hj
   ·obtain ⟨a, h1, h2⟩ := key j hj
    rw [h1, h2]
   ·rw [List.getElem?_eq_none (by omega), List.getElem?_eq_none hj]
  ·intro j e
   have hj : j < s.H.length := by
    rcases Nat.lt_or_ge j s.H.length with hj | hj
    ·exact hj
    ·rw [List.getElem?_eq_none hj] at e; cases e
   obtain ⟨a, h1, _⟩ := key j hj
   rw [h1] at e; cases e
 ·cases h
theorem Q8z {keep : List Nat} {n : Nat} : ∀ {a a' : AVal}, renA keep a = some a' → renF (Q1c keep keep.length n) a' = a := by
 have key : ∀ {i j : Nat}, Q1F i 0 keep = some j → Q1c keep keep.length n j = i := by
  intro i j h
  have h1 := (Q4v h).2
  rw [Nat.sub_zero] at h1
  have hj : j < keep.length := (List.getElem?_eq_some_iff.1 h1).1
  have hb : Nat.blt j keep.length = true := by simpa [Nat.blt_eq] using hj
  simp only [Q1c, hb, cond_true, List.getD_eq_getElem?_getD, h1, Option.getD_some]
 intro a
 induction a with
 | ptr id p => intro a' h; simp only [renA, Option.bind_eq_some_iff, Option.some.injEq] at h; obtain ⟨j, h1, rfl⟩ := h; simp only [renF, key h1]
 | sl id p off len => intro a' h; simp only [renA, Option.bind_eq_some_iff, Option.some.injEq] at h; obtain ⟨j, h1, rfl⟩ := h; simp only [renF, key h1]
 | vsl id => intro a' h; simp only [renA, Option.bind_eq_some_iff, Option.some.injEq] at h; obtain ⟨j, h1, rfl⟩ := h; simp only [renF, key h1]
 | parr id p off nn => intro a' h; simp only [renA, Option.bind_eq_some_iff, Option.some.injEq] at h; obtain ⟨j, h1, rfl⟩ := h; simp only [renF, key h1]
 | sfp id p T => intro a' h; simp only [renA, Option.bind_eq_some_iff, Option.some.injEq] at h; obtain ⟨j, h1, rfl⟩ := h; simp only [renF, key h1]
 | vbs id => intro a' h; simp only [renA, Option.bind_eq_some_iff, Option.some.injEq] at h; obtain ⟨j, h1, rfl⟩ := h; simp only [renF, key h1]
 | mp id => intro a' h; simp only [renA, Option.bind_eq_some_iff, Option.some.injEq] at h; obtain ⟨j, h1, rfl⟩ := h; simp only [renF, key h1]
 | pair u v hu hv => intro a' h; simp only [renA, Option.bind_eq_some_iff, Option.some.injEq] at h; obtain ⟨p, h1, q, h2, rfl⟩ := h; simp only [renF, hu h1, hv h2]
 | fn f c ih => intro a' h; simp only [renA, Option.bind_eq_some_iff, Option.some.injEq] at h; obtain ⟨p, h1, rfl⟩ := h; simp only [renF, ih h1]
 | tup c ih => intro a' h; simp only [renA, Option.bind_eq_some_iff, Option.some.injEq] at h; obtain ⟨p, h1, rfl⟩ := h; simp only [renF, ih h1]
 | _ => intro a' h; simp only [renA, Option.some.injEq] at h; subst h; rfl
theorem Q8u {f : Nat → Nat} : ∀ {a : AVal}, idsA a = [] → renF f a = a := by
 intro a
 induction a with
 | pair u v hu hv => intro h; simp only [idsA, List.append_eq_nil_iff] at h; simp only [renF, hu h.1, hv h.2]
 | fn g c ih => intro h; simp only [idsA] at h; simp only [renF, ih h]
 | tup c ih => intro h; simp only [idsA] at h; simp only [renF, ih h]
 | ptr _ _ => intro h; simp [idsA] at h
 | sl _ _ _ _ => intro h; simp [idsA] at h
 | vsl _ => intro h; simp [idsA] at h
 | parr _ _ _ _ => intro h; simp [idsA] at h
 | sfp _ _ _ => intro h; simp [idsA] at h
 | vbs _ => intro h; simp [idsA] at h
 | mp _ => intro h; simp [idsA] at h
 | _ => intro _; rfl
theorem Q3w {f : Nat → Nat} : ∀ {l : List AVal}, idsL l = [] → l.map (renF f) = l
 | [], _ => rfl
 | a :: l, h => by
  simp only [idsL, List.append_eq_nil_iff] at h
  rw [List.map_cons, Q8u h.1, Q3w h.2]
theorem Q4q : ∀ {is : List Nat} {as H : Heap}, (∀ (j i : Nat), is[j]? = some i → as[j]? = H[i]?) → Q1A is as H = H
 | [], as, H, _ => by cases as <;> rfl
 | i :: is, [], H, _ => rfl
 | i :: is, a :: as, H, h => by
  have h0 := h 0 i rfl
  simp only [List.getElem?_cons_zero] at h0
  have e : H.set i a = H := by
   apply List.ext_getElem?
   intro j
   rw [List.getElem?_set]
   split
   ·rename_i e; subst e
    split
    ·rw [← h0]
    ·rename_i hh; rw [List.getElem?_eq_none (by omega)]
   ·rfl
  rw [Q1A, e]
  exact Q4q fun j i' hj => h (j + 1) i' hj
section
variable {H H2 : Heap} {keep : List Nat}
theorem Q2R (hag : ∀ i, i ∈ keep → H2[i]? = H[i]?) (hcl : ∀ i, i ∈ keep → ∀ a, H[i]? = some (some a) → ∀ j, j ∈ idsA a → j ∈ keep) : ∀ (n : Nat) (seen l : List Nat), (∀ i, i ∈ l → i ∈ keep) → (∀ i, i ∈ seen → i ∈ keep) →
  Q3L H2 n seen l = Q3L H n seen l ∧ ∀ i, i ∈ Q3L H n seen l → i ∈ keep
 | 0, seen, _, _, hs => ⟨rfl, hs⟩
 | n + 1, seen, [], _, hs => ⟨rfl, hs⟩
 | n + 1, seen, i :: rest, hl, hs => by
  have hi := hl i (by simp)
  have hr : ∀ j, j ∈ rest → j ∈ keep := fun j hj => hl j (by simp [hj])
  simp only [Q3L]
  split
  ·exact Q2R hag hcl n seen rest hr hs
  ·rw [hag i hi]
   cases hh : H[i]? with
   | none => exact Q2R hag hcl n seen rest hr hs
   | some o =>
    cases o with
    | none => exact Q2R hag hcl n seen rest hr hs
    | some a =>
     refine Q2R hag hcl n (seen ++ [i]) (idsA a ++ rest) ?_ ?_
     ·intro j hj
      rcases List.mem_append.1 hj with h | h
      ·exact hcl i hi a hh j h
      ·exact hr j h
     ·intro j hj
      rcases List.mem_append.1 hj with h | h
      ·exact hs j h
      ·simp only [List.mem_singleton] at h; subst h; exact hi
theorem Q6Z : ∀ {r : List Nat}, (∀ i, i ∈ r → H2[i]? = H[i]?) → Q9P H2 r = Q9P H r
 | [], _ => rfl
 | i :: r, h => by simp only [Q9P]; rw [h i (by simp), Q6Z fun j hj => h j (by simp [hj])]
theorem Q5s : ∀ {r : List Nat}, (∀ i, i ∈ r → H2[i]? = H[i]?) → Q5S H2 r = Q5S H r
 | [], _ => rfl
 | i :: r, h => by simp only [Q5S]; rw [h i (by simp), Q5s fun j hj => h j (by simp [hj])]
theorem Q3H : ∀ {r : List Nat}, (∀ i, i ∈ r → H2[i]? = H[i]?) → Q2z H2 r = Q2z H r
 | [], _ => rfl
 | i :: r, h => by simp only [Q2z]; rw [h i (by simp), Q3H fun j hj => h j (by simp [hj])]
theorem Q9e : ∀ {l : List Nat} {i : Nat}, inB i l = true → i ∈ l
 | [], i, h => by cases h
 | j :: l, i, h => by
  simp only [inB] at h
  cases hb : Nat.beq i j with
  | true => simp [Nat.eq_of_beq_eq_true hb]
  | false => rw [hb] at h; exact List.mem_cons_of_mem _ (Q9e h)
theorem Q72 {nf : Nat} {as : List AVal} (hag : ∀ i, i ∈ keep → H2[i]? = H[i]?) (hc : Q7c H as keep = true) : Q4m nf H2 as = Q4m nf H as := by
 simp only [Q7c, Bool.and_eq_true, List.all_eq_true] at hc
 have hcl : ∀ i, i ∈ keep → ∀ a, H[i]? = some (some a) → ∀ j, j ∈ idsA a → j ∈ keep := by
  intro i hi a ha j hj
  have := hc.2 i hi
  rw [ha] at this
  simp only [List.all_eq_true] at this
  exact Q9e (this j hj)
 obtain ⟨h1, h2⟩ := Q2R hag hcl 400 [] (idsL as) (fun i hi => Q9e (hc.1 i hi)) (fun i hi => by simp at hi)
 have hr : ∀ i, i ∈ Q3L H 400 [] (idsL as) → H2[i]? = H[i]? := fun i hi => hag i (h2 i hi)
 have : Q1S H2 as = Q1S H as := by
  simp only [Q1S, h1, Q6Z hr, Q5s hr]
 simp only [Q4m, this]
theorem Q3y : ∀ {ts : List Tm} {as as' : List AVal}, Q2w H ts as = some (as', []) → Q2w H2 ts as = some (as', [])
 | [], [], as', h => h
 | [], _ :: _, as', h => by simp [Q2w] at h
 | _ :: _, [], as', h => by
  rename_i t ts
  cases t <;> simp [Q2w] at h
 | t :: ts, a :: as, as', h => by
  have other : ((Q2w H ts as).bind fun w => some (a :: w.1, w.2)) = some (as', []) → ((Q2w H2 ts as).bind fun w => some (a :: w.1, w.2)) = some (as', []) := by
   intro h
   simp only [Option.bind_eq_some_iff, Option.some.injEq, Prod.mk.injEq] at h
   obtain ⟨⟨w1, w2⟩, h1, h2, h3⟩ := h
   dsimp only at h2 h3
   subst h3
   rw [Q3y h1]; simp [h2]
  cases t with
  | dat t =>
   simp only [Q2w, Option.bind_eq_some_iff, Option.some.injEq, Prod.mk.injEq] at h
   obtain ⟨⟨u1, u2⟩, h1, ⟨w1, w2⟩, h2, h3, h4⟩ := h
   simp only [List.append_eq_nil_iff] at h4
   obtain ⟨e1, e2⟩ := h4
   subst e1; subst e2
   simp only [Q2w]
   rw [Q60 h1 (fun i hi => by simp at hi), Q3y h2]
   simpa using h3
  | _ => exact other h
end
theorem Q7g.ok {P : Program} {f : Nat} {args : List AVal} {H : Heap} {v : AVal} {H' : Heap} {e : Eff} (h : Q7g P f args H v H' e) : Q1B P f args H v H' := by
 cases e with
 | pure => obtain ⟨rfl, h⟩ := h; exact h _
 | read ids => obtain ⟨rfl, h⟩ := h; exact h _ fun _ _ => rfl
 | push _ _ => exact h.elim
 | wr id => obtain ⟨_, c', h1, h2⟩ := h; rw [h1]; exact h2 _ rfl
 | touch _ _ => exact h.2
 | «mut» => exact h
theorem QdY {P : Program} {f : Nat} {T : Q19} {os : List Out} {J : T.T.den → Option (outDen os)} (hs : Qb P f (Q1g T os J)) (hex : T.H.all exTm = true)
  (hJ : ∀ x y, J x = some y → Q27 os y (fun _ s => some s.H) = some (T.T.inst x).H) : Qb P f (Qdf T os J) := by
 intro ρ args H k r h
 simp only [Qdf] at h
 split at h
 case h_2 => cases h
 rename_i as hargs
 generalize hkp : Q4m T.nf H as = kp at h
 obtain ⟨keep, ls⟩ := kp
 dsimp only at h
 rw [Bool.cond_eq_ite] at h
 split at h
 case isFalse => cases h
 rename_i hchk
 simp only [Bool.and_eq_true, List.isEmpty_iff] at hchk
 obtain ⟨⟨⟨⟨hls, hnf0⟩, hnd⟩, hlive⟩, hclosed⟩ := hchk
 subst hls
 have hnf : keep.length = T.nf := Nat.eq_of_beq_eq_true hnf0
 split at h
 case h_2 => cases h
 rename_i x hx
 rw [Option.bind_eq_some_iff] at h
 obtain ⟨y, hy, h⟩ := h
 obtain ⟨e0, s, hs1, _⟩ := Q2C (nf := 0) (os := os) (List.all_eq_true.2 fun o _ => by simp [Nat.ble]) y
 rw [hs1, Bool.cond_eq_ite] at h
 split at h
 case isFalse => cases h
 rename_i hro
 simp only [Bool.and_eq_true, List.isEmpty_iff] at hro
 refine ⟨_, _, _, h, rfl, fun H2 hag => ?_⟩
 have hH : s.H = (T.T.inst x).H := by
  have := hJ x y hy
  rw [hs1] at this
  exact Option.some.inj this
 obtain ⟨hex1, hex2⟩ := Qd5 (T := T.T) hex hx
 dsimp only at hex1 hex2
 have hB : (keep.map fun i => (H2.getD i none).bind (renA keep)) = keep.map fun i => (H.getD i none).bind (renA keep) := by
  apply List.map_congr_left
  intro i hi
  rw [List.getD_eq_getElem?_getD, List.getD_eq_getElem?_getD, hag i hi]
 obtain ⟨v, H', e, hk, hstp⟩ := hs args H2 (fun v H' _ => some (v, H')) (resL s.sl, H2) (by
  have hk2 : Q4m T.nf (Q0v [] H2) as = (keep, []) := by
   rw [show Q0v [] H2 = H2 from rfl, Q72 hag hclosed, hkp]
  simp only [Q1g]
  rw [Q3y hargs]
  simp only [hk2, List.append_nil]
  rw [show Q0v [] H2 = H2 from rfl, hB, hnf0, hnd, Q3H hag, hlive, hx]
  simp only [Bool.and_self, cond_true, hy, Option.bind_some, hs1, hro.1, List.isEmpty_nil, Bool.true_or]
  have e1 : s.sl.map (renF (Q1c keep T.nf H2.length)) = s.sl := Q3w hro.2
  have e2 : s.H.drop T.nf = [] := by
   rw [List.drop_eq_nil_iff, hH, hex1, List.length_map]; omega
  have e3 : Q1A keep (renH (Q1c keep T.nf H2.length) s.H) H2 = H2 := by
   apply Q4q
   intro j i hj
   rw [Q3g, hH, hex1, List.getElem?_map, hj]
   have hi : i ∈ keep := List.mem_of_getElem? hj
   obtain ⟨a, ha⟩ := Q3v hlive i hi
   rw [hag i hi, ha]
   have hne := hex2 j
   rw [List.getElem?_map, hj] at hne
   simp only [Option.map_some, List.getD_eq_getElem?_getD, ha, Option.getD_some, Option.bind_some] at hne ⊢
   cases hr : renA keep a with
   | none => rw [hr] at hne; exact absurd rfl hne
   | some a' =>
    have := Q8z (n := H2.length) hr
    rw [hnf] at this
    simp only [Option.map_some, this]
  rw [e1, e2, e3]
  simp [Q0v, renH])
 cases hk
 exact hstp.ok
end Go.Am
namespace Go.Am
open Go
def Qbc (s1 : Q2T) (gs : List Q1i) (s2 : Q2T) : Q2T :=
 ⟨fun st K => s1.f st fun e st' => match e with
  | .normal => (match Q2k gs st' with | some s' => s2.f s' K | none => none)
  | e => K e st'⟩
theorem QdN {np : Nat} {C : Ctx} (hΓ : ∀ f, Qb C.P f (C.Γ f)) (hmix : C.P.follows .mixedOrders = true) {c : Code} {ann : Ann} {T : StT} {gs : List Q1i} {os : List Out}
  {r : {ρ : Type} → T.den → (T.den → Option ρ) → (outDen os → Option ρ) → Option ρ} {s1 : Q2T} {g1 : List Q1i} (h1 : StOK np C.P c s1) (hg1 : okG np g1 = true)
  (hA : Q3 np C.P c ann) (hT : T.ok = true) (hg : okG np gs = true) (ho : os.all (Out.ok np) = true) (hr : Q0V C c ann T gs os r) (k : Nat) :
  StOK np C.P (.loop c) (Qbc s1 g1 (Qv T os (Q15 r k))) := by
 intro ρ st K r0 h
 simp only [Qbc] at h
 obtain ⟨e0, st1, hk, hgo⟩ := h1 _ _ _ h
 have out0 : e0 ≠ .normal → K e0 st1 = some r0 → ∃ e st', K e st' = some r0 ∧ Goes np C.P (.loop c) st e st' := by
  intro hne hk
  refine ⟨e0, st1, hk, fun m μ w a Q rh rs hQ => wp_loop_once (hgo m μ w a _ rh rs fun a' w' m' μ' rs' p' => ?_)⟩
  have := hQ a' w' m' μ' rs' p'
  cases e0 <;> first | exact absurd rfl hne | exact this
 cases e0 with
 | normal =>
  simp only at hk
  split at hk
  case h_2 => cases hk
  rename_i st2 hst2
  have hgh := Q37 hg1 hst2
  simp only [Qv] at hk
  split at hk
  case h_2 => cases hk
  rename_i x hx
  rw [Option.bind_eq_some_iff] at hk
  obtain ⟨y, hy, h⟩ := hk
  obtain ⟨e, s, hs⟩ := Q2Q y
  rw [hs] at h
  refine ⟨e, s, h, ?_⟩
  have hT' := hT
  simp only [StT.ok, Bool.and_eq_true] at hT'
  have hm := Q7A (np := np) hT'.1 hT'.2 hx
  intro m μ w a Q rh rs hQ
  refine Q1U (fun j a' w' => (j = k + 1 ∧ a' = a ∧ w' = w) ∨ ∃ x' m' μ', Q15 r j x' = some y ∧ RS m' μ' (T.inst x').sl a' ∧ Q11 np m μ st.H w m' μ' (T.inst x').H w') ?_ ?_ (n := k + 1) (.inl ⟨rfl, rfl, rfl⟩)
  ·rintro a w (⟨h, _⟩ | ⟨_, _, _, h, _⟩) <;> cases h
  ·rintro j a1 w1 (⟨hj, rfl, rfl⟩ | ⟨x1, m1, μ1, h1, rs1, p1⟩)
   ·obtain rfl : j = k := by omega
    refine hgo m μ w1 a1 _ rh rs fun a2 w2 m2 μ2 rs2 p2 => ?_
    obtain ⟨m3, μ3, rs3, p3⟩ := (hgh.trans hm) m2 μ2 w2 a2 p2.rh rs2
    exact .inr ⟨x, m3, μ3, hy, rs3, p2.trans p3⟩
   ·simp only [Q15] at h1
    have h1' : evC C c ann (T.inst x1) (Q7r T gs os (Q15 r j) some) = some y := (hr x1 (Q15 r j) some).trans h1
    obtain ⟨e1, s1, h2, h3⟩ := Q1u hΓ hmix c ann _ _ _ hA h1'
    refine h3 m1 μ1 w1 a1 _ p1.rh rs1 fun a2 w2 m2 μ2 rs2 p2 => ?_
    have out : e1 ≠ .normal → Q3M os e1 s1 some = some y → Exit.then (fun a' w' => (j = k + 1 ∧ a' = a ∧ w' = w) ∨ ∃ x' m' μ', Q15 r j x' = some y ∧ RS m' μ' (T.inst x').sl a' ∧ Q11 np m μ st.H w m' μ' (T.inst x').H w') Q e1 a2 w2 := by
     intro hne h4
     obtain ⟨y', s', h5, h6, h7⟩ := Q5h ho h4
     cases h5
     have h8 := (h7 (ρ' := Exit × St) fun e s => some (e, s)).symm.trans (hs fun e s => some (e, s))
     cases h8
     obtain ⟨m3, μ3, rs3, p3⟩ := h6 m2 μ2 w2 a2 p2.rh rs2
     have := hQ a2 w2 m3 μ3 rs3 ((p1.trans p2).trans p3)
     cases e <;> first | exact absurd rfl hne | exact this
    cases e1 with
    | normal =>
     simp only [Q7r] at h2
     obtain ⟨x2, h4, h5⟩ := Q8n (o := ⟨.normal, gs, T⟩) (by show (okG np gs && T.ok) = true; rw [hg, hT]; rfl) h2
     obtain ⟨m3, μ3, rs3, p3⟩ := h5 m2 μ2 w2 a2 p2.rh rs2
     exact .inr ⟨x2, m3, μ3, h4, rs3, (p1.trans p2).trans p3⟩
    | _ => exact out (by simp) h2
 | _ => exact out0 (by simp) hk
end Go.Am
namespace Go.Am
open Go
def QcJ (T : Q19) (os : List Out) (J : T.T.den → Option (outDen os)) : Qj :=
  ⟨fun as0 H k =>
    match Q2w H T.args as0 with
    | some (as, []) =>
      let kp := Q4m T.nf H as
      cond (kp.2.isEmpty && Nat.beq T.nf 1 && Q2z H kp.1 && Q7c H as kp.1)
        (match kp.1 with
        | [id] =>
          (match T.T.mat ⟨as.map fun a => (renA [id] a).getD .undef, [(H.getD id none).bind (renA [id])]⟩ with
           | some x => (J x).bind fun y => Q27 os y fun _ s =>
             (match s.H with
             | [some c] => cond (Q2n s.sl && (idsL s.sl).isEmpty && (idsA c).isEmpty) (k (resL s.sl) (H.set id (some c)) (.wr id)) none
             | _ => none)
           | none => none)
        | _ => none) none
    | _ => none⟩
theorem QdM {P : Program} {f : Nat} {T : Q19} {os : List Out} {J : T.T.den → Option (outDen os)} (hs : Qb P f (Q1g T os J)) : Qb P f (QcJ T os J) := by
 intro ρ args H k r h
 simp only [QcJ] at h
 split at h
 case h_2 => cases h
 rename_i as hargs
 generalize hkp : Q4m T.nf H as = kp at h
 obtain ⟨keep, ls⟩ := kp
 dsimp only at h
 rw [Bool.cond_eq_ite] at h
 split at h
 case isFalse => cases h
 rename_i hchk
 simp only [Bool.and_eq_true, List.isEmpty_iff] at hchk
 obtain ⟨⟨⟨hls, hnf1⟩, hlive⟩, hclosed⟩ := hchk
 subst hls
 have hnf : T.nf = 1 := Nat.eq_of_beq_eq_true hnf1
 split at h
 case h_2 => cases h
 rename_i id
 split at h
 case h_2 => cases h
 rename_i x hx
 rw [Option.bind_eq_some_iff] at h
 obtain ⟨y, hy, h⟩ := h
 obtain ⟨e0, s, hs1, _⟩ := Q2C (nf := 0) (os := os) (List.all_eq_true.2 fun o _ => by simp [Nat.ble]) y
 rw [hs1] at h
 split at h
 case h_2 => cases h
 rename_i c hc
 rw [Bool.cond_eq_ite] at h
 split at h
 case isFalse => cases h
 rename_i hro
 simp only [Bool.and_eq_true, List.isEmpty_iff] at hro
 obtain ⟨a0, ha0⟩ := Q3v hlive id (by simp)
 refine ⟨_, _, _, h, (List.getElem?_eq_some_iff.1 ha0).1, c, rfl, fun H2 hag => ?_⟩
 have hag' : ∀ i, i ∈ [id] → H2[i]? = H[i]? := fun i hi => by
  simp only [List.mem_singleton] at hi; subst hi; exact hag
 obtain ⟨v, H', e, hk, hstp⟩ := hs args H2 (fun v H' _ => some (v, H')) (resL s.sl, H2.set id (some c)) (by
  have hk2 : Q4m T.nf (Q0v [] H2) as = ([id], []) := by
   rw [show Q0v [] H2 = H2 from rfl, Q72 hag' hclosed, hkp]
  simp only [Q1g]
  rw [Q3y hargs]
  simp only [hk2, List.append_nil]
  rw [show Q0v [] H2 = H2 from rfl, Q3H hag', hlive, hnf]
  have hB : ([id].map fun i => (H2.getD i none).bind (renA [id])) = [(H.getD id none).bind (renA [id])] := by
   simp only [List.map_cons, List.map_nil, List.getD_eq_getElem?_getD, hag]
  rw [hB, hx]
  rw [show (Nat.beq ([id] : List Nat).length 1 && Q1V [id] && true) = true from rfl]
  simp only [cond_true, hy, Option.bind_some, hs1, hro.1.1, List.isEmpty_nil, Bool.true_or, Bool.and_self]
  rw [Q3w hro.1.2, hc]
  have e1 : renF (Q1c [id] 1 H2.length) c = c := Q8u hro.2
  simp only [renH, e1, List.drop_one, List.tail_cons, Q1A, Q0v, List.append_nil])
 cases hk
 exact hstp.ok
end Go.Am
namespace Go.Am
open Go
def QcE (gs : List Q1i) (T : StT) (a b : Q2T) : Q2T :=
 ⟨fun st K => match Q2k gs st with
  | some st' => cond (T.mat st').isSome (a.f st' K) (b.f st K)
  | none => b.f st K⟩
def Qda : Q2T := ⟨fun _ _ => none⟩
theorem QdX {np : Nat} {P : Program} {c : Code} : StOK np P c Qda := by
 intro ρ st K r h; cases h
theorem QdT {np : Nat} {P : Program} {c : Code} {gs : List Q1i} {T : StT} {a b : Q2T} (hg : okG np gs = true) (ha : StOK np P c a) (hb : StOK np P c b) : StOK np P c (QcE gs T a b) := by
 intro ρ st K r h
 simp only [QcE] at h
 split at h
 ·rename_i st' hst
  rw [Bool.cond_eq_ite] at h
  split at h
  ·obtain ⟨e, s, h1, h2⟩ := ha _ _ _ h
   exact ⟨e, s, h1, Goes.ghost (Q37 hg hst) h2⟩
  ·exact hb _ _ _ h
 ·exact hb _ _ _ h
end Go.Am
