/- A part of a proof: a machine of abstract values that tells what functions of the program compute, and the plain facts on them. -/
import Derived.Test.YtpcjmcpghhmidaaAm13
set_option linter.unusedVariables false
set_option linter.unusedSimpArgs false
set_option linter.unnecessarySimpa false
set_option linter.unusedSectionVars false
namespace Go.Am
open Go
theorem Q7o (a b : Int) : eqK (.int .u64) a b = (a == b) := by simp [eqK, eqD]
theorem beqF {a b : Int} (h : a ≠ b) : (a == b) = false := by simpa using h
theorem beqT {a b : Int} (h : a = b) : (a == b) = true := by simpa using h
theorem Q56 {β : Type} (a b : Int) (v : β) : ∀ l : List (Int × β), mget (.int .u64) a (mset (.int .u64) b v l) = if a = b then some v else mget (.int .u64) a l
 | [] => by
  simp only [mset, mget, Q7o]
  by_cases h : a = b
  ·rw [beqT h, cond_true, if_pos h]
  ·rw [beqF h, cond_false, if_neg h]
 | x :: l => by
  simp only [mset, Q7o]
  by_cases h1 : b = x.1
  ·rw [beqT h1, cond_true]
   simp only [mget, Q7o]
   by_cases h : a = b
   ·rw [beqT h, cond_true, if_pos h]
   ·have h2 : a ≠ x.1 := by rw [← h1]; exact h
    rw [beqF h, cond_false, if_neg h, beqF h2, cond_false]
  ·rw [beqF h1, cond_false]
   simp only [mget, Q7o, Q56 a b v l]
   by_cases h : a = b
   ·have h2 : a ≠ x.1 := by rw [h]; exact h1
    rw [beqF h2, cond_false, if_pos h, if_pos h]
   ·rw [if_neg h, if_neg h]
theorem Q80 (ids : List (List Int)) (id : List Int) : ∀ L : List Nat, (∀ a ∈ L, a < ids.length) → Q3d ids id (L.map fun a : Nat => (a : Int)) = some ((L.find? fun a => !decide (ids.getD a zH = id)).map fun a : Nat => (a : Int))
 | [], _ => rfl
 | a :: L, h => by
  have ha := h a (by simp)
  have ih := Q80 ids id L fun x hx => h x (by simp [hx])
  have d1 : decide ((0 : Int) ≤ ((a : Nat) : Int) ∧ ((a : Nat) : Int) < ((ids.length : Nat) : Int)) = true := by simp; omega
  simp only [List.map_cons, Q3d, d1, cond_true, Int.toNat_natCast, List.find?_cons]
  cases hd : (!decide (ids.getD a zH = id)) with
  | true => rfl
  | false => rw [cond_false, ih]
section
variable {sh : List Int → Option (Int × Unit)} {s : Nat → Int} {ids : List (List Int)}
def Q4Y (s : Nat → Int) (i : Nat) (rows : List (Int × List Int)) : Prop := ∀ t, (mget (.int .u64) t rows).getD [] = ((List.range i).filter fun a => s a == t).map fun a : Nat => (a : Int)
theorem Q5Y {i : Nat} {rows : List (Int × List Int)} (h : Q4Y s i rows) : Q4Y s (i + 1) (mset (.int .u64) (s i) ((mget (.int .u64) (s i) rows).getD [] ++ [(i : Int)]) rows) := by
 intro t
 rw [Q56, List.range_succ, List.filter_append, List.map_append]
 by_cases ht : t = s i
 ·subst ht
  rw [if_pos rfl, Option.getD_some, h (s i)]
  simp
 ·rw [if_neg ht, h t]
  have : (s i == t) = false := by simp; exact fun e => ht e.symm
  simp [this]
def Q2p (s : Nat → Int) (ids : List (List Int)) (i a : Nat) : Bool := (s a == s i) && !decide (ids.getD a zH = ids.getD i zH)
theorem Q5i (hs : ∀ a, a < ids.length → sh (ids.getD a zH) = some (s a, ())) (hl : ids.length ≤ 60) {f i : Nat} {rows : List (Int × List Int)} (hr : Q4Y s i rows) (hi : i < ids.length) :
  Q1b sh ids ids (ids.length : Nat) (f + 1) (i : Nat) rows = match (List.range i).find? (Q2p s ids i) with
   | some a => some (.inl ((a : Int), (i : Int)))
   | none => Q1b sh ids ids (ids.length : Nat) f ((i + 1 : Nat) : Int) (mset (.int .u64) (s i) ((mget (.int .u64) (s i) rows).getD [] ++ [(i : Int)]) rows) := by
 have d1 : decide (((i : Nat) : Int) < ((ids.length : Nat) : Int)) = true := by simp; omega
 have d2 : decide ((0 : Int) ≤ ((i : Nat) : Int) ∧ ((i : Nat) : Int) < ((ids.length : Nat) : Int)) = true := by simp; omega
 simp only [Q1b, d1, d2, cond_true, Int.toNat_natCast, hs i hi, Option.bind_some]
 have hlen : ((((List.range i).filter fun a => s a == s i).map fun a : Nat => (a : Int)).length) ≤ i := by
  rw [List.length_map]
  exact Nat.le_trans (List.length_filter_le _ _) (by simp)
 have hb : Nat.ble (((((List.range i).filter fun a => s a == s i).map fun a : Nat => (a : Int)).length + 1) * 8) 140737488355328 = true := Nat.ble_eq_true_of_le (by omega)
 rw [hr (s i), hb, cond_true, Q80 ids (ids.getD i zH) _ (fun a ha => by
  have := List.mem_range.1 (List.mem_filter.1 ha).1
  omega), List.find?_filter]
 rw [show IntKind.i64.wrap ((i : Int) + 1) = ((i + 1 : Nat) : Int) from Q3T (by omega)]
 rw [show (fun a => decide ((s a == s i) = true ∧ (!decide (ids.getD a zH = ids.getD i zH)) = true)) = Q2p s ids i from by
  funext a
  unfold Q2p
  cases (s a == s i) <;> cases (!decide (ids.getD a zH = ids.getD i zH)) <;> rfl]
 cases (List.range i).find? (Q2p s ids i) with
 | none => rfl
 | some a => rfl
theorem QcZ {f : Nat} {rows : List (Int × List Int)} : Q1b sh ids ids (ids.length : Nat) (f + 1) ((ids.length : Nat) : Int) rows = some (.inr ()) := by
 have d1 : decide (((ids.length : Nat) : Int) < ((ids.length : Nat) : Int)) = false := by simp
 simp only [Q1b, d1, cond_false]
theorem QbQ (hs : ∀ a, a < ids.length → sh (ids.getD a zH) = some (s a, ())) (hl : ids.length ≤ 60) (hn : ∀ i, i < ids.length → (List.range i).find? (Q2p s ids i) = none) :
  ∀ (d f i : Nat) (rows : List (Int × List Int)), i + d = ids.length → d < f → Q4Y s i rows → Q1b sh ids ids (ids.length : Nat) f (i : Nat) rows = some (.inr ()) := by
 intro d
 induction d with
 | zero =>
  intro f i rows hi hf hr
  obtain ⟨f, rfl⟩ : ∃ g, f = g + 1 := ⟨f - 1, by omega⟩
  obtain rfl : i = ids.length := by omega
  exact QcZ
 | succ d ih =>
  intro f i rows hi hf hr
  obtain ⟨f, rfl⟩ : ∃ g, f = g + 1 := ⟨f - 1, by omega⟩
  rw [Q5i hs hl hr (by omega), hn i (by omega)]
  exact ih f (i + 1) _ (by omega) (by omega) (Q5Y hr)
theorem Qbz (hs : ∀ a, a < ids.length → sh (ids.getD a zH) = some (s a, ())) (hl : ids.length ≤ 60) {b a : Nat} (hb : b < ids.length) (hn : ∀ i, i < b → (List.range i).find? (Q2p s ids i) = none) (ha : (List.range b).find? (Q2p s ids b) = some a) :
  ∀ (d f i : Nat) (rows : List (Int × List Int)), i + d = b → d < f → Q4Y s i rows → Q1b sh ids ids (ids.length : Nat) f (i : Nat) rows = some (.inl ((a : Int), (b : Int))) := by
 intro d
 induction d with
 | zero =>
  intro f i rows hi hf hr
  obtain ⟨f, rfl⟩ : ∃ g, f = g + 1 := ⟨f - 1, by omega⟩
  obtain rfl : i = b := by omega
  rw [Q5i hs hl hr hb, ha]
 | succ d ih =>
  intro f i rows hi hf hr
  obtain ⟨f, rfl⟩ : ∃ g, f = g + 1 := ⟨f - 1, by omega⟩
  rw [Q5i hs hl hr (by omega), hn i (by omega)]
  exact ih f (i + 1) _ (by omega) (by omega) (Q5Y hr)
end
section
variable {k : Nat} {k0 k1 i j : Int} {is : Bool} {ids : List (List Int)} {s : Nat → Int}
theorem Qcz (hk : 33 ≤ k) (hs : ∀ a, a < ids.length → Ql k k0 k1 (ids.getD a zH) = some (s a, ())) (hl : ids.length ≤ 60) {a b : Nat} (hab : a < b) (hb : b < ids.length) (hc : Q2p s ids b a = false)
  {ρ : Type} (kn : Q0.l2.σ → Option ρ) (ke : Q0.l2.τ → Option ρ) :
  Q0.l2.r k (ids, i, j, is, (b : Int), (a : Int), (k0, k1, ()), ()) kn ke = kn (ids, i, j, is, (b : Int), ((a + 1 : Nat) : Int), (k0, k1, ()), ()) := by
 simp only [Q0.l2.r]
 rw [QF (by omega), QF (by omega), QF (by omega), Q3T (by omega), Int.toNat_natCast, Int.toNat_natCast]
 unfold Q2p at hc
 rw [Bool.and_eq_false_iff] at hc
 cases hd : (!decide (ids.getD a zH = ids.getD b zH)) with
 | false => rfl
 | true =>
  rw [hd] at hc
  simp only [Bool.true_eq_false, or_false] at hc
  rw [cond_true, QF (by omega)]
  show (Ql k k0 k1 (ids.getD a zH)).bind _ = _
  rw [hs a (by omega), Option.bind_some]
  rw [QF (by omega)]
  show (Ql k k0 k1 (ids.getD b zH)).bind _ = _
  rw [hs b hb, Option.bind_some]
  show (bif (s a == s b) then _ else _) = _
  rw [hc, cond_false]
theorem Qfm (hk : 33 ≤ k) (hs : ∀ a, a < ids.length → Ql k k0 k1 (ids.getD a zH) = some (s a, ())) (hl : ids.length ≤ 60) {a b : Nat} (hab : a < b) (hb : b < ids.length) (hc : Q2p s ids b a = true)
  {ρ : Type} (kn : Q0.l2.σ → Option ρ) (ke : Q0.l2.τ → Option ρ) :
  Q0.l2.r k (ids, (a : Int), (b : Int), true, (b : Int), (a : Int), (k0, k1, ()), ()) kn ke = ke (.inl (true, ())) := by
 simp only [Q0.l2.r]
 unfold Q2p at hc
 rw [Bool.and_eq_true] at hc
 rw [QF (by omega), QF (by omega), QF (by omega), Int.toNat_natCast, Int.toNat_natCast]
 show (bif (!decide (ids.getD a zH = ids.getD b zH)) then _ else _) = _
 rw [hc.2, cond_true, QF (by omega)]
 show (Ql k k0 k1 (ids.getD a zH)).bind _ = _
 rw [hs a (by omega), Option.bind_some, QF (by omega)]
 show (Ql k k0 k1 (ids.getD b zH)).bind _ = _
 rw [hs b hb, Option.bind_some]
 show (bif (s a == s b) then _ else _) = _
 rw [hc.1, cond_true, Q7r (by omega), Option.bind_some]
 simp
theorem Qf9 {b : Nat} {ρ : Type} (kn : Q0.l2.σ → Option ρ) (ke : Q0.l2.τ → Option ρ) :
  Q0.l2.r k (ids, i, j, is, (b : Int), (b : Int), (k0, k1, ()), ()) kn ke = ke (.inr (ids, i, j, is, (b : Int), (k0, k1, ()), ())) := by
 simp only [Q0.l2.r]
 rw [Q0z (by omega)]
theorem Qcq (hk : 70 ≤ k) (hs : ∀ a, a < ids.length → Ql k k0 k1 (ids.getD a zH) = some (s a, ())) (hl : ids.length ≤ 60) {b : Nat} (hb : b < ids.length) (hn : (List.range b).find? (Q2p s ids b) = none)
  {ρ : Type} (kn : Q0.l1.σ → Option ρ) (ke : Q0.l1.τ → Option ρ) :
  Q0.l1.r k (ids, i, j, is, (b : Int), (k0, k1, ()), ()) kn ke = kn (ids, i, j, is, ((b + 1 : Nat) : Int), (k0, k1, ()), ()) := by
 simp only [Q0.l1.r]
 rw [QF (by omega)]
 have h2 : Q0.l2 k k (ids, i, j, is, (b : Int), ((0 : Nat) : Int), (k0, k1, ()), ()) = some (.inr (ids, i, j, is, (b : Int), (k0, k1, ()), ())) := by
  refine Q0f (r := Q0.l2.r k) (fun a => (ids, i, j, is, (b : Int), (a : Int), (k0, k1, ()), ())) b _ ?_ ?_ (by omega)
  ·intro a ha kn ke
   refine Qcz (by omega) hs hl ha hb ?_ kn ke
   have := List.find?_eq_none.1 hn a (List.mem_range.2 ha)
   simpa using this
  ·intro kn ke
   exact Qf9 kn ke
 show (Q0.l2 k k (ids, i, j, is, (b : Int), ((0 : Nat) : Int), (k0, k1, ()), ())).bind _ = _
 rw [h2, Option.bind_some]
 dsimp only
 rw [Q3T (by omega)]
theorem Qf3 (hk : 70 ≤ k) (hs : ∀ a, a < ids.length → Ql k k0 k1 (ids.getD a zH) = some (s a, ())) (hl : ids.length ≤ 60) {a b : Nat} (hb : b < ids.length) (ha : (List.range b).find? (Q2p s ids b) = some a)
  {ρ : Type} (kn : Q0.l1.σ → Option ρ) (ke : Q0.l1.τ → Option ρ) :
  Q0.l1.r k (ids, (a : Int), (b : Int), true, (b : Int), (k0, k1, ()), ()) kn ke = ke (.inl (true, ())) := by
 obtain ⟨g1, g2, g3⟩ := List.find?_range_eq_some.1 ha
 have hab := List.mem_range.1 g2
 simp only [Q0.l1.r]
 rw [QF (by omega)]
 have h2 : Q0.l2 k k (ids, (a : Int), (b : Int), true, (b : Int), ((0 : Nat) : Int), (k0, k1, ()), ()) = some (.inl (true, ())) := by
  refine Q0f (r := Q0.l2.r k) (fun c => (ids, (a : Int), (b : Int), true, (b : Int), (c : Int), (k0, k1, ()), ())) a _ ?_ ?_ (by omega)
  ·intro c hc kn ke
   refine Qcz (by omega) hs hl (by omega) hb ?_ kn ke
   have := g3 c hc
   simpa using this
  ·intro kn ke
   exact Qfm (by omega) hs hl hab hb g1 kn ke
 show (Q0.l2 k k (ids, (a : Int), (b : Int), true, (b : Int), ((0 : Nat) : Int), (k0, k1, ()), ())).bind _ = _
 rw [h2, Option.bind_some]
theorem Qfc {ρ : Type} (kn : Q0.l1.σ → Option ρ) (ke : Q0.l1.τ → Option ρ) :
  Q0.l1.r k (ids, i, j, is, ((ids.length : Nat) : Int), (k0, k1, ()), ()) kn ke = ke (.inr (i, j, is, ())) := by
 simp only [Q0.l1.r]
 rw [Q0z (by omega)]
end
theorem Q8B {k : Nat} (hk : 70 ≤ k) (k0 k1 : Int) {ids : List (List Int)} (hl : ids.length ≤ 60) (hid : ∀ a, a < ids.length → (ids.getD a zH).length = 32) :
    ((Q0a k (k0, (k1, ())) ids).bind fun t3 => (Q0.l1 k k (ids, (t3.1, (t3.2.1, (t3.2.2.1, ((0 : Int), ((k0, (k1, ())), ()))))))).bind fun t24 => (match t24 with
      | .inl t25 => some (t25.1, ())
      | .inr t26 => some ((!t26.2.2.1) && (t26.1 == (0 : Int)) && (t26.2.1 == (0 : Int)), ()))) = some (true, ()) := by
  have hs : ∀ a, a < ids.length → Ql k k0 k1 (ids.getD a zH) = some (Q21 k0 k1 (ids.getD a zH), ()) := fun a ha => Q4v (by omega) k0 k1 (hid a ha)
  have hs' : ∀ a, a < ids.length → Q00 k (k0, (k1, ())) (ids.getD a zH) = some (Q21 k0 k1 (ids.getD a zH), ()) := fun a ha => Q5T (by omega) k0 k1 (hid a ha)
  generalize hsd : (fun a => Q21 k0 k1 (ids.getD a zH)) = s at *
  have hs2 : ∀ a, a < ids.length → Ql k k0 k1 (ids.getD a zH) = some (s a, ()) := fun a ha => by rw [hs a ha, ← hsd]
  have hs3 : ∀ a, a < ids.length → Q00 k (k0, (k1, ())) (ids.getD a zH) = some (s a, ()) := fun a ha => by rw [hs' a ha, ← hsd]
  have r0 : Q4Y s 0 [] := fun t => rfl
  by_cases hn : ∀ b, b < ids.length → (List.range b).find? (Q2p s ids b) = none
  · have hc := QbQ hs3 hl hn ids.length (ids.length + 1) 0 [] (by omega) (by omega) r0
    have h1 : Q0a k (k0, (k1, ())) ids = some (0, (0, (false, ()))) := by
      show (Q1b (Q00 k (k0, (k1, ()))) ids ids (ids.length : Nat) (ids.length + 1) ((0 : Nat) : Int) []).bind _ = _
      rw [hc]; rfl
    have h2 : Q0.l1 k k (ids, (0, (0, (false, (((0 : Nat) : Int), ((k0, (k1, ())), ())))))) = some (.inr (0, 0, false, ())) := by
      refine Q0f (r := Q0.l1.r k) (fun b => (ids, 0, 0, false, (b : Int), (k0, k1, ()), ())) ids.length _ ?_ ?_ (by omega)
      · intro b hb kn ke
        exact Qcq hk hs2 hl hb (hn b hb) kn ke
      · intro kn ke
        exact Qfc kn ke
    rw [h1, Option.bind_some]
    show (Q0.l1 k k (ids, (0, (0, (false, (((0 : Nat) : Int), ((k0, (k1, ())), ()))))))).bind _ = _
    rw [h2]
    rfl
  · have hex : ∃ b, b < ids.length ∧ ¬ (List.range b).find? (Q2p s ids b) = none := by
      refine Classical.byContradiction fun hne => hn fun b hb => Classical.byContradiction fun h => hne ⟨b, hb, h⟩
    obtain ⟨b, ⟨hb, hbn⟩, hmin⟩ := Q1D hex
    have hn' : ∀ i, i < b → (List.range i).find? (Q2p s ids i) = none := fun i hi => Classical.byContradiction fun h => hmin i hi ⟨by omega, h⟩
    cases ha : (List.range b).find? (Q2p s ids b) with
    | none => exact absurd ha hbn
    | some a =>
      have hc := Qbz hs3 hl hb hn' ha b (ids.length + 1) 0 [] (by omega) (by omega) r0
      have h1 : Q0a k (k0, (k1, ())) ids = some ((a : Int), ((b : Int), (true, ()))) := by
        show (Q1b (Q00 k (k0, (k1, ()))) ids ids (ids.length : Nat) (ids.length + 1) ((0 : Nat) : Int) []).bind _ = _
        rw [hc]; rfl
      have h2 : Q0.l1 k k (ids, ((a : Int), ((b : Int), (true, (((0 : Nat) : Int), ((k0, (k1, ())), ())))))) = some (.inl (true, ())) := by
        refine Q0f (r := Q0.l1.r k) (fun c => (ids, (a : Int), (b : Int), true, (c : Int), (k0, k1, ()), ())) b _ ?_ ?_ (by omega)
        · intro c hc kn ke
          exact Qcq hk hs2 hl (by omega) (hn' c hc) kn ke
        · intro kn ke
          exact Qf3 hk hs2 hl hb ha kn ke
      rw [h1, Option.bind_some]
      show (Q0.l1 k k (ids, ((a : Int), ((b : Int), (true, (((0 : Nat) : Int), ((k0, (k1, ())), ()))))))).bind _ = _
      rw [h2]
      rfl
theorem Q7c {k : Nat} (hk : k = 140737488355328) {k0 k1 : Int} {ids : List (List Int)} (hid : ∀ a, a < ids.length → (ids.getD a zH).length = 32) : Q0 k (k0, (k1, ())) ids = some (true, ()) := by
 have main : ∀ ids' : List (List Int), ids'.length ≤ 60 → (∀ a, a < ids'.length → (ids'.getD a zH).length = 32) → Q0.p0 k (ids, ((k0, (k1, ())), ())) = some (ids', ((k0, (k1, ())), ())) →
   Q0 k (k0, (k1, ())) ids = some (true, ()) := by
  intro ids' hl hid' hp
  have h := Q8B (k := k) (by omega) k0 k1 hl hid'
  unfold Q0 Q0.c
  show (Q0.p0 k (ids, ((k0, (k1, ())), ()))).bind _ = _
  rw [hp, Option.bind_some, ← h]
  refine congrArg _ (funext fun t3 => ?_)
  show (Q0.l1 k k (ids', (t3.1, (t3.2.1, (t3.2.2.1, ((0 : Int), ((k0, (k1, ())), ()))))))).bind _ = _
  refine congrArg _ (funext fun t24 => ?_)
  cases t24 with
  | inl t => rfl
  | inr t =>
   dsimp only
   rw [Q7r (by omega), Option.bind_some]
   cases t.2.2.1 <;> cases (t.1 == (0 : Int)) <;> cases (t.2.1 == (0 : Int)) <;> rfl
 rcases Nat.lt_or_ge 60 ids.length with h60 | h60
 ·refine main (List.drop 0 (List.take 60 ids)) (by simp; omega) (fun a ha => ?_) ?_
  ·have h1 : a < 60 := by simp at ha; omega
   have h2 : (List.drop 0 (List.take 60 ids)).getD a zH = ids.getD a zH := by
    rw [List.drop_zero, List.getD_eq_getElem?_getD, List.getD_eq_getElem?_getD, List.getElem?_take, if_pos h1]
   rw [h2]
   exact hid a (by omega)
  ·unfold Q0.p0
   simp only [Q0.p0.r]
   rw [QF (by omega), QF (by omega)]
 ·refine main ids h60 hid ?_
  unfold Q0.p0
  simp only [Q0.p0.r]
  rw [Q0z (by omega)]
end Go.Am
