/- A part of a proof: a machine of abstract values that tells what functions of the program compute, and the plain facts on them. -/
import Derived.Test.YtpcjmcpghhmidaaAm2
import Derived.Test.YtpcjmcpghhmidaaAm0
set_option linter.unusedVariables false
set_option linter.unusedSimpArgs false
set_option linter.unnecessarySimpa false
set_option linter.unusedSectionVars false
/- A region whose order is drawn. -/
namespace Go.Am
open Go

/-! slots after some of the operations -/
def slF (V : Nat → AVal) (dst : Nat → Option Nat) (D : Nat → Bool) (sl : List AVal) : Nat → List AVal
  | 0 => sl
  | j + 1 => if D j then putA (slF V dst D sl j) (dst j) (V j) else slF V dst D sl j

theorem putA_length (sl : List AVal) (d : Option Nat) (v : AVal) : (putA sl d v).length = sl.length := by
  cases d <;> simp [putA]

theorem slF_length (V : Nat → AVal) (dst : Nat → Option Nat) (D : Nat → Bool) (sl : List AVal) : ∀ n, (slF V dst D sl n).length = sl.length
  | 0 => rfl
  | n + 1 => by
    simp only [slF]
    split
    · rw [putA_length, slF_length]
    · exact slF_length V dst D sl n

theorem putA_ne {sl : List AVal} {d : Option Nat} {v : AVal} {t : Nat} (h : d ≠ some t) : (putA sl d v)[t]? = sl[t]? := by
  cases d with
  | none => rfl
  | some d => simp only [putA]; rw [List.getElem?_set_ne]; intro e; exact h (by rw [e])

theorem putA_eq {sl sl2 : List AVal} {d : Option Nat} {v : AVal} {t : Nat} (hl : sl2.length = sl.length) (h : d = some t) : (putA sl d v)[t]? = (putA sl2 d v)[t]? := by
  subst h
  simp only [putA]
  rw [List.getElem?_set, List.getElem?_set, hl]
  split <;> simp_all

theorem slF_agree {V : Nat → AVal} {dst : Nat → Option Nat} {D D' : Nat → Bool} {sl : List AVal} {t : Nat} : ∀ n, (∀ i, i < n → dst i = some t → D i = D' i) → (slF V dst D sl n)[t]? = (slF V dst D' sl n)[t]?
  | 0, _ => rfl
  | n + 1, h => by
    have ih := slF_agree (V := V) (sl := sl) n fun i hi => h i (by omega)
    simp only [slF]
    by_cases hd : dst n = some t
    · rw [h n (by omega) hd]
      split
      · exact putA_eq (by rw [slF_length, slF_length]) hd
      · exact ih
    · have h1 : ∀ X : Bool, ∀ l : List AVal, (if X then putA l (dst n) (V n) else l)[t]? = l[t]? := by
        intro X l; cases X
        · rfl
        · exact putA_ne hd
      rw [h1, h1]; exact ih

theorem slF_last {V : Nat → AVal} {dst : Nat → Option Nat} {D : Nat → Bool} {sl l0 : List AVal} {j t : Nat} (hl : l0.length = sl.length) (hj : D j = true) (hd : dst j = some t) :
    ∀ n, j < n → (∀ i, j < i → i < n → dst i = some t → D i = false) → (slF V dst D sl n)[t]? = (putA l0 (dst j) (V j))[t]?
  | 0, h, _ => by omega
  | n + 1, h, hi => by
    simp only [slF]
    by_cases hn : j = n
    · subst hn
      rw [if_pos hj]
      exact putA_eq (by rw [slF_length, hl]) hd
    · have ih := slF_last (sl := sl) (V := V) hl hj hd n (by omega) fun i h1 h2 => hi i h1 (by omega)
      by_cases hd' : dst n = some t
      · rw [hi n (by omega) (by omega) hd']; exact ih
      · have h1 : ∀ X : Bool, ∀ l : List AVal, (if X then putA l (dst n) (V n) else l)[t]? = l[t]? := by
          intro X l; cases X
          · rfl
          · exact putA_ne hd'
        rw [h1]; exact ih

theorem slF_add {V : Nat → AVal} {dst : Nat → Option Nat} {D D' : Nat → Bool} {sl : List AVal} {j n : Nat} (hj : j < n) (hD : D j = false) (hD' : ∀ i, D' i = (D i || i == j)) (hap : ∀ i t, j < i → i < n → dst j = some t → dst i = some t → D i = false) :
    slF V dst D' sl n = putA (slF V dst D sl n) (dst j) (V j) := by
  apply List.ext_getElem?
  intro t
  by_cases hd : dst j = some t
  · exact slF_last (by rw [slF_length]) (by rw [hD']; simp) hd n hj fun i h1 h2 h3 => by
      rw [hD', hap i t h1 h2 hd h3]; simp; omega
  · rw [putA_ne hd]
    refine slF_agree n fun i hi h1 => ?_
    rw [hD']
    by_cases h : i = j
    · subst h; exact absurd h1 hd
    · simp [h]

theorem slF_text {V : Nat → AVal} {dst : Nat → Option Nat} {S : Nat → St} {n : Nat} (h : ∀ j, j < n → (S (j + 1)).sl = putA (S j).sl (dst j) (V j)) (j : Nat) (hj : j ≤ n) :
    ∀ k, k ≤ n → slF V dst (fun i => decide (i < j)) (S 0).sl k = (S (min k j)).sl
  | 0, _ => by simp [slF]
  | k + 1, hk => by
    have ih := slF_text h j hj k (by omega)
    simp only [slF]
    by_cases hkj : k < j
    · rw [if_pos (by simpa using hkj), ih, show min (k + 1) j = k + 1 by omega, show min k j = k by omega, h k (by omega)]
    · rw [if_neg (by simpa using hkj), ih, show min (k + 1) j = j by omega, show min k j = j by omega]

/-! which stand ahead -/
theorem bitsOf_spec {acc : List Nat} {i : Nat} : ∀ {es : List Edge} {s : Nat}, (es.foldl (fun s e => if Region.binds .any e = true then (s ||| 2 ^ e.on) ||| acc.getD e.on 0 else s) s).testBit i = true →
    s.testBit i = true ∨ ∃ e, e ∈ es ∧ Region.binds .any e = true ∧ (e.on = i ∨ (acc.getD e.on 0).testBit i = true)
  | [], s, h => .inl h
  | e :: es, s, h => by
    simp only [List.foldl_cons] at h
    rcases bitsOf_spec h with h1 | ⟨e', h1, h2, h3⟩
    · split at h1
      · rename_i hb
        rw [Nat.testBit_or, Nat.testBit_or, Bool.or_eq_true, Bool.or_eq_true, Nat.testBit_two_pow] at h1
        rcases h1 with (h1 | h1) | h1
        · exact .inl h1
        · exact .inr ⟨e, by simp, hb, .inl (by simpa using h1)⟩
        · exact .inr ⟨e, by simp, hb, .inr h1⟩
      · exact .inl h1
    · exact .inr ⟨e', by simp [h1], h2, h3⟩

def bitsOK (os : List Oper) (B : List Nat) (n : Nat) : Prop :=
  ∀ j o i, j < n → os[j]? = some o → (B.getD j 0).testBit i = true → ∃ e, e ∈ o.after.toList ∧ Region.binds .any e = true ∧ (e.on = i ∨ (e.on < j ∧ (B.getD e.on 0).testBit i = true))

theorem befL_ok : ∀ (os pre : List Oper) (acc : List Nat), acc.length = pre.length → bitsOK (pre ++ os) acc acc.length → bitsOK (pre ++ os) (befL os acc) (pre ++ os).length ∧ (befL os acc).length = (pre ++ os).length
  | [], pre, acc, hl, h => by simp only [List.append_nil, befL] at *; exact ⟨hl ▸ h, hl⟩
  | o :: os, pre, acc, hl, h => by
    simp only [befL]
    have := befL_ok os (pre ++ [o]) (acc ++ [bitsOf acc o.after.toList]) (by simp [hl]) (by
      rw [List.append_assoc, List.singleton_append]
      intro j o' i hj ho' hb
      have hget : ∀ x, x < acc.length → (acc ++ [bitsOf acc o.after.toList]).getD x 0 = acc.getD x 0 := fun x hx => by
        rw [List.getD_eq_getElem?_getD, List.getD_eq_getElem?_getD, List.getElem?_append_left hx]
      by_cases hja : j < acc.length
      · rw [hget j hja] at hb
        obtain ⟨e, h1, h2, h3⟩ := h j o' i hja ho' hb
        refine ⟨e, h1, h2, ?_⟩
        rcases h3 with h3 | ⟨h3, h4⟩
        · exact .inl h3
        · exact .inr ⟨h3, by rw [hget _ (by omega)]; exact h4⟩
      · have hj' : j = acc.length := by simp at hj; omega
        subst hj'
        have hoo : o' = o := by
          rw [hl, List.getElem?_append_right (Nat.le_refl _)] at ho'
          simpa using ho'.symm
        subst hoo
        rw [List.getD_eq_getElem?_getD, List.getElem?_append_right (Nat.le_refl _)] at hb
        simp only [Nat.sub_self, List.getElem?_cons_zero, Option.getD_some] at hb
        rcases bitsOf_spec hb with h1 | ⟨e, h1, h2, h3⟩
        · simp at h1
        · refine ⟨e, h1, h2, ?_⟩
          rcases h3 with h3 | h3
          · exact .inl h3
          · by_cases hlt : e.on < acc.length
            · exact .inr ⟨hlt, by rw [hget _ hlt]; exact h3⟩
            · rw [List.getD_eq_getElem?_getD, List.getElem?_eq_none (by omega)] at h3
              simp at h3)
    rw [List.append_assoc, List.singleton_append] at this
    exact this

theorem okPairs_spec {ops : Array Oper} {b : Nat} {o' : Oper} {e' : Eff} : ∀ {i0 : Nat} {os : List Oper} {es : List Eff}, okPairs ops b o' e' i0 os es = true →
    ∀ i o e, os[i]? = some o → es[i]? = some e → b.testBit (i0 + i) = true ∨ (o.apart ops o' = true ∧ effOK e e' = true)
  | _, [], _, _, i, o, e, ho, _ => by simp at ho
  | _, _ :: _, [], _, i, o, e, _, he => by simp at he
  | i0, o1 :: os, e1 :: es, h, i, o, e, ho, he => by
    simp only [okPairs, Bool.and_eq_true, Bool.or_eq_true] at h
    cases i with
    | zero =>
      simp only [List.getElem?_cons_zero, Option.some.injEq] at ho he
      subst ho; subst he
      exact h.1
    | succ i =>
      simp only [List.getElem?_cons_succ] at ho he
      rw [show i0 + (i + 1) = i0 + 1 + i by omega]
      exact okPairs_spec h.2 i o e ho he

theorem okDraw_spec {ops : Array Oper} : ∀ {seen : List Oper} {seenE : List Eff} {bs : List Nat} {os : List Oper} {es : List Eff}, okDraw ops seen seenE seen.length bs os es = true → seenE.length = seen.length →
    ∀ j o e, os[j]? = some o → es[j]? = some e → (∀ x, x ∈ o.after.toList → Region.binds .any x = true → x.on < seen.length + j) ∧
      ∀ i o1 e1, i < seen.length + j → (seen ++ os)[i]? = some o1 → (seenE ++ es)[i]? = some e1 → (bs.getD j 0).testBit i = true ∨ (o1.apart ops o = true ∧ effOK e1 e = true)
  | seen, seenE, [], [], es, h, hl, j, o, e, ho, he => by simp at ho
  | seen, seenE, _ :: _, [], es, h, hl, j, o, e, ho, he => by simp at ho
  | seen, seenE, [], _ :: _, [], h, hl, j, o, e, ho, he => by simp at he
  | seen, seenE, [], _ :: _, _ :: _, h, hl, j, o, e, ho, he => by simp [okDraw] at h
  | seen, seenE, _ :: _, _ :: _, [], h, hl, j, o, e, ho, he => by simp at he
  | seen, seenE, b :: bs, o2 :: os, e2 :: es, h, hl, j, o, e, ho, he => by
    simp only [okDraw, Bool.and_eq_true] at h
    obtain ⟨⟨h1, h2⟩, h3⟩ := h
    cases j with
    | zero =>
      simp only [List.getElem?_cons_zero, Option.some.injEq] at ho he
      subst ho; subst he
      refine ⟨fun x hx hb => ?_, fun i o1 e1 hi ho1 he1 => ?_⟩
      · have := List.all_eq_true.1 h1 x hx
        simpa [hb] using this
      · simp only [Nat.add_zero] at hi
        rw [List.getElem?_append_left hi] at ho1
        rw [List.getElem?_append_left (by omega)] at he1
        have := okPairs_spec h2 i o1 e1 ho1 he1
        simpa using this
    | succ j =>
      simp only [List.getElem?_cons_succ] at ho he
      have ih := okDraw_spec (seen := seen ++ [o2]) (seenE := seenE ++ [e2]) (bs := bs) (os := os) (es := es) (by simpa using h3) (by simp [hl]) j o e ho he
      simp only [List.length_append, List.length_cons, List.length_nil, List.append_assoc, List.singleton_append] at ih
      refine ⟨fun x hx hb => by have := ih.1 x hx hb; omega, fun i o1 e1 hi ho1 he1 => ?_⟩
      have := ih.2 i o1 e1 (by omega) ho1 he1
      simpa using this
end Go.Am
/- A region whose order is drawn: every order does what the text does. -/
namespace Go.Am
open Go

def Eff.loud : Eff → Bool
  | .push _ _ => true
  | .touch _ _ => true
  | .mut => true
  | _ => false

/-- What the check of a drawn region says. -/
structure DrawOK (ops : Array Oper) (S : Nat → St) (V : Nat → AVal) (E : Nat → Eff) (B : List Nat) : Prop where
  bits : bitsOK ops.toList B ops.size
  on : ∀ j o, ops[j]? = some o → ∀ x, x ∈ o.after → Region.binds .any x = true → x.on < j
  pair : ∀ i j o1 o, i < j → ops[i]? = some o1 → ops[j]? = some o → (B.getD j 0).testBit i = true ∨ (o1.apart ops o = true ∧ effOK (E i) (E j) = true)

theorem drawOK_of {ops : Array Oper} {S : Nat → St} {V : Nat → AVal} {E : Nat → Eff} (h : okDraw ops [] [] 0 (befL ops.toList []) ops.toList ((List.range ops.size).map E) = true) : DrawOK ops S V E (befL ops.toList []) := by
  have hb := befL_ok ops.toList [] [] rfl (fun j o i hj _ _ => by simp at hj)
  simp only [List.nil_append, Array.length_toList] at hb
  have hs := okDraw_spec (seen := []) (seenE := []) h rfl
  have hE : ∀ j, j < ops.size → ((List.range ops.size).map E)[j]? = some (E j) := fun j hj => by simp [hj]
  have hsz : ∀ j o, ops[j]? = some o → j < ops.size := fun j o h => (Array.getElem?_eq_some_iff.1 h).1
  refine ⟨hb.1, fun j o ho x hx hbx => ?_, fun i j o1 o hij ho1 ho => ?_⟩
  · have := (hs j o (E j) (by simpa using ho) (hE j (hsz j o ho))).1 x (by simpa using hx) hbx
    simpa using this
  · exact (hs j o (E j) (by simpa using ho) (hE j (hsz j o ho))).2 i o1 (E i) (by simpa using hij) (by simpa using ho1) (hE i (hsz i o1 ho1))

section
variable {P : Program} {ops : Array Oper} {S : Nat → St} {V : Nat → AVal} {E : Nat → Eff} {B : List Nat}

def Down (ops : Array Oper) (D : Nat → Bool) : Prop := ∀ j o, ops[j]? = some o → D j = true → ∀ e, e ∈ o.after → Region.binds .any e = true → D e.on = true

theorem DrawOK.before (hd : DrawOK ops S V E B) {D : Nat → Bool} (hD : Down ops D) : ∀ (j : Nat) {o : Oper}, ops[j]? = some o → (∀ e, e ∈ o.after → Region.binds .any e = true → D e.on = true) →
    ∀ i, (B.getD j 0).testBit i = true → D i = true := by
  intro j
  induction j using Nat.strongRecOn with
  | _ j ih =>
    intro o ho hall i hb
    have hsz := (Array.getElem?_eq_some_iff.1 ho).1
    obtain ⟨e, h1, h2, h3⟩ := hd.bits j o i hsz (by simpa using ho) hb
    have h1' : e ∈ o.after := by simpa using h1
    have h4 := hall e h1' h2
    rcases h3 with h3 | ⟨h3, h5⟩
    · rw [← h3]; exact h4
    · obtain ⟨o2, ho2⟩ : ∃ o2, ops[e.on]? = some o2 := ⟨ops[e.on]'(by omega), by simp [show e.on < ops.size by omega]⟩
      exact ih e.on h3 ho2 (fun e' he' hb' => hD e.on o2 ho2 h4 e' he' hb') i h5

def dstOf (ops : Array Oper) (j : Nat) : Option Nat := (ops[j]?).bind (·.dst)

/-- What is known of those that are not ordered against j: earlier and not done, or later and done. -/
theorem DrawOK.free (hd : DrawOK ops S V E B) {D : Nat → Bool} (hD : Down ops D) {j : Nat} {o : Oper} (ho : ops[j]? = some o) (hj : D j = false) (hall : ∀ e, e ∈ o.after → Region.binds .any e = true → D e.on = true)
    {i : Nat} {o1 : Oper} (hi : ops[i]? = some o1) :
    (i < j → D i = false → o1.apart ops o = true ∧ effOK (E i) (E j) = true) ∧ (j < i → D i = true → o.apart ops o1 = true ∧ effOK (E j) (E i) = true) := by
  refine ⟨fun hlt hn => ?_, fun hlt hy => ?_⟩
  · rcases hd.pair i j o1 o hlt hi ho with h | h
    · have := hd.before hD j ho hall i h; rw [hn] at this; cases this
    · exact h
  · rcases hd.pair j i o o1 hlt ho hi with h | h
    · have := hd.before hD i hi (fun e he hb => hD i o1 hi hy e he hb) j h; rw [hj] at this; cases this
    · exact h

theorem heap_quiet (hc : ChainOK P ops 0 ops.toList S V E) {a b : Nat} (hab : a ≤ b) (hb : b ≤ ops.size) (h : ∀ i, a ≤ i → i < b → (E i).loud = false) : (S b).H = (S a).H := by
  induction b with
  | zero => rw [show a = 0 by omega]
  | succ b ih =>
    by_cases he : a = b + 1
    · rw [he]
    · rw [← ih (by omega) (by omega) fun i h1 h2 => h i h1 (by omega)]
      have h1 := (hc b (ops[b]'(by omega)) (by simp [show b < ops.size by omega])).1
      have h2 := h b (by omega) (by omega)
      cases hE : E b with
      | pure => rw [hE] at h1; exact h1.1
      | read ids => rw [hE] at h1; exact h1.1
      | push n ids => rw [hE] at h2; cases h2
      | touch n ts => rw [hE] at h2; cases h2
      | «mut» => rw [hE] at h2; cases h2

/-- Does the block with this number stay as it is? -/
def Eff.spares (id : Nat) : Eff → Prop
  | .push n _ => id < n
  | .touch n ts => id < n ∧ id ∉ ts
  | _ => False

/-- Blocks with small numbers stay as they are while blocks are pushed. -/
theorem heap_read (hc : ChainOK P ops 0 ops.toList S V E) {id a b : Nat} (hab : a ≤ b) (hb : b ≤ ops.size) (h : ∀ i, a ≤ i → i < b → (E i).loud = true → (E i).spares id) : (S b).H[id]? = (S a).H[id]? := by
  induction b with
  | zero => rw [show a = 0 by omega]
  | succ b ih =>
    by_cases he : a = b + 1
    · rw [he]
    · rw [← ih (by omega) (by omega) fun i h1 h2 => h i h1 (by omega)]
      have h1 := (hc b (ops[b]'(by omega)) (by simp [show b < ops.size by omega])).1
      have h2 := h b (by omega) (by omega)
      cases hE : E b with
      | pure => rw [hE] at h1; rw [h1.1]
      | read ids => rw [hE] at h1; rw [h1.1]
      | push n ids =>
        rw [hE] at h1 h2
        have h4 : id < n := h2 rfl
        obtain ⟨h5, ⟨blk, h6⟩, _⟩ := h1
        rw [h6, List.getElem?_append_left (by omega)]
      | touch n ts =>
        rw [hE] at h1 h2
        obtain ⟨h4, h5⟩ := h2 rfl
        exact h1.1 id h4 h5
      | «mut» => rw [hE] at h2; exact (h2 rfl).elim

theorem effOK_read1 {ids : List Nat} {e : Eff} {id : Nat} (h : effOK e (.read ids) = true) (hl : e.loud = true) (hi : id ∈ ids) : e.spares id := by
  cases e with
  | pure => cases hl
  | read _ => cases hl
  | push n l => simp only [effOK, List.all_eq_true] at h; simpa [Eff.spares] using h id hi
  | touch n l => simp only [effOK, List.all_eq_true] at h; simpa [Eff.spares] using h id hi
  | «mut» => cases h
theorem effOK_read2 {ids : List Nat} {e : Eff} {id : Nat} (h : effOK (.read ids) e = true) (hl : e.loud = true) (hi : id ∈ ids) : e.spares id := by
  cases e with
  | pure => cases hl
  | read _ => cases hl
  | push n l => simp only [effOK, List.all_eq_true] at h; simpa [Eff.spares] using h id hi
  | touch n l => simp only [effOK, List.all_eq_true] at h; simpa [Eff.spares] using h id hi
  | «mut» => cases h
theorem effOK_loud {e e' : Eff} (h : effOK e e' = true) (hl : e.loud = true) (hl' : e'.loud = true) : False := by
  cases e <;> cases e' <;> simp_all [Eff.loud, effOK]

/-- Where one stands who has done D. -/
structure At (ops : Array Oper) (S : Nat → St) (V : Nat → AVal) (E : Nat → Eff) (D : Nat → Bool) (l : Nat) (m : Mem) (μ : LMap) (a : Act) (w : World) : Prop where
  down : Down ops D
  le : l ≤ ops.size
  loud : ∀ i, i < ops.size → (E i).loud = true → (D i = true ↔ i < l)
  rh : RH m μ (S l).H w
  rs : RS m μ (slF V (dstOf ops) D (S 0).sl ops.size) a

theorem rs_text (hc : ChainOK P ops 0 ops.toList S V E) (j : Nat) (hj : j ≤ ops.size) : slF V (dstOf ops) (fun i => decide (i < j)) (S 0).sl ops.size = (S j).sl := by
  have := slF_text (V := V) (dst := dstOf ops) (S := S) (n := ops.size) (fun j hj => by
    have := (hc j (ops[j]'hj) (by simp [hj])).2
    simpa [dstOf, hj] using this) j hj ops.size (Nat.le_refl _)
  rw [this, show min ops.size j = j by omega]

theorem At.step (hc : ChainOK P ops 0 ops.toList S V E) (hd : DrawOK ops S V E B) {D : Nat → Bool} {l : Nat} {m : Mem} {μ : LMap} {a : Act} {w : World} (h : At ops S V E D l m μ a w) {j : Nat} {o : Oper} (ho : ops[j]? = some o)
    (hj : D j = false) (hall : ∀ e, e ∈ o.after → Region.binds .any e = true → D e.on = true) {Q : Exit → Act → World → Prop} {K : Act → World → Prop}
    (hK : ∀ a' w' m' μ' l', At ops S V E (fun i => D i || i == j) l' m' μ' a' w' → Post m μ (S l).H w m' μ' (S l').H w' → K a' w') : wpOp P ops Q j K a w := by
  have hlt : j < ops.size := (Array.getElem?_eq_some_iff.1 ho).1
  obtain ⟨hs, hsl⟩ := hc j o (by simpa using ho)
  rw [Nat.zero_add] at hs
  have hfree := fun {i : Nat} {o1 : Oper} (hi : ops[i]? = some o1) => hd.free h.down ho hj hall hi
  have hop : ∀ i, i < ops.size → ∃ o1, ops[i]? = some o1 := fun i hi => ⟨ops[i], by simp [hi]⟩
  -- the slots that it looks at
  have hag : Agree (o.looksAt ops) (slF V (dstOf ops) D (S 0).sl ops.size) (S j).sl := by
    intro t ht
    rw [← rs_text hc j (by omega), List.getD_eq_getElem?_getD, List.getD_eq_getElem?_getD]
    congr 1
    refine slF_agree _ fun i hi hdi => ?_
    obtain ⟨o1, ho1⟩ := hop i hi
    have hd1 : o1.dst = some t := by simpa [dstOf, ho1] using hdi
    by_cases hij : i < j
    · rw [decide_eq_true hij]
      cases hDi : D i with
      | true => rfl
      | false =>
        have := (Oper.apart_spec ((hfree ho1).1 hij hDi).1).1 t hd1
        exact absurd ht this
    · rw [decide_eq_false hij]
      cases hDi : D i with
      | false => rfl
      | true =>
        have hne : j ≠ i := fun e => by rw [e, hDi] at hj; cases hj
        have := (Oper.apart_spec ((hfree ho1).2 (by omega) hDi).1).2.2 t hd1
        exact absurd ht this
  have hdst : dstOf ops j = o.dst := by simp [dstOf, ho]
  have hadd : slF V (dstOf ops) (fun i => D i || i == j) (S 0).sl ops.size = putA (slF V (dstOf ops) D (S 0).sl ops.size) o.dst (V j) := by
    rw [← hdst]
    refine slF_add hlt hj (fun _ => rfl) fun i t h1 h2 h3 h4 => ?_
    obtain ⟨o1, ho1⟩ := hop i h2
    cases hDi : D i with
    | false => rfl
    | true =>
      have := (Oper.apart_spec ((hfree ho1).2 h1 hDi).1).2.1 t (by rw [← hdst]; exact h3)
      exact absurd (by simpa [dstOf, ho1] using h4) this
  have hdown : Down ops (fun i => D i || i == j) := by
    intro i o1 hi hDi e he hb
    simp only [Bool.or_eq_true, beq_iff_eq] at hDi ⊢
    rcases hDi with hDi | rfl
    · exact .inl (h.down i o1 hi hDi e he hb)
    · rw [ho] at hi; cases hi
      exact .inl (hall e he hb)
  -- quiet ones
  have quiet : (E j).loud = false → (∀ a' w' m' μ', RS m' μ' (slF V (dstOf ops) (fun i => D i || i == j) (S 0).sl ops.size) a' → Post m μ (S l).H w m' μ' (S l).H w' → K a' w') := by
    intro hq a' w' m' μ' hrs hp
    refine hK a' w' m' μ' l ⟨hdown, h.le, fun i hi hl => ?_, hp.rh, hrs⟩ hp
    have hne : i ≠ j := fun e => by rw [e, hq] at hl; cases hl
    simp only [Bool.or_eq_true, beq_iff_eq, hne, or_false]
    exact h.loud i hi hl
  -- loud ones
  have loudC : (E j).loud = true → (S l).H = (S j).H ∧ (∀ a' w' m' μ', RS m' μ' (slF V (dstOf ops) (fun i => D i || i == j) (S 0).sl ops.size) a' → Post m μ (S j).H w m' μ' (S (j + 1)).H w' → K a' w') := by
    intro hl
    have before : ∀ i, i < j → (E i).loud = true → D i = true := by
      intro i hi hli
      cases hDi : D i with
      | true => rfl
      | false =>
        obtain ⟨o1, ho1⟩ := hop i (by omega)
        exact (effOK_loud ((hfree ho1).1 hi hDi).2 hli hl).elim
    have after : ∀ i, j < i → i < ops.size → (E i).loud = true → D i = false := by
      intro i hi hi2 hli
      cases hDi : D i with
      | false => rfl
      | true =>
        obtain ⟨o1, ho1⟩ := hop i hi2
        exact (effOK_loud ((hfree ho1).2 hi hDi).2 hl hli).elim
    have hjl : l ≤ j := by
      rcases Nat.lt_or_ge j l with h1 | h1
      · have := (h.loud j hlt hl).2 h1; rw [hj] at this; cases this
      · exact h1
    have heq : (S j).H = (S l).H := heap_quiet hc hjl (by omega) fun i h1 h2 => by
      cases hE : (E i).loud with
      | false => rfl
      | true => have := (h.loud i (by omega) hE).1 (before i h2 hE); omega
    refine ⟨heq.symm, fun a' w' m' μ' hrs hp => ?_⟩
    refine hK a' w' m' μ' (j + 1) ⟨hdown, by omega, fun i hi hli => ?_, hp.rh, hrs⟩ (heq ▸ hp)
    simp only [Bool.or_eq_true, beq_iff_eq]
    constructor
    · rintro (h1 | h1)
      · rcases Nat.lt_trichotomy i j with h2 | h2 | h2
        · omega
        · omega
        · rw [after i h2 hi hli] at h1; cases h1
      · omega
    · intro h1
      by_cases h2 : i = j
      · exact .inr h2
      · exact .inl (before i (by omega) hli)
  have rsput : ∀ {u : Value} {m' : Mem} {μ' : LMap}, m.le m' → μ.le μ' → VRel m' μ' (V j) u → RS m' μ' (slF V (dstOf ops) (fun i => D i || i == j) (S 0).sl ops.size) (a.put o.dst u) := by
    intro u m' μ' hm hμ hv
    rw [hadd]
    exact putA_rs hm hμ h.rs hv
  cases hE : E j with
  | pure =>
    rw [hE] at hs
    exact hs.2 _ _ hag m μ w a Q K h.rh h.rs fun u w' m' μ' hv hp => quiet (by rw [hE]; rfl) _ _ _ _ (rsput hp.ml hp.μl hv) hp
  | read ids =>
    rw [hE] at hs
    refine hs.2 _ _ hag (fun id hid => ?_) m μ w a Q K h.rh h.rs fun u w' m' μ' hv hp => quiet (by rw [hE]; rfl) _ _ _ _ (rsput hp.ml hp.μl hv) hp
    rcases Nat.le_total l j with hlj | hlj
    · refine (heap_read hc hlj (by omega) fun i h1 h2 h3 => ?_).symm
      have hDi : D i = false := by
        cases hDi : D i with
        | false => rfl
        | true => have := (h.loud i (by omega) h3).1 hDi; omega
      obtain ⟨o1, ho1⟩ := hop i (by omega)
      exact effOK_read1 (hE ▸ ((hfree ho1).1 h2 hDi).2) h3 hid
    · refine heap_read hc hlj h.le fun i h1 h2 h3 => ?_
      have hDi : D i = true := (h.loud i (by have := h.le; omega) h3).2 h2
      have hne : j ≠ i := fun e => by rw [e, hDi] at hj; cases hj
      obtain ⟨o1, ho1⟩ := hop i (by have := h.le; omega)
      exact effOK_read2 (hE ▸ ((hfree ho1).2 (by omega) hDi).2) h3 hid
  | push n ids =>
    obtain ⟨h1, h2⟩ := loudC (by rw [hE]; rfl)
    rw [hE] at hs
    exact hs.2.2 _ hag m μ w a Q K (h1 ▸ h.rh) h.rs fun u w' m' μ' hv hp => h2 _ _ _ _ (rsput hp.ml hp.μl hv) hp
  | touch n ts =>
    obtain ⟨h1, h2⟩ := loudC (by rw [hE]; rfl)
    rw [hE] at hs
    exact hs.2 _ hag m μ w a Q K (h1 ▸ h.rh) h.rs fun u w' m' μ' hv hp => h2 _ _ _ _ (rsput hp.ml hp.μl hv) hp
  | «mut» =>
    obtain ⟨h1, h2⟩ := loudC (by rw [hE]; rfl)
    rw [hE] at hs
    exact hs _ hag m μ w a Q K (h1 ▸ h.rh) h.rs fun u w' m' μ' hv hp => h2 _ _ _ _ (rsput hp.ml hp.μl hv) hp

theorem At.done (hc : ChainOK P ops 0 ops.toList S V E) {D : Nat → Bool} {l : Nat} {m : Mem} {μ : LMap} {a : Act} {w : World} (h : At ops S V E D l m μ a w) (hall : ∀ i, i < ops.size → D i = true) :
    (S l).H = (S ops.size).H ∧ RS m μ (S ops.size).sl a := by
  constructor
  · refine (heap_quiet hc h.le (Nat.le_refl _) fun i h1 h2 => ?_).symm
    cases hE : (E i).loud with
    | false => rfl
    | true => have := (h.loud i h2 hE).1 (hall i h2); omega
  · have h1 := h.rs
    have h2 : slF V (dstOf ops) D (S 0).sl ops.size = (S ops.size).sl := by
      rw [← rs_text hc ops.size (Nat.le_refl _)]
      apply List.ext_getElem?
      intro t
      exact slF_agree _ fun i hi _ => by rw [hall i hi]; simp [hi]
    rw [h2] at h1
    exact h1

def doneOf (listed : Array Bool) (i : Nat) : Bool := listed.getD i false

theorem ready_all (hd : DrawOK ops S V E B) {listed : Array Bool} (hsz : listed.size = ops.size) (hr : Region.ready .any ops listed = []) : ∀ i, i < ops.size → doneOf listed i = true := by
  intro i
  induction i using Nat.strongRecOn with
  | _ i ih =>
    intro hi
    cases hD : doneOf listed i with
    | true => rfl
    | false =>
      exfalso
      have hm : i ∈ Region.ready .any ops listed := by
        rw [mem_ready]
        refine ⟨?_, ops[i], by simp [hi], fun e he hb => ?_⟩
        · unfold doneOf at hD
          have : i < listed.size := by omega
          simp [this] at hD ⊢; exact hD
        · have hlt := hd.on i ops[i] (by simp [hi]) e he hb
          exact ih e.on hlt (by omega)
      rw [hr] at hm; cases hm

theorem wpAny_draw (hc : ChainOK P ops 0 ops.toList S V E) (hd : DrawOK ops S V E B) {Q : Exit → Act → World → Prop} :
    ∀ (fuel : Nat) (listed : Array Bool) (l : Nat) (m : Mem) (μ : LMap) (a : Act) (w : World), listed.size = ops.size → ((List.range ops.size).filter fun i => !doneOf listed i).length ≤ fuel → At ops S V E (doneOf listed) l m μ a w →
    (∀ a' w' m' μ', RS m' μ' (S ops.size).sl a' → Post m μ (S l).H w m' μ' (S ops.size).H w' → Q .normal a' w') → wpAny P .any ops Q fuel listed a w := by
  have fin : ∀ (listed : Array Bool) (l : Nat) (m : Mem) (μ : LMap) (a : Act) (w : World), At ops S V E (doneOf listed) l m μ a w → (∀ i, i < ops.size → doneOf listed i = true) →
      (∀ a' w' m' μ', RS m' μ' (S ops.size).sl a' → Post m μ (S l).H w m' μ' (S ops.size).H w' → Q .normal a' w') → Q .normal a w := by
    intro listed l m μ a w h hall hQ
    obtain ⟨h1, h2⟩ := h.done hc hall
    refine hQ _ _ _ _ h2 ?_
    rw [← h1]; exact .refl h.rh
  intro fuel
  induction fuel with
  | zero =>
    intro listed l m μ a w hsz hn h hQ
    have hall : ∀ i, i < ops.size → doneOf listed i = true := by
      intro i hi
      have : ((List.range ops.size).filter fun i => !doneOf listed i) = [] := List.length_eq_zero_iff.1 (by omega)
      have := List.filter_eq_nil_iff.1 this i (by simpa using hi)
      simpa using this
    refine ⟨?_, fin listed l m μ a w h hall hQ⟩
    cases hr : Region.ready .any ops listed with
    | nil => rfl
    | cons i l2 =>
      exfalso
      have : i ∈ Region.ready .any ops listed := by rw [hr]; simp
      obtain ⟨h1, o, ho, _⟩ := mem_ready.1 this
      have hlt := (Array.getElem?_eq_some_iff.1 ho).1
      have h2 := hall i hlt
      unfold doneOf at h2
      have : i < listed.size := by omega
      simp [this] at h1 h2
      rw [h2] at h1; cases h1
  | succ fuel ih =>
    intro listed l m μ a w hsz hn h hQ
    refine ⟨fun hr => fin listed l m μ a w h (ready_all hd hsz hr) hQ, fun i hi => ?_⟩
    obtain ⟨h1, o, ho, hall⟩ := mem_ready.1 hi
    have hlt := (Array.getElem?_eq_some_iff.1 ho).1
    have hnot : doneOf listed i = false := by
      unfold doneOf
      have : i < listed.size := by omega
      simp [this] at h1 ⊢; exact h1
    have hset : doneOf (listed.setIfInBounds i true) = fun k => doneOf listed k || k == i := by
      funext k
      unfold doneOf
      by_cases hk : i = k
      · subst hk; simp [show i < listed.size by omega]
      · rw [getD_set_ne false hk]; simp [Ne.symm hk]
    refine h.step hc hd ho hnot (fun e he hb => hall e he hb) fun a' w' m' μ' l' h' hp => ?_
    rw [← hset] at h'
    refine ih _ l' m' μ' a' w' (by simp [hsz]) ?_ h' fun a'' w'' m'' μ'' hrs hp' => hQ _ _ _ _ hrs (hp.trans hp')
    rw [hset]
    have hsub : ((List.range ops.size).filter fun k => !(doneOf listed k || k == i)) = ((List.range ops.size).filter fun k => !doneOf listed k).filter (fun k => !(k == i)) := by
      rw [List.filter_filter]
      apply List.filter_congr
      intro k _
      cases doneOf listed k <;> cases (k == i) <;> rfl
    rw [hsub]
    have hmem : i ∈ (List.range ops.size).filter fun k => !doneOf listed k := by simp [hlt, hnot]
    have : (((List.range ops.size).filter fun k => !doneOf listed k).filter (fun k => !(k == i))).length < ((List.range ops.size).filter fun k => !doneOf listed k).length := by
      apply List.length_filter_lt_length_iff_exists.2
      exact ⟨i, hmem, by simp⟩
    omega

theorem evReg_sound {ρ : Type} {C : Ctx} (hΓ : ∀ f, SemOK C.P f (C.Γ f)) (hmix : C.P.follows .mixedOrders = true) {ops : Array Oper} {draw : Bool} {st : St} {k : St → Option ρ} {r : ρ} (h : evReg C ops draw st k = some r) :
    ∃ st', k st' = some r ∧ ∀ (id : Nat) (m : Mem) (μ : LMap) (w : World) (a : Act) (Q : Exit → Act → World → Prop), RH m μ st.H w → RS m μ st.sl a →
      (∀ a' w' m' μ', RS m' μ' st'.sl a' → Post m μ st.H w m' μ' st'.H w' → Q .normal a' w') → (Code.region id ops draw).wp C.P Q a w := by
  unfold evReg at h
  obtain ⟨S, V, E, es', h0, hc, hk, hes⟩ := evOps_chain hΓ ops.toList 0 st [] (fun j o hj => by simpa using hj) h
  subst h0
  simp only [Array.length_toList, List.reverse_nil, List.nil_append] at hk hes
  cases draw with
  | false =>
    refine ⟨S ops.size, by simpa using hk, fun id m μ w a Q rh rs hQ => wp_region ?_⟩
    rw [List.range_eq_range']
    exact wpOps_text hc ops.size 0 (by omega) m μ w a rh rs hQ
  | true =>
    simp only [Bool.not_true, Bool.false_or, hes] at hk
    cases hok : okDraw ops [] [] 0 (befL ops.toList []) ops.toList ((List.range ops.size).map E) with
    | false => rw [hok] at hk; cases hk
    | true =>
      rw [hok] at hk
      have hd : DrawOK ops S V E (befL ops.toList []) := drawOK_of hok
      refine ⟨S ops.size, hk, fun id m μ w a Q rh rs hQ => wp_region_any hmix ?_⟩
      have hp := rh.drawn (w.drawn + 1)
      have hz : doneOf (Array.replicate ops.size false) = fun _ => false := by
        funext i; unfold doneOf
        by_cases hi : i < ops.size <;> simp [hi]
      refine wpAny_draw hc hd ops.size _ 0 m μ a _ (by simp) ?_ ⟨?_, Nat.zero_le _, ?_, hp.rh, ?_⟩ fun a' w' m' μ' hrs hp' => hQ _ _ _ _ hrs (hp.trans hp')
      · have := List.length_filter_le (fun i => !doneOf (Array.replicate ops.size false) i) (List.range ops.size)
        simpa using this
      · intro j o _ hj; rw [hz] at hj; cases hj
      · intro i hi _; rw [hz]; simp
      · rw [hz]
        have := rs_text hc 0 (Nat.zero_le _)
        have e : (fun i => decide (i < 0)) = fun _ : Nat => false := by funext i; simp
        rw [e] at this
        rw [this]; exact rs
end
end Go.Am
/- What is done to a state on paper alone: masks, names, frozen rows. -/
namespace Go.Am
open Go

/-- 'Post' without a word on names, but for the first np. -/
structure PostW (np : Nat) (m : Mem) (μ : LMap) (H : Heap) (w : World) (m' : Mem) (μ' : LMap) (H' : Heap) (w' : World) : Prop where
  rh : RH m' μ' H' w'
  ml : m.le m'
  fix : ∀ i l, i < np → μ i = some l → μ' i = some l
  os : w'.os = w.os
  tape : w'.tape = w.tape
  output : w'.output = w.output
  size : w.heap.size ≤ w'.heap.size
  keep : ∀ b, b < w.heap.size → ¬ Owned μ H b → w'.heap[b]? = w.heap[b]?
  grow : ∀ b, Owned μ' H' b → b < w.heap.size → Owned μ H b
  mgrow : ∀ b c, m' b = some c → m b = some c ∨ Owned μ H b ∨ w.heap.size ≤ b

theorem Post.toW {np : Nat} {m m' : Mem} {μ μ' : LMap} {H H' : Heap} {w w' : World} (h : Post m μ H w m' μ' H' w') : PostW np m μ H w m' μ' H' w' :=
  ⟨h.rh, h.ml, fun i l _ hl => h.μl i l hl, h.os, h.tape, h.output, h.size, h.keep, h.grow, h.mgrow⟩

theorem PostW.trans {np : Nat} {m m1 m2 : Mem} {μ μ1 μ2 : LMap} {H H1 H2 : Heap} {w w1 w2 : World} (h : PostW np m μ H w m1 μ1 H1 w1) (k : PostW np m1 μ1 H1 w1 m2 μ2 H2 w2) : PostW np m μ H w m2 μ2 H2 w2 where
  rh := k.rh
  ml := Mem.le_trans h.ml k.ml
  fix := fun i l hi hl => k.fix i l hi (h.fix i l hi hl)
  os := k.os.trans h.os
  tape := k.tape.trans h.tape
  output := k.output.trans h.output
  size := Nat.le_trans h.size k.size
  keep := fun b hb ho => (k.keep b (Nat.lt_of_lt_of_le hb h.size) (fun h2 => ho (h.grow b h2 hb))).trans (h.keep b hb ho)
  grow := fun b h2 hb => h.grow b (k.grow b h2 (Nat.lt_of_lt_of_le hb h.size)) hb
  mgrow := fun b c hc => by
    rcases k.mgrow b c hc with h1 | h1 | h1
    · exact h.mgrow b c h1
    · by_cases hb : b < w.heap.size
      · exact .inr (.inl (h.grow b h1 hb))
      · exact .inr (.inr (by omega))
    · exact .inr (.inr (Nat.le_trans h.size h1))

def GhostOK (np : Nat) (st st' : St) : Prop :=
  ∀ (m : Mem) (μ : LMap) (w : World) (a : Act), RH m μ st.H w → RS m μ st.sl a → ∃ m' μ', RS m' μ' st'.sl a ∧ PostW np m μ st.H w m' μ' st'.H w

theorem GhostOK.refl (np : Nat) (st : St) : GhostOK np st st := fun m μ w a rh rs => ⟨m, μ, rs, (Post.refl rh).toW⟩
theorem GhostOK.trans {np : Nat} {s1 s2 s3 : St} (h : GhostOK np s1 s2) (k : GhostOK np s2 s3) : GhostOK np s1 s3 := fun m μ w a rh rs => by
  obtain ⟨m1, μ1, rs1, p1⟩ := h m μ w a rh rs
  obtain ⟨m2, μ2, rs2, p2⟩ := k m1 μ1 w a p1.rh rs1
  exact ⟨m2, μ2, rs2, p1.trans p2⟩

theorem vrel_any {m : Mem} {μ : LMap} (v : Value) : VRel m μ .undef v := trivial

theorem maskL_get {keep : List Nat} : ∀ {l : List AVal} {i0 j : Nat} {x : AVal}, (maskL keep i0 l)[j]? = some x → l[j]? = some x ∨ (x = .undef ∧ j < l.length)
  | [], _, _, _, h => by simp [maskL] at h
  | y :: l, i0, j, x, h => by
    cases j with
    | zero =>
      simp only [maskL, List.getElem?_cons_zero, Option.some.injEq] at h
      split at h
      · exact .inl (by simp [h])
      · exact .inr ⟨h.symm, by simp⟩
    | succ j =>
      simp only [maskL, List.getElem?_cons_succ] at h
      rcases maskL_get h with h1 | ⟨h1, h2⟩
      · exact .inl (by simpa using h1)
      · exact .inr ⟨h1, by simp; omega⟩

theorem maskL_length {keep : List Nat} : ∀ {l : List AVal} {i0 : Nat}, (maskL keep i0 l).length = l.length
  | [], _ => rfl
  | _ :: l, _ => by simp [maskL, maskL_length (l := l)]

theorem RS.vals {m : Mem} {μ : LMap} {sl : List AVal} {a : Act} (rs : RS m μ sl a) {j : Nat} (hj : j < sl.length) : ∃ v, a.tmps[j]? = some v := by
  obtain ⟨v, h, _⟩ := rs.rel j sl[j] (by simp)
  exact ⟨v, h⟩

theorem mask_ok {np : Nat} {st : St} (keep : List Nat) : GhostOK np st ⟨maskL keep 0 st.sl, st.H⟩ := fun m μ w a rh rs => by
  refine ⟨m, μ, ⟨by rw [maskL_length]; exact rs.size, rs.defers, fun i x hx => ?_⟩, (Post.refl rh).toW⟩
  rcases maskL_get hx with h | ⟨rfl, h⟩
  · exact rs.rel i x h
  · obtain ⟨v, hv⟩ := rs.vals h
    exact ⟨v, hv, vrel_any v⟩

theorem drop_ok {np : Nat} {st : St} (id : Nat) : GhostOK np st ⟨st.sl, st.H.set id none⟩ := fun m μ w _ rh rs => ⟨m, μ, rs, (rh.kill id).toW⟩

/-! names -/
theorem findIx_spec {i : Nat} : ∀ {keep : List Nat} {k0 k : Nat}, findIx i k0 keep = some k → k0 ≤ k ∧ keep[k - k0]? = some i
  | [], _, _, h => by simp [findIx] at h
  | j :: l, k0, k, h => by
    simp only [findIx] at h
    split at h
    · cases h; rename_i e; subst e; exact ⟨Nat.le_refl _, by simp⟩
    · obtain ⟨h1, h2⟩ := findIx_spec h
      exact ⟨by omega, by rw [show k - k0 = (k - (k0 + 1)) + 1 by omega]; simpa using h2⟩

def renM (keep : List Nat) (μ : LMap) : LMap := fun k => (keep[k]?).bind μ

theorem findIx_ren {keep : List Nat} {μ : LMap} {i k : Nat} (h : findIx i 0 keep = some k) : renM keep μ k = μ i := by
  have := (findIx_spec h).2
  simp only [Nat.sub_zero] at this
  simp [renM, this]

theorem renA_agg {keep : List Nat} {a a' : AVal} (h : renA keep a = some a') : a'.isAgg = a.isAgg := by
  cases a <;> simp only [renA, Option.bind_eq_some_iff, Option.some.injEq] at h
  all_goals first
    | (subst h; rfl)
    | (obtain ⟨_, _, h⟩ := h; subst h; rfl)
    | (obtain ⟨_, _, _, _, h⟩ := h; subst h; rfl)

theorem renA_sh {keep : List Nat} : ∀ {a a' : AVal}, renA keep a = some a' → a'.sh = a.sh
  | .pair a b, a', h => by
    simp only [renA, Option.bind_eq_some_iff, Option.some.injEq] at h
    obtain ⟨x, hx, y, hy, h⟩ := h
    subst h
    simp only [AVal.sh, renA_sh hx, renA_sh hy]
  | .undef, a', h | .int _ _, a', h | .bool _, a', h | .str _, a', h | .nilp, a', h | .nils, a', h | .unit, a', h | .ros _ _, a', h | .rop _ _, a', h | .arr _ _ _, a', h | .vec _ _, a', h => by
    simp only [renA, Option.some.injEq] at h; subst h; rfl
  | .ptr _ _, a', h | .sl _ _ _ _, a', h | .vsl _, a', h | .parr _ _ _ _, a', h | .sfp _ _ _, a', h | .vbs _, a', h | .fn _ _, a', h | .tup _, a', h => by
    simp only [renA, Option.bind_eq_some_iff, Option.some.injEq] at h
    obtain ⟨_, _, h⟩ := h
    subst h; rfl

theorem renA_vb {keep : List Nat} {a a' : AVal} (h : renA keep a = some a') : a'.isVb = a.isVb := by
  cases a <;> simp only [renA, Option.bind_eq_some_iff, Option.some.injEq] at h
  all_goals first
    | (subst h; rfl)
    | (obtain ⟨_, _, h⟩ := h; subst h; rfl)
    | (obtain ⟨_, _, _, _, h⟩ := h; subst h; rfl)

theorem renA_rel {keep : List Nat} {m : Mem} {μ : LMap} : ∀ {a a' : AVal} {cs : List Value}, renA keep a = some a' → CRel m μ a cs → CRel m (renM keep μ) a' cs
  | .pair a b, a', cs, h, hc => by
    simp only [renA, Option.bind_eq_some_iff, Option.some.injEq] at h
    obtain ⟨x, hx, y, hy, h⟩ := h
    subst h
    simp only [CRel] at hc ⊢
    have hs : x.size = a.size := by unfold AVal.size; rw [renA_sh hx]
    rw [hs]
    exact ⟨renA_rel hx hc.1, renA_rel hy hc.2⟩
  | .undef, a', cs, h, hc => by simp only [CRel] at hc
  | .tup _, a', cs, h, hc => by simp only [CRel] at hc
  | .int _ _, a', cs, h, hc | .bool _, a', cs, h, hc | .str _, a', cs, h, hc | .nilp, a', cs, h, hc | .nils, a', cs, h, hc | .unit, a', cs, h, hc | .ros _ _, a', cs, h, hc | .rop _ _, a', cs, h, hc | .arr _ _ _, a', cs, h, hc | .vec _ _, a', cs, h, hc => by
    simp only [renA, Option.some.injEq] at h; subst h; simp only [CRel] at hc ⊢; exact hc
  | .ptr id p, a', cs, h, hc => by
    simp only [renA, Option.bind_eq_some_iff, Option.some.injEq] at h
    obtain ⟨k, hk, h⟩ := h
    subst h; simp only [CRel, findIx_ren hk] at hc ⊢; exact hc
  | .sl _ _ _ _, a', cs, h, hc => by
    simp only [renA, Option.bind_eq_some_iff, Option.some.injEq] at h
    obtain ⟨k, hk, h⟩ := h
    subst h; simp only [CRel, findIx_ren hk] at hc ⊢; exact hc
  | .vsl _, a', cs, h, hc => by
    simp only [renA, Option.bind_eq_some_iff, Option.some.injEq] at h
    obtain ⟨k, hk, h⟩ := h
    subst h; simp only [CRel, findIx_ren hk] at hc ⊢; exact hc
  | .parr _ _ _ _, a', cs, h, hc => by
    simp only [renA, Option.bind_eq_some_iff, Option.some.injEq] at h
    obtain ⟨k, hk, h⟩ := h
    subst h; simp only [CRel, findIx_ren hk] at hc ⊢; exact hc
  | .vbs _, a', cs, h, hc => by
    simp only [renA, Option.bind_eq_some_iff, Option.some.injEq] at h
    obtain ⟨k, hk, h⟩ := h
    subst h; simp only [CRel, findIx_ren hk] at hc ⊢; exact hc
  | .sfp _ _ _, a', cs, h, hc => by
    simp only [renA, Option.bind_eq_some_iff, Option.some.injEq] at h
    obtain ⟨k, hk, h⟩ := h
    subst h; simp only [CRel, findIx_ren hk] at hc ⊢; exact hc
  | .fn f c, a', cs, h, hc => by
    simp only [renA, Option.bind_eq_some_iff, Option.some.injEq] at h
    obtain ⟨x, hx, h⟩ := h
    subst h; simp only [CRel] at hc ⊢
    obtain ⟨cap, h1, h2⟩ := hc
    exact ⟨cap, h1, renA_rel hx h2⟩

theorem VRel0_iff {m : Mem} {μ : LMap} {a : AVal} {v : Value} (h0 : a ≠ .undef) (h1 : ∀ s, a ≠ .tup s) : VRel0 m μ a v ↔ if a.isAgg then ∃ cs, v = .agg cs ∧ CRel m μ a cs.toList else CRel m μ a [v] := by
  unfold VRel0
  split
  · exact absurd rfl h0
  · exact absurd rfl (h1 _)
  · exact Iff.rfl

theorem renA_undef {keep : List Nat} {a a' : AVal} (h : renA keep a = some a') : (a' = .undef ↔ a = .undef) ∧ ((∃ s, a' = .tup s) ↔ ∃ s, a = .tup s) := by
  cases a <;> simp only [renA, Option.bind_eq_some_iff, Option.some.injEq] at h
  all_goals first
    | (subst h; simp; done)
    | (obtain ⟨x, _, y, _, rfl⟩ := h; simp; done)
    | (obtain ⟨x, _, rfl⟩ := h; simp; done)

theorem renA_vrel0 {keep : List Nat} {m : Mem} {μ : LMap} {a a' : AVal} {v : Value} (h : renA keep a = some a') (hv : VRel0 m μ a v) : VRel0 m (renM keep μ) a' v := by
  by_cases h0 : a = .undef
  · subst h0; simp only [renA, Option.some.injEq] at h; subst h; trivial
  by_cases h1 : ∃ s, a = .tup s
  · obtain ⟨s, rfl⟩ := h1; exact hv.elim
  have h1' : ∀ s, a ≠ .tup s := fun s e => h1 ⟨s, e⟩
  rw [VRel0_iff h0 h1'] at hv
  have g0 : a' ≠ .undef := fun e => h0 ((renA_undef h).1.1 e)
  have g1 : ∀ s, a' ≠ .tup s := fun s e => h1 ((renA_undef h).2.1 ⟨s, e⟩)
  rw [VRel0_iff g0 g1, renA_agg h]
  split
  · rename_i ha
    rw [if_pos ha] at hv
    obtain ⟨cs, h2, h3⟩ := hv
    exact ⟨cs, h2, renA_rel h h3⟩
  · rename_i ha
    rw [if_neg ha] at hv
    exact renA_rel h hv

theorem renA_trel {keep : List Nat} {m : Mem} {μ : LMap} : ∀ {a a' : AVal} {vs : List Value}, renA keep a = some a' → TRel m μ a vs → TRel m (renM keep μ) a' vs
  | .unit, a', vs, h, hv => by simp only [renA, Option.some.injEq] at h; subst h; exact hv
  | .pair a b, a', vs, h, hv => by
    simp only [renA, Option.bind_eq_some_iff, Option.some.injEq] at h
    obtain ⟨x, hx, y, hy, h⟩ := h
    subst h
    obtain ⟨v, r, h1, h2, h3⟩ := hv
    exact ⟨v, r, h1, renA_vrel0 hx h2, renA_trel hy h3⟩
  | .undef, _, _, _, hv | .int _ _, _, _, _, hv | .bool _, _, _, _, hv | .str _, _, _, _, hv | .nilp, _, _, _, hv | .nils, _, _, _, hv | .ros _ _, _, _, _, hv | .rop _ _, _, _, _, hv | .arr _ _ _, _, _, _, hv | .vec _ _, _, _, _, hv
  | .ptr _ _, _, _, _, hv | .sl _ _ _ _, _, _, _, hv | .vsl _, _, _, _, hv | .parr _ _ _ _, _, _, _, hv | .sfp _ _ _, _, _, _, hv | .vbs _, _, _, _, hv | .fn _ _, _, _, _, hv | .tup _, _, _, _, hv => hv.elim

theorem renA_vrel {keep : List Nat} {m : Mem} {μ : LMap} {a a' : AVal} {v : Value} (h : renA keep a = some a') (hv : VRel m μ a v) : VRel m (renM keep μ) a' v := by
  by_cases h1 : ∃ s, a = .tup s
  · obtain ⟨s, rfl⟩ := h1
    simp only [renA, Option.bind_eq_some_iff, Option.some.injEq] at h
    obtain ⟨x, hx, h⟩ := h
    subst h
    obtain ⟨vs, h2, h3⟩ := hv
    exact ⟨vs, h2, renA_trel hx h3⟩
  · have e : VRel m μ a v = VRel0 m μ a v := by
      cases a <;> first | rfl | exact absurd ⟨_, rfl⟩ h1
    have e' : VRel m (renM keep μ) a' v = VRel0 m (renM keep μ) a' v := by
      have h2 : ¬ ∃ s, a' = .tup s := fun e => h1 ((renA_undef h).2.1 e)
      cases a' <;> first | rfl | exact absurd ⟨_, rfl⟩ h2
    rw [e] at hv; rw [e']
    exact renA_vrel0 h hv

def nodupB : List Nat → Bool
  | [] => true
  | a :: l => l.all (fun b => b != a) && nodupB l

theorem nodupB_spec : ∀ {l : List Nat}, nodupB l = true → ∀ (i j x : Nat), l[i]? = some x → l[j]? = some x → i = j
  | [], _, i, j, x, hi, _ => by simp at hi
  | a :: l, h, i, j, x, hi, hj => by
    simp only [nodupB, Bool.and_eq_true, List.all_eq_true, bne_iff_ne] at h
    cases i with
    | zero =>
      cases j with
      | zero => rfl
      | succ j =>
        simp only [List.getElem?_cons_zero, Option.some.injEq, List.getElem?_cons_succ] at hi hj
        subst hi
        exact absurd rfl (h.1 _ (List.mem_of_getElem? hj))
    | succ i =>
      cases j with
      | zero =>
        simp only [List.getElem?_cons_zero, Option.some.injEq, List.getElem?_cons_succ] at hi hj
        subst hj
        exact absurd rfl (h.1 _ (List.mem_of_getElem? hi))
      | succ j =>
        simp only [List.getElem?_cons_succ] at hi hj
        rw [nodupB_spec h.2 i j x hi hj]

def prefB (keep : List Nat) : Nat → Bool
  | 0 => true
  | n + 1 => prefB keep n && (keep[n]? == some n)

theorem prefB_spec {keep : List Nat} : ∀ {n : Nat}, prefB keep n = true → ∀ (i : Nat), i < n → keep[i]? = some i
  | 0, _, i, hi => by omega
  | n + 1, h, i, hi => by
    simp only [prefB, Bool.and_eq_true, beq_iff_eq] at h
    by_cases he : i = n
    · subst he; exact h.2
    · exact prefB_spec h.1 i (by omega)

theorem renum_post {np : Nat} {st : St} {keep : List Nat} (hn : nodupB keep = true) (hp : prefB keep np = true) {m : Mem} {μ : LMap} {w : World} {a : Act} (rh : RH m μ st.H w) (rs : RS m μ st.sl a) :
    RS m (renM keep μ) (st.sl.map fun a => (renA keep a).getD .undef) a ∧ PostW np m μ st.H w m (renM keep μ) (keep.map fun i => (st.H.getD i none).bind (renA keep)) w := by
  have look : ∀ {k : Nat} {x : AVal}, (keep.map fun i => (st.H.getD i none).bind (renA keep))[k]? = some (some x) → ∃ i y, keep[k]? = some i ∧ st.H[i]? = some (some y) ∧ renA keep y = some x := by
    intro k x hk
    rw [List.getElem?_map, Option.map_eq_some_iff] at hk
    obtain ⟨i, h1, h2⟩ := hk
    rw [Option.bind_eq_some_iff] at h2
    obtain ⟨y, h3, h4⟩ := h2
    refine ⟨i, y, h1, ?_, h4⟩
    rw [List.getD_eq_getElem?_getD] at h3
    cases hh : st.H[i]? with
    | none => rw [hh] at h3; cases h3
    | some z => rw [hh] at h3; simp only [Option.getD_some] at h3; rw [h3]
  refine ⟨⟨by simpa using rs.size, rs.defers, fun i x hx => ?_⟩, ⟨⟨rh.mem, ?_, ?_, ?_, ?_, ?_⟩, Mem.le_refl _, ?_, rfl, rfl, rfl, Nat.le_refl _, fun _ _ _ => rfl, ?_, fun _ _ h => .inl h⟩⟩
  · rw [List.getElem?_map, Option.map_eq_some_iff] at hx
    obtain ⟨y, h1, h2⟩ := hx
    obtain ⟨v, h3, h4⟩ := rs.rel i y h1
    refine ⟨v, h3, ?_⟩
    cases hr : renA keep y with
    | none => rw [hr] at h2; subst h2; exact vrel_any v
    | some z => rw [hr] at h2; simp only [Option.getD_some] at h2; subst h2; exact renA_vrel hr h4
  · intro k x hk
    obtain ⟨i, y, h1, h2, h3⟩ := look hk
    obtain ⟨l, hb⟩ := rh.blk i y h2
    refine ⟨l, by simp [renM, h1, hb.loc], by rw [hb.sh, renA_sh h3], ?_⟩
    rw [renA_sh h3]
    rcases hb.cells with ⟨p1, p2, p3, p4⟩ | ⟨p0, gm, cs, E, fz, g1, g2, g3, g4, g5⟩
    · exact .inl ⟨p1, p2, p3, renA_rel h3 p4⟩
    · exact .inr ⟨p0, gm, cs, E, fz, g1, g2, g3, g4, renA_rel h3 g5⟩
  · intro i j x y li lj hi hj hli hlj z1 z2 he
    obtain ⟨i', x', h1, h2, _⟩ := look hi
    obtain ⟨j', y', h3, h4, _⟩ := look hj
    simp only [renM, h1, h3, Option.bind_some] at hli hlj
    have := rh.inj i' j' x' y' li lj h2 h4 hli hlj z1 z2 he
    subst this
    exact nodupB_spec hn i j i' h1 h3
  · intro i hi
    simp only [List.length_map] at hi
    simp [renM, List.getElem?_eq_none hi]
  · intro i x l hi hl hz
    obtain ⟨i', x', h1, h2, _⟩ := look hi
    simp only [renM, h1, Option.bind_some] at hl
    exact rh.typ i' x' l h2 hl hz
  · intro i x l hi hv hl hz
    obtain ⟨i', x', h1, h2, h3⟩ := look hi
    simp only [renM, h1, Option.bind_some] at hl
    exact rh.vb i' x' l h2 (by rw [← renA_vb h3]; exact hv) hl hz
  · intro i l hi hl
    simp [renM, prefB_spec hp i hi, hl]
  · rintro b ⟨i, x, l, hi, hl, hz, he⟩ _
    obtain ⟨i', x', h1, h2, _⟩ := look hi
    simp only [renM, h1, Option.bind_some] at hl
    exact ⟨i', x', l, h2, hl, hz, he⟩

theorem renum_ok {np : Nat} {st : St} {keep : List Nat} (hn : nodupB keep = true) (hp : prefB keep np = true) :
    GhostOK np st ⟨st.sl.map fun a => (renA keep a).getD .undef, keep.map fun i => (st.H.getD i none).bind (renA keep)⟩ := fun m μ w a rh rs =>
  ⟨m, renM keep μ, renum_post hn hp rh rs⟩
end Go.Am
/- Rows that are frozen: from now on they are only read. -/
namespace Go.Am
open Go
open Classical

def Frz (μ : LMap) (H : Heap) (ids : List Nat) (b : Nat) : Prop := ∃ i a l, i ∈ ids ∧ H[i]? = some (some a) ∧ μ i = some l ∧ 0 < l.tot ∧ l.b = b

noncomputable def frzM (m : Mem) (μ : LMap) (H : Heap) (w : World) (ids : List Nat) : Mem := fun b =>
  if Frz μ H ids b then (match w.heap[b]? with | some (.cells cs _ _) => some cs | _ => none) else m b

theorem dropAll_look : ∀ {ids : List Nat} {H : Heap} {j : Nat} {x : AVal}, (dropAll ids H)[j]? = some (some x) → j ∉ ids ∧ H[j]? = some (some x)
  | [], _, _, _, h => ⟨by simp, h⟩
  | i :: l, H, j, x, h => by
    simp only [dropAll] at h
    obtain ⟨h1, h2⟩ := dropAll_look h
    obtain ⟨h3, h4⟩ := set_none_look h2
    exact ⟨by simp [h1, h3], h4⟩

theorem dropAll_length : ∀ {ids : List Nat} {H : Heap}, (dropAll ids H).length = H.length
  | [], _ => rfl
  | i :: l, H => by simp only [dropAll]; rw [dropAll_length, List.length_set]

section
variable {m : Mem} {μ : LMap} {H : Heap} {w : World} {ids : List Nat}

theorem frz_cells (rh : RH m μ H w) {b : Nat} (hb : Frz μ H ids b) : m b = none ∧ ∃ cs E fz, w.heap[b]? = some (.cells cs E fz) ∧ frzM m μ H w ids b = some cs := by
  have hb' := hb
  obtain ⟨i, a, l, _, h2, h3, h4, rfl⟩ := hb
  obtain ⟨l', hblk⟩ := rh.blk i a h2
  have : l' = l := Option.some.inj (hblk.loc.symm.trans h3)
  subst this
  rcases hblk.cells with ⟨p1, _⟩ | ⟨_, gm, cs, E, fz, g1, _⟩
  · omega
  · exact ⟨gm, cs, E, fz, g1, by simp only [frzM, if_pos hb', g1]⟩

theorem frz_le (rh : RH m μ H w) : m.le (frzM m μ H w ids) := by
  intro b c hc
  unfold frzM
  split
  · rename_i hb
    rw [(frz_cells rh hb).1] at hc; cases hc
  · exact hc

theorem frz_post (rh : RH m μ H w) : Post m μ H w (frzM m μ H w ids) μ (dropAll ids H) w := by
  refine ⟨⟨?_, ?_, ?_, ?_, fun i a l hi hl hz => rh.typ i a l (dropAll_look hi).2 hl hz, fun i a l hi hv hl hz => rh.vb i a l (dropAll_look hi).2 hv hl hz⟩, frz_le rh, LMap.le_refl _, rfl, rfl, rfl, Nat.le_refl _, fun _ _ _ => rfl, ?_, ?_⟩
  · intro b cs hb
    unfold frzM at hb
    split at hb
    · rename_i hf
      obtain ⟨_, cs', E, fz, h1, _⟩ := frz_cells rh hf
      rw [h1] at hb
      simp only [Option.some.injEq] at hb
      subst hb
      exact ⟨E, fz, h1⟩
    · exact rh.mem b cs hb
  · intro i a hi
    obtain ⟨h1, h2⟩ := dropAll_look hi
    obtain ⟨l, hb⟩ := rh.blk i a h2
    refine ⟨l, hb.loc, hb.sh, ?_⟩
    rcases hb.cells with ⟨p1, p2, p3, p4⟩ | ⟨p0, gm, cs, E, fz, g1, g2, g3, g4, g5⟩
    · exact .inl ⟨p1, p2, p3, p4.mono (frz_le rh) (LMap.le_refl _)⟩
    · refine .inr ⟨p0, ?_, cs, E, fz, g1, g2, g3, g4, g5.mono (frz_le rh) (LMap.le_refl _)⟩
      unfold frzM
      rw [if_neg]
      · exact gm
      · rintro ⟨j, b, lj, k1, k2, k3, k4, k5⟩
        have := rh.inj i j a b l lj h2 k2 hb.loc k3 p0 k4 k5.symm
        exact h1 (this ▸ k1)
  · intro i j a b li lj hi hj
    exact rh.inj i j a b li lj (dropAll_look hi).2 (dropAll_look hj).2
  · intro i hi
    exact rh.dom i (by rw [dropAll_length] at hi; exact hi)
  · rintro b ⟨i, a, l, hi, h2, h3, h4⟩ _
    exact ⟨i, a, l, (dropAll_look hi).2, h2, h3, h4⟩
  · intro b c hc
    by_cases hf : Frz μ H ids b
    · obtain ⟨i, a, l, _, h2, h3, h4, h5⟩ := hf
      exact .inr (.inl ⟨i, a, l, h2, h3, h4, h5⟩)
    · unfold frzM at hc
      rw [if_neg hf] at hc
      exact .inl hc

/-- A part of a frozen row reads as data. -/
theorem frz_row (rh : RH m μ H w) {id : Nat} {c y : AVal} {p : List Nat} {l : Loc} {o N off len cap : Nat} {t : Ty} {xs : List t.den} {a : Option Addr} (hid : id ∈ ids) (hi : H[id]? = some (some c)) (hg : getP c p = some y)
    (hl : μ id = some l) (ho : l.sh.offP p = some (o, .arr N t)) (hy : ∀ cs, CRel m μ y cs → DRel m (.arr N t) xs cs) (hle : off + len ≤ N) (hlc : len ≤ cap) (ha : a = some ⟨l.b, l.off + o + off * t.size, none⟩ ∨ cap = 0) (ht : t.size ≠ 0) :
    DRel (frzM m μ H w ids) (.sl t) ((xs.drop off).take len) [.slice a len cap] := by
  obtain ⟨cs0, h0⟩ := live_cells rh hi hg hl ho
  have hlen : ((xs.drop off).take len).length = len := by
    have := (hy _ h0).1
    simp [this]; omega
  simp only [DRel]
  refine ⟨a, cap, by rw [hlen], by omega, fun i hi' => ?_⟩
  rw [hlen] at hi'
  have ha' : a = some ⟨l.b, l.off + o + off * t.size, none⟩ := by
    rcases ha with h | h
    · exact h
    · omega
  subst ha'
  have hN : 1 ≤ N := by omega
  have hpos : 0 < (Sh.arr N t).size := by
    simp only [Sh.size]
    exact Nat.mul_pos (by omega) (Nat.pos_of_ne_zero ht)
  obtain ⟨hs, hsh, hle2, h1⟩ := at_path rh hi hg hl ho
  obtain ⟨htot, hm, cs, E, fz, g1, g2, g3, g4, _, g6⟩ := h1 hpos
  have hf : Frz μ H ids l.b := ⟨id, c, l, hid, hi, hl, htot, rfl⟩
  obtain ⟨_, cs', E', fz', k1, k2⟩ := frz_cells rh hf
  rw [g1] at k1
  cases k1
  have hd := hy _ g6
  have hsub := sub_arr (k := len) hd hle
  simp only [Sh.size] at hle2 g6
  have hmul : (off + len) * t.size ≤ N * t.size := Nat.mul_le_mul_right _ hle
  rw [Nat.add_mul] at hmul
  rw [Sh.size, take_drop_sub _ _ _ _ _ (by omega)] at hsub
  obtain ⟨_, _, d3⟩ := hsub
  have hm1 : (i + 1) * t.size ≤ len * t.size := Nat.mul_le_mul_right _ hi'
  rw [Nat.add_mul] at hm1
  have d4 := d3 i hi'
  rw [take_drop_sub _ _ _ _ _ (by omega)] at d4
  refine ⟨_, (cs.toList.drop (l.off + o + off * t.size + i * t.size)).take t.size, rfl, rfl, ?_, d4.mono (frz_le rh)⟩
  unfold Mem.cells
  rw [k2]
  simp only
  rw [if_pos (by omega)]

theorem frzA_rel (rh : RH m μ H w) : ∀ {a a' : AVal} {ids' : List Nat} {cs : List Value}, frzA H a = some (a', ids') → (∀ i, i ∈ ids' → i ∈ ids) → CRel m μ a cs → a'.sh = a.sh ∧ a'.isAgg = a.isAgg ∧ CRel (frzM m μ H w ids) μ a' cs
  | .vsl id, a', ids', cs, h, hin, hc => by
    simp only [frzA] at h
    split at h
    · rename_i t xs hi
      cases ht : (t.size == 0) with
      | true => rw [ht] at h; cases h
      | false =>
        rw [ht] at h
        simp only [cond_false, Option.some.injEq, Prod.mk.injEq] at h
        obtain ⟨rfl, rfl⟩ := h
        refine ⟨rfl, rfl, ?_⟩
        obtain ⟨v, hv⟩ := hc.one rfl
        subst hv
        obtain ⟨l, a, cap, hl, hsh, hcap, he, ha⟩ := vsl_loc rh hi (VRel_one hc rfl)
        subst he
        have := frz_row (ids := ids) (off := 0) (len := xs.length) (cap := cap) (a := a) (t := t) (xs := xs) rh (hin id (by simp)) hi (p := []) (y := .vec t xs) rfl hl (o := 0) (N := xs.length) (by rw [hsh]; rfl)
          (fun cs h => by simpa only [CRel] using h) (by omega) hcap (by rcases ha with h | h; exact .inl (by rw [h.1]; simp); exact .inr h) (by simpa using ht)
        simpa only [CRel, List.drop_zero, List.take_length] using this
    · cases h
  | .sl id p off len, a', ids', cs, h, hin, hc => by
    simp only [frzA] at h
    split at h
    · rename_i t xs idv hv
      cases ht : (t.size == 0) with
      | true => rw [ht] at h; cases h
      | false =>
        rw [ht] at h
        simp only [cond_false, Option.some.injEq, Prod.mk.injEq] at h
        obtain ⟨rfl, rfl⟩ := h
        refine ⟨rfl, rfl, ?_⟩
        simp only [CRel] at hc
        obtain ⟨l, o, n, t', a, cap, hl, ho, hle, hcap, he, ha⟩ := hc
        subst he
        simp only [viewA] at hv
        have ha' : a = some ⟨l.b, l.off + o + off * t'.size, none⟩ ∨ cap = 0 := by
          rcases ha with h | h
          · exact .inl h.1
          · exact .inr h
        split at hv
        · rename_i c hi
          split at hv
          · rename_i n' t2 ys hg
            cases hv
            have hs := (at_path rh hi hg hl ho).1
            simp only [AVal.sh] at hs
            cases hs
            have := frz_row (ids := ids) rh (hin id (by simp)) hi hg hl ho (fun cs h => by simpa only [CRel] using h) hle hcap ha' (by simpa using ht)
            simpa only [CRel] using this
          · rename_i t2 ys hg
            cases hv
            have hs := (at_path rh hi hg hl ho).1
            simp only [AVal.sh] at hs
            cases hs
            have := frz_row (ids := ids) rh (hin id (by simp)) hi hg hl ho (fun cs h => by simpa only [CRel] using h) hle hcap ha' (by simpa using ht)
            simpa only [CRel] using this
          · cases hv
        · cases hv
    · cases h
  | .pair a b, a', ids', cs, h, hin, hc => by
    simp only [frzA, Option.bind_eq_some_iff, Option.some.injEq] at h
    obtain ⟨x, hx, y, hy, h⟩ := h
    cases h
    simp only [CRel] at hc
    obtain ⟨s1, _, r1⟩ := frzA_rel rh hx (fun i hi => hin i (by simp [hi])) hc.1
    obtain ⟨s2, _, r2⟩ := frzA_rel rh hy (fun i hi => hin i (by simp [hi])) hc.2
    refine ⟨by simp only [AVal.sh, s1, s2], rfl, ?_⟩
    simp only [CRel]
    have hs : x.1.size = a.size := by unfold AVal.size; rw [s1]
    rw [hs]
    exact ⟨r1, r2⟩
  | .undef, a', ids', cs, h, hin, hc => by simp only [CRel] at hc
  | .tup _, a', ids', cs, h, hin, hc => by simp only [CRel] at hc
  | .int _ _, a', ids', cs, h, hin, hc | .bool _, a', ids', cs, h, hin, hc | .str _, a', ids', cs, h, hin, hc | .nilp, a', ids', cs, h, hin, hc | .nils, a', ids', cs, h, hin, hc | .unit, a', ids', cs, h, hin, hc | .ros _ _, a', ids', cs, h, hin, hc
  | .rop _ _, a', ids', cs, h, hin, hc | .arr _ _ _, a', ids', cs, h, hin, hc | .ptr _ _, a', ids', cs, h, hin, hc | .sfp _ _ _, a', ids', cs, h, hin, hc => by
    simp only [frzA, Option.some.injEq, Prod.mk.injEq] at h
    obtain ⟨rfl, rfl⟩ := h
    exact ⟨rfl, rfl, hc.mono (frz_le rh) (LMap.le_refl _)⟩
  | .vbs _, a', ids', cs, h, hin, hc | .vec _ _, a', ids', cs, h, hin, hc | .parr _ _ _ _, a', ids', cs, h, hin, hc | .fn _ _, a', ids', cs, h, hin, hc => by simp [frzA] at h

theorem frzA_vb {a a' : AVal} {ids' : List Nat} (h : frzA H a = some (a', ids')) : a'.isVb = false := by
  cases a with
  | vsl id =>
    simp only [frzA] at h
    split at h
    · rename_i t xs _
      cases hz : (t.size == 0) with
      | true => rw [hz] at h; cases h
      | false => rw [hz] at h; cases h; rfl
    · cases h
  | sl id p off len =>
    simp only [frzA] at h
    split at h
    · rename_i t xs _ _
      cases hz : (t.size == 0) with
      | true => rw [hz] at h; cases h
      | false => rw [hz] at h; cases h; rfl
    · cases h
  | pair a b =>
    simp only [frzA, Option.bind_eq_some_iff, Option.some.injEq, Prod.mk.injEq] at h
    obtain ⟨_, _, _, _, rfl, _⟩ := h; rfl
  | tup a =>
    simp only [frzA, Option.bind_eq_some_iff, Option.some.injEq, Prod.mk.injEq] at h
    obtain ⟨_, _, rfl, _⟩ := h; rfl
  | _ =>
    first
      | (simp only [frzA, Option.some.injEq, Prod.mk.injEq] at h; obtain ⟨rfl, _⟩ := h; rfl)
      | (simp [frzA] at h)

theorem frzA_undef {a : AVal} {a' : AVal} {ids' : List Nat} (h : frzA H a = some (a', ids')) : (a' = .undef ↔ a = .undef) ∧ ((∃ s, a' = .tup s) ↔ ∃ s, a = .tup s) := by
  cases a <;> simp only [frzA, Option.bind_eq_some_iff, Option.some.injEq, Prod.mk.injEq] at h
  all_goals first
    | (obtain ⟨rfl, _⟩ := h; simp; done)
    | (obtain ⟨x, _, y, _, rfl, _⟩ := h; simp; done)
    | (obtain ⟨x, _, rfl, _⟩ := h; simp; done)
    | (cases h; done)
    | skip
  all_goals
    (split at h <;> try (cases h; done))
  all_goals
    (rw [Bool.cond_eq_ite] at h
     split at h
     · cases h
     · simp only [Option.some.injEq, Prod.mk.injEq] at h
       obtain ⟨rfl, _⟩ := h; simp)

theorem frzA_vrel0 (rh : RH m μ H w) {a a' : AVal} {ids' : List Nat} {v : Value} (h : frzA H a = some (a', ids')) (hin : ∀ i, i ∈ ids' → i ∈ ids) (hv : VRel0 m μ a v) : VRel0 (frzM m μ H w ids) μ a' v := by
  obtain ⟨hu, ht⟩ := frzA_undef h
  by_cases h0 : a = .undef
  · rw [hu.2 h0]; trivial
  by_cases h1 : ∃ s, a = .tup s
  · obtain ⟨s, rfl⟩ := h1; exact hv.elim
  have h1' : ∀ s, a ≠ .tup s := fun s e => h1 ⟨s, e⟩
  rw [VRel0_iff h0 h1'] at hv
  rw [VRel0_iff (fun e => h0 (hu.1 e)) (fun s e => h1 (ht.1 ⟨s, e⟩))]
  split at hv
  · rename_i ha
    obtain ⟨cs, h2, h3⟩ := hv
    obtain ⟨_, g2, g3⟩ := frzA_rel rh h hin h3
    rw [if_pos (by rw [g2]; exact ha)]
    exact ⟨cs, h2, g3⟩
  · rename_i ha
    obtain ⟨_, g2, g3⟩ := frzA_rel rh h hin hv
    rw [if_neg (by rw [g2]; exact ha)]
    exact g3

theorem frzA_trel (rh : RH m μ H w) : ∀ {a a' : AVal} {ids' : List Nat} {vs : List Value}, frzA H a = some (a', ids') → (∀ i, i ∈ ids' → i ∈ ids) → TRel m μ a vs → TRel (frzM m μ H w ids) μ a' vs
  | .unit, a', ids', vs, h, _, hv => by simp only [frzA, Option.some.injEq, Prod.mk.injEq] at h; obtain ⟨rfl, _⟩ := h; exact hv
  | .pair a b, a', ids', vs, h, hin, hv => by
    simp only [frzA, Option.bind_eq_some_iff, Option.some.injEq] at h
    obtain ⟨x, hx, y, hy, h⟩ := h
    cases h
    obtain ⟨v, r, h1, h2, h3⟩ := hv
    exact ⟨v, r, h1, frzA_vrel0 rh hx (fun i hi => hin i (by simp [hi])) h2, frzA_trel rh hy (fun i hi => hin i (by simp [hi])) h3⟩
  | .undef, _, _, _, _, _, hv | .int _ _, _, _, _, _, _, hv | .bool _, _, _, _, _, _, hv | .str _, _, _, _, _, _, hv | .nilp, _, _, _, _, _, hv | .nils, _, _, _, _, _, hv | .ros _ _, _, _, _, _, _, hv | .rop _ _, _, _, _, _, _, hv | .arr _ _ _, _, _, _, _, _, hv | .vec _ _, _, _, _, _, _, hv
  | .ptr _ _, _, _, _, _, _, hv | .sl _ _ _ _, _, _, _, _, _, hv | .vsl _, _, _, _, _, _, hv | .parr _ _ _ _, _, _, _, _, _, hv | .sfp _ _ _, _, _, _, _, _, hv | .vbs _, _, _, _, _, _, hv | .fn _ _, _, _, _, _, _, hv | .tup _, _, _, _, _, _, hv => hv.elim

theorem frzA_vrel (rh : RH m μ H w) {a a' : AVal} {ids' : List Nat} {v : Value} (h : frzA H a = some (a', ids')) (hin : ∀ i, i ∈ ids' → i ∈ ids) (hv : VRel m μ a v) : VRel (frzM m μ H w ids) μ a' v := by
  by_cases h1 : ∃ s, a = .tup s
  · obtain ⟨s, rfl⟩ := h1
    simp only [frzA, Option.bind_eq_some_iff, Option.some.injEq, Prod.mk.injEq] at h
    obtain ⟨x, hx, rfl, rfl⟩ := h
    obtain ⟨vs, h2, h3⟩ := hv
    exact ⟨vs, h2, frzA_trel rh hx hin h3⟩
  · have h2 : ¬ ∃ s, a' = .tup s := fun e => h1 ((frzA_undef h).2.1 e)
    have e : VRel m μ a v = VRel0 m μ a v := by
      cases a <;> first | rfl | exact absurd ⟨_, rfl⟩ h1
    have e' : VRel (frzM m μ H w ids) μ a' v = VRel0 (frzM m μ H w ids) μ a' v := by
      cases a' <;> first | rfl | exact absurd ⟨_, rfl⟩ h2
    rw [e] at hv; rw [e']
    exact frzA_vrel0 rh h hin hv
end
end Go.Am
/- Ghosts, one and all. -/
namespace Go.Am
open Go

theorem RS.setv {m m' : Mem} {μ μ' : LMap} {sl : List AVal} {a : Act} (rs : RS m μ sl a) (hm : m.le m') (hμ : μ.le μ') {i : Nat} {x : AVal} (h : ∀ v, VRel m μ (sl.getD i .undef) v → VRel m' μ' x v) : RS m' μ' (sl.set i x) a := by
  refine ⟨by simp [rs.size], rs.defers, fun j y hj => ?_⟩
  by_cases hij : i = j
  · subst hij
    have hlt : i < sl.length := by
      rcases Nat.lt_or_ge i sl.length with h1 | h1
      · exact h1
      · rw [List.getElem?_eq_none (by simpa using h1)] at hj; cases hj
    rw [List.getElem?_set_self hlt] at hj
    cases hj
    obtain ⟨v, h1, h2⟩ := rs.rel i sl[i] (by simp)
    exact ⟨v, h1, h v (by rw [List.getD_eq_getElem?_getD, List.getElem?_eq_getElem hlt]; exact h2)⟩
  · rw [List.getElem?_set_ne hij] at hj
    obtain ⟨v, h1, h2⟩ := rs.rel j y hj
    exact ⟨v, h1, h2.mono hm hμ⟩

theorem freeze_ok {np : Nat} {st : St} {i : Nat} {a' : AVal} {ids : List Nat} (h : frzA st.H (st.sl.getD i .undef) = some (a', ids)) : GhostOK np st ⟨st.sl.set i a', dropAll ids st.H⟩ := fun m μ w a rh rs => by
  refine ⟨frzM m μ st.H w ids, μ, ?_, (frz_post rh).toW⟩
  exact rs.setv (frz_le rh) (LMap.le_refl _) fun v hv => frzA_vrel rh h (fun _ h => h) hv

/-- One block, told in other words. -/
theorem RH.retell {m : Mem} {μ : LMap} {H : Heap} {w : World} {i : Nat} {a a' : AVal} (rh : RH m μ H w) (hi : H[i]? = some (some a)) (hs : a'.sh = a.sh) (hr : ∀ cs, CRel m μ a cs → CRel m μ a' cs) (hv : a'.isVb = true → a.isVb = true) : Post m μ H w m μ (H.set i (some a')) w := by
  have hlt : i < H.length := (List.getElem?_eq_some_iff.1 hi).1
  have look : ∀ {j : Nat} {x : AVal}, (H.set i (some a'))[j]? = some (some x) → (j = i ∧ x = a') ∨ H[j]? = some (some x) := by
    intro j x hj
    by_cases e : i = j
    · subst e
      rw [List.getElem?_set_self hlt] at hj
      simp only [Option.some.injEq] at hj
      exact .inl ⟨rfl, hj.symm⟩
    · rw [List.getElem?_set_ne e] at hj; exact .inr hj
  have look2 : ∀ {j : Nat} {x : AVal}, (H.set i (some a'))[j]? = some (some x) → ∃ y, H[j]? = some (some y) := by
    intro j x hj
    rcases look hj with ⟨rfl, _⟩ | h
    · exact ⟨a, hi⟩
    · exact ⟨x, h⟩
  refine ⟨⟨rh.mem, ?_, ?_, fun j hj => rh.dom j (by simpa using hj), fun j x l hj hl hz => by obtain ⟨y, h1⟩ := look2 hj; exact rh.typ j y l h1 hl hz, fun j x l hj hq hl hz => by
    rcases look hj with ⟨rfl, rfl⟩ | h
    · exact rh.vb _ a l hi (hv hq) hl hz
    · exact rh.vb j x l h hq hl hz⟩, Mem.le_refl _, LMap.le_refl _, rfl, rfl, rfl, Nat.le_refl _, fun _ _ _ => rfl, ?_, fun _ _ h => .inl h⟩
  · intro j x hj
    rcases look hj with ⟨rfl, rfl⟩ | h
    · obtain ⟨l, hb⟩ := rh.blk _ a hi
      refine ⟨l, hb.loc, by rw [hb.sh, hs], ?_⟩
      rw [hs]
      rcases hb.cells with ⟨p1, p2, p3, p4⟩ | ⟨p0, gm, cs, E, fz, g1, g2, g3, g4, g5⟩
      · exact .inl ⟨p1, p2, p3, hr _ p4⟩
      · exact .inr ⟨p0, gm, cs, E, fz, g1, g2, g3, g4, hr _ g5⟩
    · exact rh.blk j x h
  · intro j j' x y l l' hj hj'
    obtain ⟨x', h1⟩ := look2 hj
    obtain ⟨y', h2⟩ := look2 hj'
    exact rh.inj j j' x' y' l l' h1 h2
  · rintro b ⟨j, x, l, hj, hl, hz, he⟩ _
    obtain ⟨y, h1⟩ := look2 hj
    exact ⟨j, y, l, h1, hl, hz, he⟩

theorem setP_retell {m m' : Mem} {μ μ' : LMap} (hm : m.le m') (hμ : μ.le μ') {a x x' a' : AVal} {p : List Nat} {o : Nat} {s : Sh} (ho : a.sh.offP p = some (o, s)) (hg : getP a p = some x) (hset : setP a p x' = some a') (hsx : x'.sh = x.sh)
    (hr : ∀ cs, CRel m μ x cs → CRel m' μ' x' cs) : ∀ cs, CRel m μ a cs → CRel m' μ' a' cs := by
  intro cs hc
  obtain ⟨hle, x1, h1, h2, h3⟩ := getP_rel hc ho
  rw [hg] at h1
  cases h1
  have h4 := setP_rel (hc.mono hm hμ) ho (hr _ h3) (by rw [hsx, h2]) hset
  have hl := hc.length
  simp only [AVal.size] at hl
  have e : splice cs o ((cs.drop o).take s.size) = cs := by
    have hlen : ((cs.drop o).take s.size).length = s.size := by simp; omega
    unfold splice
    rw [hlen, List.append_assoc, ← List.drop_drop, List.take_append_drop, List.take_append_drop]
  rw [e] at h4
  exact h4.2

theorem dropAll_set : ∀ {ids : List Nat} {H : Heap} {i : Nat} {x : Option AVal}, dropAll ids (H.set i x) = if i ∈ ids then dropAll ids H else (dropAll ids H).set i x
  | [], H, i, x => by simp [dropAll]
  | j :: ids, H, i, x => by
    simp only [dropAll, List.mem_cons]
    by_cases hij : j = i
    · subst hij
      rw [List.set_set]; simp
    · rw [List.set_comm _ _ (Ne.symm hij), dropAll_set]
      simp only [Ne.symm hij, false_or]

/-- The core of both: a slice that shows a part of its row becomes a row of its own. -/
theorem rebase_core {m : Mem} {μ : LMap} {H : Heap} {w : World} (rh : RH m μ H w) {id off len : Nat} {t : Ty} {xs : List t.den} {v0 : Value} (hv0 : CRel m μ (.sl id [] off len) [v0]) (hi : H[id]? = some (some (.vec t xs))) :
    ∃ μ', Post m μ H w m μ' (H.set id none ++ [some (.vec t ((xs.drop off).take len))]) w ∧ ∀ v, CRel m μ (.sl id [] off len) [v] → CRel m μ' (.vsl H.length) [v] := by
  obtain ⟨l, o, n, t', ad, cap, hl, ho, hle, hlc, hve, ha⟩ := hv0
  obtain ⟨l', hb⟩ := rh.blk id _ hi
  have : l' = l := Option.some.inj (hb.loc.symm.trans hl)
  subst this
  have hsh := hb.sh
  simp only [Sh.offP, Option.some.injEq, Prod.mk.injEq] at ho
  obtain ⟨rfl, ho⟩ := ho
  rw [ho] at hsh
  simp only [AVal.sh, Sh.arr.injEq] at hsh
  obtain ⟨rfl, rfl⟩ := hsh
  simp only [Nat.add_zero, forall_const] at ha
  have hlen : ((xs.drop off).take len).length = len := by simp; omega
  have hmul : (off + len) * t'.size ≤ xs.length * t'.size := Nat.mul_le_mul_right _ hle
  rw [Nat.add_mul] at hmul
  -- every reading of the old slice is one of the new
  have key : ∀ (μ' : LMap) (L : Loc), μ' H.length = some L → L.sh = (AVal.vec t' ((xs.drop off).take len)).sh → L.b = l'.b → L.tot = l'.tot → (∀ cap, l'.off + (off + cap) * t'.size ≤ l'.tot → L.off = l'.off + off * t'.size) →
      ∀ v, CRel m μ (.sl id [] off len) [v] → CRel m μ' (.vsl H.length) [v] := by
    intro μ' L hL hLs hLb hLt hLo v hv
    obtain ⟨l2, o2, n2, t2, ad, cap, hl2, ho2, hle2, hlc2, hve, ha⟩ := hv
    rw [hl] at hl2
    cases hl2
    simp only [Sh.offP, Option.some.injEq, Prod.mk.injEq] at ho2
    obtain ⟨rfl, ho2⟩ := ho2
    rw [ho] at ho2
    cases ho2
    cases hve
    refine ⟨L, len, t', ad, cap, hL, by rw [hLs]; simp only [AVal.sh, hlen], hlc2, rfl, ?_⟩
    rcases ha with ⟨h1, h2⟩ | h1
    · refine .inl ⟨by rw [h1, hLb, hLo cap (h2 rfl)]; simp, ?_⟩
      have := h2 rfl
      rw [hLo cap this, hLt]
      rw [Nat.add_mul] at this
      omega
    · exact .inr h1
  rcases hb.cells with ⟨p1, p2, p3, p4⟩ | ⟨p0, gm, cs, E, fz, g1, g2, g3, g4, g5⟩
  · have hk := rh.kill id
    have hz : xs.length * t'.size = 0 := p3
    have hlen0 : (H.set id none).length = H.length := by simp
    have hp := hk.rh.phantom (a := .vec t' ((xs.drop off).take len)) (by simp only [AVal.sh, Sh.size, hlen]; omega) (by
      simp only [CRel] at p4 ⊢
      rw [hlen]
      have := sub_arr (k := len) p4 hle
      simpa using this) l'.b
    rw [hlen0] at hp
    have hpost := hk.trans hp
    refine ⟨_, hpost, ?_⟩
    refine key _ ⟨l'.b, 0, (AVal.vec t' ((xs.drop off).take len)).sh, 0, 0⟩ (by simp) rfl rfl p1.symm fun cap hc => ?_
    rw [Nat.add_mul] at hc
    simp only
    omega
  · simp only [AVal.sh, Sh.size] at g4
    have hp := rh.move (a' := .vec t' ((xs.drop off).take len)) (off' := l'.off + off * t'.size) (cs' := cs) (E := E) (fz := fz) (w' := w) hi hl p0 g1 { blk := g1, keep := fun _ _ => rfl, size := rfl, os := rfl, tape := rfl, output := rfl } rfl (by simp only [AVal.sh, Sh.size, hlen]; omega) (by
      simp only [CRel, AVal.sh, Sh.size] at g5 ⊢
      rw [hlen]
      have := sub_arr (k := len) g5 hle
      rw [take_drop_sub _ _ _ _ _ (by omega)] at this
      exact this) (fun h => by rw [vec_vb _ xs] at h; exact h)
    refine ⟨_, hp, ?_⟩
    exact key _ ⟨l'.b, l'.off + off * t'.size, (AVal.vec t' ((xs.drop off).take len)).sh, l'.tot, l'.E⟩ (by simp) rfl rfl rfl fun cap hc => rfl

theorem rebase_ok {np : Nat} {st : St} {i id off len : Nat} {t : Ty} {xs : List t.den} (h : st.sl.getD i .undef = .sl id [] off len) (hi : st.H[id]? = some (some (.vec t xs))) :
    GhostOK np st ⟨st.sl.set i (.vsl st.H.length), st.H.set id none ++ [some (.vec t ((xs.drop off).take len))]⟩ := fun m μ w a rh rs => by
  have hlt : i < st.sl.length := by
    rcases Nat.lt_or_ge i st.sl.length with h1 | h1
    · exact h1
    · rw [List.getD_eq_getElem?_getD, List.getElem?_eq_none h1] at h; cases h
  obtain ⟨v, _, hv⟩ := rs.rel i st.sl[i] (by simp)
  have he : st.sl[i] = .sl id [] off len := by rw [← h, List.getD_eq_getElem?_getD, List.getElem?_eq_getElem hlt]; rfl
  rw [he] at hv
  obtain ⟨μ', hp, hk⟩ := rebase_core rh (hv.one rfl rfl) hi
  refine ⟨m, μ', rs.setv (Mem.le_refl _) hp.μl fun v hv => ?_, hp.toW⟩
  rw [h] at hv
  exact VRel_one (a := .vsl st.H.length) (hk v (hv.one rfl rfl)) rfl

/-- The place in a block. -/
theorem place_blk {st st' : St} {id : Nat} {p : List Nat} {v : AVal} (h : Place.set st v (.blk id p) = some st') :
    ∃ c c' o s, st.H[id]? = some (some c) ∧ c.sh.offP p = some (o, s) ∧ setP c p v = some c' ∧ c'.sh = c.sh ∧ st' = ⟨st.sl, st.H.set id (some c')⟩ := by
  simp only [Place.set] at h
  split at h
  · rename_i c hc
    split at h
    · rename_i os ho
      rw [Option.bind_eq_some_iff] at h
      obtain ⟨c', h1, h2⟩ := h
      split at h2
      · rename_i hs
        simp only [decide_eq_true_eq] at hs
        simp only [Option.some.injEq] at h2
        exact ⟨c, c', os.1, os.2, hc, ho, h1, hs, h2.symm⟩
      · cases h2
    · cases h
  · cases h

theorem freezeB_ok {np : Nat} {st st' : St} {id : Nat} {p : List Nat} {x a' : AVal} {ids : List Nat} (hx : contA st.H id p = some x) (h : frzA st.H x = some (a', ids)) (hs : Place.set st a' (.blk id p) = some st') : GhostOK np st ⟨st'.sl, dropAll ids st'.H⟩ := fun m μ w a rh rs => by
  obtain ⟨c, c', o, s, h1, h2, h3, h4, rfl⟩ := place_blk hs
  have hp := frz_post (ids := ids) rh
  refine ⟨frzM m μ st.H w ids, μ, rs.mono (frz_le rh) (LMap.le_refl _), ?_⟩
  simp only [dropAll_set]
  by_cases hid : id ∈ ids
  · rw [if_pos hid]; exact hp.toW
  · rw [if_neg hid]
    have hg : getP c p = some x := by simpa [contA, h1] using hx
    have hsx : a'.sh = x.sh ∧ ∀ cs, CRel m μ x cs → CRel (frzM m μ st.H w ids) μ a' cs := by
      obtain ⟨l, hb⟩ := rh.blk id c h1
      have : ∃ cs, CRel m μ c cs := by
        rcases hb.cells with ⟨_, _, _, p4⟩ | ⟨_, _, cs, E, fz, _, _, _, _, g5⟩
        · exact ⟨_, p4⟩
        · exact ⟨_, g5⟩
      obtain ⟨cs, hcs⟩ := this
      obtain ⟨_, x1, k1, _, k3⟩ := getP_rel hcs h2
      rw [hg] at k1; cases k1
      exact ⟨(frzA_rel (ids := ids) rh h (fun _ h => h) k3).1, fun cs hc => (frzA_rel (ids := ids) rh h (fun _ h => h) hc).2.2⟩
    obtain ⟨l, hb⟩ := rh.blk id c h1
    have hd : (dropAll ids st.H)[id]? = some (some c) := by
      have : ∀ {ids : List Nat} {H : Heap} {x : Nat}, x ∉ ids → (dropAll ids H)[x]? = H[x]? := by
        intro ids
        induction ids with
        | nil => intro H x _; rfl
        | cons j l ih =>
          intro H x hx
          simp only [List.mem_cons, not_or] at hx
          rw [dropAll, ih hx.2, List.getElem?_set_ne (Ne.symm hx.1)]
      rw [this hid]; exact h1
    -- the block as it reads now
    have hr : ∀ cs, CRel m μ c cs → CRel (frzM m μ st.H w ids) μ c' cs := setP_retell (frz_le rh) (LMap.le_refl _) h2 hg h3 hsx.1 hsx.2
    have hvb : c'.isVb = true → c.isVb = true := setP_vb h3 (frzA_vb h)
    have hp2 : PostW np (frzM m μ st.H w ids) μ (dropAll ids st.H) w (frzM m μ st.H w ids) μ ((dropAll ids st.H).set id (some c')) w := by
      have hlt : id < (dropAll ids st.H).length := (List.getElem?_eq_some_iff.1 hd).1
      have look : ∀ {j : Nat} {x : AVal}, ((dropAll ids st.H).set id (some c'))[j]? = some (some x) → (j = id ∧ x = c') ∨ (dropAll ids st.H)[j]? = some (some x) := by
        intro j x hj
        by_cases e : id = j
        · subst e
          rw [List.getElem?_set_self hlt] at hj
          simp only [Option.some.injEq] at hj
          exact .inl ⟨rfl, hj.symm⟩
        · rw [List.getElem?_set_ne e] at hj; exact .inr hj
      have look2 : ∀ {j : Nat} {x : AVal}, ((dropAll ids st.H).set id (some c'))[j]? = some (some x) → ∃ y, (dropAll ids st.H)[j]? = some (some y) := by
        intro j x hj
        rcases look hj with ⟨rfl, _⟩ | h
        · exact ⟨c, hd⟩
        · exact ⟨x, h⟩
      refine ⟨⟨hp.rh.mem, ?_, ?_, fun j hj => hp.rh.dom j (by simpa using hj), fun j x l hj hl hz => by obtain ⟨y, k1⟩ := look2 hj; exact hp.rh.typ j y l k1 hl hz, fun j x l hj hq hl hz => by
        rcases look hj with ⟨rfl, rfl⟩ | h
        · exact hp.rh.vb _ c l hd (hvb hq) hl hz
        · exact hp.rh.vb j x l h hq hl hz⟩, Mem.le_refl _, fun _ _ _ h => h, rfl, rfl, rfl, Nat.le_refl _, fun _ _ _ => rfl, ?_, fun _ _ h => .inl h⟩
      · intro j x hj
        rcases look hj with ⟨rfl, rfl⟩ | h
        · -- the same cells, told anew, by what the whole heap says of them
          obtain ⟨l2, hb2⟩ := hp.rh.blk _ c hd
          have hll : l2 = l := Option.some.inj (hb2.loc.symm.trans hb.loc)
          subst hll
          refine ⟨l2, hb.loc, by rw [hb.sh, h4], ?_⟩
          rw [h4]
          rcases hb.cells with ⟨p1, p2, p3, p4⟩ | ⟨p0, gm, cs, E, fz, g1, g2, g3, g4, g5⟩
          · exact .inl ⟨p1, p2, p3, hr _ p4⟩
          · rcases hb2.cells with ⟨q1, _⟩ | ⟨_, gm2, _⟩
            · omega
            · exact .inr ⟨p0, gm2, cs, E, fz, g1, g2, g3, g4, hr _ g5⟩
        · exact hp.rh.blk j x h
      · intro j j' x y l l' hj hj'
        obtain ⟨x', k1⟩ := look2 hj
        obtain ⟨y', k2⟩ := look2 hj'
        exact hp.rh.inj j j' x' y' l l' k1 k2
      · rintro b ⟨j, x, l, hj, hl, hz, he⟩ _
        obtain ⟨y, k1⟩ := look2 hj
        exact ⟨j, y, l, k1, hl, hz, he⟩
    exact hp.toW.trans hp2

theorem rebaseB_ok {np : Nat} {st st' : St} {id : Nat} {p : List Nat} {id2 off len : Nat} {t : Ty} {xs : List t.den} (hx : contA st.H id p = some (.sl id2 [] off len)) (hi : st.H[id2]? = some (some (.vec t xs)))
    (hs : Place.set st (.vsl st.H.length) (.blk id p) = some st') : GhostOK np st ⟨st'.sl, st'.H.set id2 none ++ [some (.vec t ((xs.drop off).take len))]⟩ := fun m μ w a rh rs => by
  obtain ⟨c, c', o, s, h1, h2, h3, h4, rfl⟩ := place_blk hs
  have hg : getP c p = some (.sl id2 [] off len) := by simpa [contA, h1] using hx
  obtain ⟨l, hb⟩ := rh.blk id c h1
  have : ∃ cs, CRel m μ c cs := by
    rcases hb.cells with ⟨_, _, _, p4⟩ | ⟨_, _, cs, E, fz, _, _, _, _, g5⟩
    · exact ⟨_, p4⟩
    · exact ⟨_, g5⟩
  obtain ⟨cs, hcs⟩ := this
  obtain ⟨_, x1, k1, _, k3⟩ := getP_rel hcs h2
  rw [hg] at k1; cases k1
  obtain ⟨v0, hv0⟩ := k3.one rfl
  rw [hv0] at k3
  obtain ⟨μ', hp, hk⟩ := rebase_core rh k3 hi
  refine ⟨m, μ', rs.mono (Mem.le_refl _) hp.μl, ?_⟩
  have hr : ∀ cs, CRel m μ c cs → CRel m μ' c' cs := setP_retell (Mem.le_refl _) hp.μl h2 hg h3 rfl (fun cs hc => by
    obtain ⟨v, rfl⟩ := hc.one rfl
    exact hk v hc)
  have hvb : c'.isVb = true → c.isVb = true := setP_vb h3 rfl
  by_cases hid : id = id2
  · subst hid
    simp only [List.set_set]
    exact hp.toW
  · have hlt : id < st.H.length := (List.getElem?_eq_some_iff.1 h1).1
    have e : (st.H.set id (some c')).set id2 none ++ [some (AVal.vec t ((xs.drop off).take len))] = (st.H.set id2 none ++ [some (AVal.vec t ((xs.drop off).take len))]).set id (some c') := by
      rw [List.set_comm _ _ hid, List.set_append_left _ _ (by simpa using hlt)]
    simp only [e]
    have hd : (st.H.set id2 none ++ [some (.vec t ((xs.drop off).take len))])[id]? = some (some c) := by
      rw [List.getElem?_append_left (by simpa using hlt), List.getElem?_set_ne (Ne.symm hid)]; exact h1
    generalize hH : st.H.set id2 none ++ [some (.vec t ((xs.drop off).take len))] = H2 at hp hd ⊢
    have hp2 : PostW np m μ' H2 w m μ' (H2.set id (some c')) w := by
      have hlt : id < H2.length := (List.getElem?_eq_some_iff.1 hd).1
      have look : ∀ {j : Nat} {x : AVal}, (H2.set id (some c'))[j]? = some (some x) → (j = id ∧ x = c') ∨ H2[j]? = some (some x) := by
        intro j x hj
        by_cases e : id = j
        · subst e
          rw [List.getElem?_set_self hlt] at hj
          simp only [Option.some.injEq] at hj
          exact .inl ⟨rfl, hj.symm⟩
        · rw [List.getElem?_set_ne e] at hj; exact .inr hj
      have look2 : ∀ {j : Nat} {x : AVal}, (H2.set id (some c'))[j]? = some (some x) → ∃ y, H2[j]? = some (some y) := by
        intro j x hj
        rcases look hj with ⟨rfl, _⟩ | h
        · exact ⟨c, hd⟩
        · exact ⟨x, h⟩
      refine ⟨⟨hp.rh.mem, ?_, ?_, fun j hj => hp.rh.dom j (by simpa using hj), fun j x l hj hl hz => by obtain ⟨y, k1⟩ := look2 hj; exact hp.rh.typ j y l k1 hl hz, fun j x l hj hq hl hz => by
        rcases look hj with ⟨rfl, rfl⟩ | h
        · exact hp.rh.vb _ c l hd (hvb hq) hl hz
        · exact hp.rh.vb j x l h hq hl hz⟩, Mem.le_refl _, fun _ _ _ h => h, rfl, rfl, rfl, Nat.le_refl _, fun _ _ _ => rfl, ?_, fun _ _ h => .inl h⟩
      · intro j x hj
        rcases look hj with ⟨rfl, rfl⟩ | h
        · refine ⟨l, hp.μl _ _ hb.loc, by rw [hb.sh, h4], ?_⟩
          rw [h4]
          rcases hb.cells with ⟨p1, p2, p3, p4⟩ | ⟨p0, gm, cs, E, fz, g1, g2, g3, g4, g5⟩
          · exact .inl ⟨p1, p2, p3, hr _ p4⟩
          · exact .inr ⟨p0, gm, cs, E, fz, g1, g2, g3, g4, hr _ g5⟩
        · exact hp.rh.blk j x h
      · intro j j' x y l l' hj hj'
        obtain ⟨x', k1⟩ := look2 hj
        obtain ⟨y', k2⟩ := look2 hj'
        exact hp.rh.inj j j' x' y' l l' k1 k2
      · rintro b ⟨j, x, l, hj, hl, hz, he⟩ _
        obtain ⟨y, k1⟩ := look2 hj
        exact ⟨j, y, l, k1, hl, hz, he⟩
    exact hp.toW.trans hp2

/-- A nil slice as an empty row of one's own. -/
theorem own_core {m : Mem} {μ : LMap} {H : Heap} {w : World} (rh : RH m μ H w) (t : Ty) :
    ∃ μ', Post m μ H w m μ' (H ++ [some (.vec t [])]) w ∧ ∀ v, CRel m μ .nils [v] → CRel m μ' (.vsl H.length) [v] := by
  have hp := rh.phantom (a := .vec t []) (by simp [AVal.sh, Sh.size]) (by simp [CRel, DRel]) 0
  refine ⟨_, hp, fun v hv => ?_⟩
  simp only [CRel] at hv ⊢
  refine ⟨⟨0, 0, (AVal.vec t []).sh, 0, 0⟩, 0, t, none, 0, by simp, rfl, Nat.le_refl _, hv, .inr rfl⟩

theorem own_ok {np : Nat} {st : St} {i : Nat} {t : Ty} (h : st.sl.getD i .undef = .nils) : GhostOK np st ⟨st.sl.set i (.vsl st.H.length), st.H ++ [some (.vec t [])]⟩ := fun m μ w a rh rs => by
  obtain ⟨μ', hp, hk⟩ := own_core rh t
  refine ⟨m, μ', rs.setv (Mem.le_refl _) hp.μl fun v hv => ?_, hp.toW⟩
  rw [h] at hv
  exact VRel_one (a := .vsl st.H.length) (hk v (hv.one rfl rfl)) rfl

theorem retell_under {np : Nat} {m m' : Mem} {μ μ' : LMap} {H2 : Heap} {w : World} {id : Nat} {c c' : AVal} {l : Loc} (rh : RH m' μ' H2 w) (hd : H2[id]? = some (some c)) (h4 : c'.sh = c.sh) (hb : Blk m μ w id c l) (hμ : μ.le μ')
    (hno : 0 < l.tot → m' l.b = none) (hr : ∀ cs, CRel m μ c cs → CRel m' μ' c' cs) (hv : c'.isVb = true → c.isVb = true) : PostW np m' μ' H2 w m' μ' (H2.set id (some c')) w := by
  have hlt : id < H2.length := (List.getElem?_eq_some_iff.1 hd).1
  have look : ∀ {j : Nat} {x : AVal}, (H2.set id (some c'))[j]? = some (some x) → (j = id ∧ x = c') ∨ H2[j]? = some (some x) := by
    intro j x hj
    by_cases e : id = j
    · subst e
      rw [List.getElem?_set_self hlt] at hj
      simp only [Option.some.injEq] at hj
      exact .inl ⟨rfl, hj.symm⟩
    · rw [List.getElem?_set_ne e] at hj; exact .inr hj
  have look2 : ∀ {j : Nat} {x : AVal}, (H2.set id (some c'))[j]? = some (some x) → ∃ y, H2[j]? = some (some y) := by
    intro j x hj
    rcases look hj with ⟨rfl, _⟩ | h
    · exact ⟨c, hd⟩
    · exact ⟨x, h⟩
  refine ⟨⟨rh.mem, ?_, ?_, fun j hj => rh.dom j (by simpa using hj), fun j x l hj hl hz => by obtain ⟨y, h1⟩ := look2 hj; exact rh.typ j y l h1 hl hz, fun j x l hj hq hl hz => by
    rcases look hj with ⟨rfl, rfl⟩ | h
    · exact rh.vb _ c l hd (hv hq) hl hz
    · exact rh.vb j x l h hq hl hz⟩, Mem.le_refl _, fun _ _ _ h => h, rfl, rfl, rfl, Nat.le_refl _, fun _ _ _ => rfl, ?_, fun _ _ h => .inl h⟩
  · intro j x hj
    rcases look hj with ⟨rfl, rfl⟩ | h
    · refine ⟨l, hμ _ _ hb.loc, by rw [hb.sh, h4], ?_⟩
      rw [h4]
      rcases hb.cells with ⟨p1, p2, p3, p4⟩ | ⟨p0, gm, cs, E, fz, g1, g2, g3, g4, g5⟩
      · exact .inl ⟨p1, p2, p3, hr _ p4⟩
      · exact .inr ⟨p0, hno p0, cs, E, fz, g1, g2, g3, g4, hr _ g5⟩
    · exact rh.blk j x h
  · intro j j' x y l l' hj hj'
    obtain ⟨x', k1⟩ := look2 hj
    obtain ⟨y', k2⟩ := look2 hj'
    exact rh.inj j j' x' y' l l' k1 k2
  · rintro b ⟨j, x, l, hj, hl, hz, he⟩ _
    obtain ⟨y, k1⟩ := look2 hj
    exact ⟨j, y, l, k1, hl, hz, he⟩

theorem ownB_ok {np : Nat} {st st' : St} {id : Nat} {p : List Nat} {t : Ty} (hx : contA st.H id p = some .nils) (hs : Place.set st (.vsl st.H.length) (.blk id p) = some st') : GhostOK np st ⟨st'.sl, st'.H ++ [some (.vec t [])]⟩ := fun m μ w a rh rs => by
  obtain ⟨c, c', o, s, h1, h2, h3, h4, rfl⟩ := place_blk hs
  have hg : getP c p = some .nils := by simpa [contA, h1] using hx
  obtain ⟨l, hb⟩ := rh.blk id c h1
  obtain ⟨μ', hp, hk⟩ := own_core rh t
  refine ⟨m, μ', rs.mono (Mem.le_refl _) hp.μl, ?_⟩
  have hr : ∀ cs, CRel m μ c cs → CRel m μ' c' cs := setP_retell (Mem.le_refl _) hp.μl h2 hg h3 rfl (fun cs hc => by
    obtain ⟨v, rfl⟩ := hc.one rfl
    exact hk v hc)
  have hlt : id < st.H.length := (List.getElem?_eq_some_iff.1 h1).1
  have e : st.H.set id (some c') ++ [some (AVal.vec t [])] = (st.H ++ [some (AVal.vec t [])]).set id (some c') := by
    rw [List.set_append_left _ _ hlt]
  have hd : (st.H ++ [some (AVal.vec t [])])[id]? = some (some c) := by rw [List.getElem?_append_left hlt]; exact h1
  show PostW np m μ st.H w m μ' (st.H.set id (some c') ++ [some (AVal.vec t [])]) w
  rw [e]
  refine hp.toW.trans (retell_under hp.rh hd h4 hb hp.μl (fun hz => ?_) hr (setP_vb h3 rfl))
  rcases hb.cells with ⟨p1, _⟩ | ⟨_, gm, _⟩
  · omega
  · exact gm

/-- The ghosts that this text speaks for. -/
def Ghost.okN (np : Nat) : Ghost → Bool
  | .mask _ => true
  | .drop _ => true
  | .renum keep => nodupB keep && prefB keep np
  | .freeze _ => true
  | .rebase _ => true
  | .own _ _ => true
  | .auto n => Nat.ble np n

def okG (np : Nat) : List Ghost → Bool
  | [] => true
  | g :: gs => g.okN np && okG np gs

theorem ghost0_ok {np : Nat} {g : Ghost} (hg : g.okN np = true) {st st' : St} (h : g.run0 st = some st') : GhostOK np st st' := by
  cases g with
  | auto n => simp [Ghost.run0] at h
  | mask keep => simp only [Ghost.run0, Option.some.injEq] at h; subst h; exact mask_ok keep
  | drop id => simp only [Ghost.run0, Option.some.injEq] at h; subst h; exact drop_ok id
  | renum keep =>
    simp only [Ghost.okN, Bool.and_eq_true] at hg
    simp only [Ghost.run0, Option.some.injEq] at h; subst h; exact renum_ok hg.1 hg.2
  | freeze pl =>
    cases pl with
    | blk id p =>
      simp only [Ghost.run0, Place.get, Option.bind_eq_some_iff, Option.map_eq_some_iff] at h
      obtain ⟨x, h1, r, h2, s', h3, h4⟩ := h
      subst h4
      exact freezeB_ok h1 h2 h3
    | slot i =>
      simp only [Ghost.run0, Place.get, Place.set, Option.bind_some, Option.bind_eq_some_iff, Option.map_some, Option.some.injEq] at h
      obtain ⟨r, h1, h2⟩ := h
      subst h2
      exact freeze_ok h1
  | own pl t =>
    simp only [Ghost.run0] at h
    split at h
    · rename_i hg0
      rw [Option.map_eq_some_iff] at h
      obtain ⟨s', h3, h4⟩ := h
      subst h4
      cases pl with
      | blk id p => exact ownB_ok hg0 h3
      | slot i =>
        simp only [Place.get, Option.some.injEq] at hg0
        simp only [Place.set, Option.some.injEq] at h3
        subst h3
        exact own_ok hg0
    · cases h
  | rebase pl =>
    cases pl with
    | blk id p =>
      simp only [Ghost.run0, Place.get] at h
      split at h
      · rename_i id2 off len he
        split at h
        · rename_i t xs hi
          rw [Option.map_eq_some_iff] at h
          obtain ⟨s', h3, h4⟩ := h
          subst h4
          exact rebaseB_ok he hi h3
        · cases h
      · cases h
    | slot i =>
      simp only [Ghost.run0, Place.get, Place.set, Option.map_some] at h
      split at h
      · rename_i id off len he
        split at h
        · rename_i t xs hi
          simp only [Option.some.injEq] at h he
          subst h
          exact rebase_ok he hi
        · cases h
      · cases h

theorem inB_iff {i : Nat} : ∀ {l : List Nat}, inB i l = true ↔ i ∈ l
  | [] => by simp [inB]
  | j :: l => by
    simp only [inB, Bool.cond_eq_ite, List.mem_cons]
    by_cases h : i = j
    · subst h; simp
    · have : Nat.beq i j = false := by
        cases hb : Nat.beq i j with
        | false => rfl
        | true => exact absurd (Nat.eq_of_beq_eq_true hb) h
      rw [this]
      simp only [Bool.false_eq_true, if_false, h, false_or]
      exact inB_iff

theorem nodupB0_to : ∀ {l : List Nat}, nodupB0 l = true → nodupB l = true
  | [], _ => rfl
  | a :: l, h => by
    simp only [nodupB0, Bool.and_eq_true, Bool.not_eq_true'] at h
    simp only [nodupB, Bool.and_eq_true, List.all_eq_true, bne_iff_ne]
    refine ⟨fun b hb e => ?_, nodupB0_to h.2⟩
    subst e
    have := inB_iff.2 hb
    rw [h.1] at this; cases this

theorem prefB0_to {keep : List Nat} : ∀ {n np : Nat}, np ≤ n → prefB0 keep n = true → prefB keep np = true
  | 0, np, h, _ => by rw [show np = 0 by omega]; rfl
  | n + 1, np, h, hp => by
    simp only [prefB0, Bool.and_eq_true] at hp
    by_cases he : np = n + 1
    · subst he
      simp only [prefB, Bool.and_eq_true, beq_iff_eq]
      refine ⟨prefB0_to (Nat.le_refl n) hp.1, ?_⟩
      have h2 := hp.2
      split at h2
      · rename_i i hi
        rw [hi, Nat.eq_of_beq_eq_true h2]
      · cases h2
    · exact prefB0_to (by omega) hp.1

theorem autoRun_ok {np m : Nat} (hm : np ≤ m) : ∀ {n : Nat} {st st' : St}, autoRun m n st = some st' → GhostOK np st st'
  | 0, _, _, h => by simp [autoRun] at h
  | n + 1, st, st', h => by
    simp only [autoRun] at h
    have step : ∀ pl, (Ghost.run0 (.rebase pl) st).bind (autoRun m n) = some st' → GhostOK np st st' := by
      intro pl h
      rw [Option.bind_eq_some_iff] at h
      obtain ⟨s1, h1, h2⟩ := h
      exact (ghost0_ok (g := .rebase pl) rfl h1).trans (autoRun_ok hm h2)
    split at h
    · exact step _ h
    · split at h
      · exact step _ h
      · rw [Bool.cond_eq_ite] at h
        split at h
        · rename_i hc
          rw [Bool.and_eq_true] at hc
          exact ghost0_ok (g := .renum (autoKeep m st)) (by simp only [Ghost.okN, Bool.and_eq_true]; exact ⟨nodupB0_to hc.1, prefB0_to hm hc.2⟩) h
        · cases h

theorem ghost_ok {np : Nat} {g : Ghost} (hg : g.okN np = true) {st st' : St} (h : g.run st = some st') : GhostOK np st st' := by
  cases g with
  | auto n =>
    simp only [Ghost.okN] at hg
    exact autoRun_ok (Nat.le_of_ble_eq_true hg) h
  | _ => exact ghost0_ok hg h

theorem ghosts_ok {np : Nat} : ∀ {gs : List Ghost} {st st' : St}, okG np gs = true → ghosts gs st = some st' → GhostOK np st st'
  | [], st, st', _, h => by simp only [ghosts, Option.some.injEq] at h; subst h; exact .refl np st
  | g :: gs, st, st', hg, h => by
    simp only [okG, Bool.and_eq_true] at hg
    simp only [ghosts, Option.bind_eq_some_iff] at h
    obtain ⟨s, h1, h2⟩ := h
    exact (ghost_ok hg.1 h1).trans (ghosts_ok hg.2 h2)

/-! code -/
/-- From st the code ends with e in st'. -/
def Goes (np : Nat) (P : Program) (c : Code) (st : St) (e : Exit) (st' : St) : Prop :=
  ∀ (m : Mem) (μ : LMap) (w : World) (a : Act) (Q : Exit → Act → World → Prop), RH m μ st.H w → RS m μ st.sl a →
    (∀ a' w' m' μ', RS m' μ' st'.sl a' → PostW np m μ st.H w m' μ' st'.H w' → Q e a' w') → c.wp P Q a w

theorem Goes.ghost {np : Nat} {P : Program} {c : Code} {s0 st st' : St} {e : Exit} (g : GhostOK np s0 st) (h : Goes np P c st e st') : Goes np P c s0 e st' := by
  intro m μ w a Q rh rs hQ
  obtain ⟨m1, μ1, rs1, p1⟩ := g m μ w a rh rs
  exact h m1 μ1 w a Q p1.rh rs1 fun a' w' m' μ' hs hp => hQ a' w' m' μ' hs (p1.trans hp)

theorem Goes.seq {np : Nat} {P : Program} {c d : Code} {st s1 st' : St} {e : Exit} (h : Goes np P c st .normal s1) (k : Goes np P d s1 e st') : Goes np P (.seq c d) st e st' := by
  intro m μ w a Q rh rs hQ
  refine wp_seq (h m μ w a _ rh rs fun a1 w1 m1 μ1 rs1 p1 => ?_)
  exact k m1 μ1 w1 a1 Q p1.rh rs1 fun a' w' m' μ' hs hp => hQ a' w' m' μ' hs (p1.trans hp)

theorem Goes.seq_out {np : Nat} {P : Program} {c d : Code} {st st' : St} {e : Exit} (h : Goes np P c st e st') (he : e ≠ .normal) : Goes np P (.seq c d) st e st' := by
  intro m μ w a Q rh rs hQ
  refine wp_seq (h m μ w a _ rh rs fun a1 w1 m1 μ1 rs1 p1 => ?_)
  have := hQ a1 w1 m1 μ1 rs1 p1
  cases e <;> first | exact absurd rfl he | exact this

/-- A piece that is told: what it hands on is what the code does. -/
def StOK (np : Nat) (P : Program) (c : Code) (s : StSem) : Prop :=
  ∀ {ρ : Type} (st : St) (k : Exit → St → Option ρ) (r : ρ), s.f st k = some r → ∃ e st', k e st' = some r ∧ Goes np P c st e st'

def AnnOK (np : Nat) (P : Program) : Code → Ann → Prop
  | _, .nil => True
  | c, .node pre sem a b => okG np pre = true ∧
    match sem with
    | some s => StOK np P c s
    | none =>
      match c with
      | .seq x y => AnnOK np P x a ∧ AnnOK np P y b
      | .cond _ x y => AnnOK np P x a ∧ AnnOK np P y b
      | .block _ x => AnnOK np P x a
      | _ => True

def kidsOK (np : Nat) (P : Program) (a b : Ann) : Code → Prop
  | .seq x y => AnnOK np P x a ∧ AnnOK np P y b
  | .cond _ x y => AnnOK np P x a ∧ AnnOK np P y b
  | .block _ x => AnnOK np P x a
  | _ => True

theorem AnnOK.kids {np : Nat} {P : Program} {c : Code} {ann : Ann} (h : AnnOK np P c ann) (hs : ann.sem = none) : okG np ann.pre = true ∧ kidsOK np P ann.l ann.r c := by
  cases ann with
  | nil => refine ⟨rfl, ?_⟩; cases c <;> simp [kidsOK, AnnOK, Ann.l, Ann.r]
  | node pre sem a b =>
    simp only [Ann.sem] at hs
    subst hs
    cases c <;> (simp only [AnnOK] at h; exact ⟨h.1, h.2⟩)

theorem AnnOK.told {np : Nat} {P : Program} {c : Code} {ann : Ann} {s : StSem} (h : AnnOK np P c ann) (hs : ann.sem = some s) : okG np ann.pre = true ∧ StOK np P c s := by
  cases ann with
  | nil => cases hs
  | node pre sem a b =>
    simp only [Ann.sem] at hs
    subst hs
    cases c <;> (simp only [AnnOK] at h; exact ⟨h.1, h.2⟩)

/-- What code without a telling of its own does. -/
def evK {ρ : Type} (C : Ctx) (a b : Ann) (st : St) (k : Exit → St → Option ρ) : Code → Option ρ
  | .skip => k .normal st
  | .region _ ops draw => evReg C ops draw st (k .normal)
  | .seq x y => evC C x a st fun e st' => (match e with | .normal => evC C y b st' k | e => k e st')
  | .cond v t e => (match evalA st.sl v with | .bool z => cond z (evC C t a st k) (evC C e b st k) | _ => none)
  | .block id body => evC C body a st fun e st' => (match e with | .exit i => cond (i == id) (k .normal st') (k (.exit i) st') | e => k e st')
  | .exit id => k (.exit id) st
  | .ret => k .ret st
  | _ => none

theorem evC_head {ρ : Type} {C : Ctx} (c : Code) (ann : Ann) (st0 : St) (k : Exit → St → Option ρ) :
    evC C c ann st0 k = match ghosts ann.pre st0 with
      | none => none
      | some st => match ann.sem with
        | some s => s.f st k
        | none => evK C ann.l ann.r st k c := by
  rw [evC]
  cases ghosts ann.pre st0 with
  | none => rfl
  | some st =>
    dsimp only
    cases ann.sem with
    | some s => rfl
    | none => cases c <;> rfl

theorem evC_sound {ρ : Type} {np : Nat} {C : Ctx} (hΓ : ∀ f, SemOK C.P f (C.Γ f)) (hmix : C.P.follows .mixedOrders = true) : ∀ (c : Code) (ann : Ann) (st0 : St) (k : Exit → St → Option ρ) (r : ρ), AnnOK np C.P c ann → evC C c ann st0 k = some r →
    ∃ e st', k e st' = some r ∧ Goes np C.P c st0 e st' := by
  have head : ∀ (c : Code), (∀ (ann : Ann) (st : St) (k : Exit → St → Option ρ) (r : ρ), kidsOK np C.P ann.l ann.r c → evK C ann.l ann.r st k c = some r → ∃ e st', k e st' = some r ∧ Goes np C.P c st e st') →
      ∀ (ann : Ann) (st0 : St) (k : Exit → St → Option ρ) (r : ρ), AnnOK np C.P c ann → evC C c ann st0 k = some r → ∃ e st', k e st' = some r ∧ Goes np C.P c st0 e st' := by
    intro c H ann st0 k r hA h
    rw [evC_head] at h
    cases hg : ghosts ann.pre st0 with
    | none => rw [hg] at h; cases h
    | some st =>
      rw [hg] at h
      dsimp only at h
      cases hs : ann.sem with
      | some s =>
        rw [hs] at h
        obtain ⟨h1, h2⟩ := hA.told hs
        obtain ⟨e, st', h3, h4⟩ := h2 st k r h
        exact ⟨e, st', h3, h4.ghost (ghosts_ok h1 hg)⟩
      | none =>
        rw [hs] at h
        obtain ⟨h1, h2⟩ := hA.kids hs
        obtain ⟨e, st', h3, h4⟩ := H ann st k r h2 h
        exact ⟨e, st', h3, h4.ghost (ghosts_ok h1 hg)⟩
  intro c
  induction c with
  | skip => exact head _ fun ann st k r _ h => ⟨_, _, h, fun m μ w a Q rh rs hQ => wp_skip (hQ _ _ _ _ rs (Post.refl rh).toW)⟩
  | ret => exact head _ fun ann st k r _ h => ⟨_, _, h, fun m μ w a Q rh rs hQ => wp_ret (hQ _ _ _ _ rs (Post.refl rh).toW)⟩
  | exit id => exact head _ fun ann st k r _ h => ⟨_, _, h, fun m μ w a Q rh rs hQ => wp_exit (hQ _ _ _ _ rs (Post.refl rh).toW)⟩
  | region id ops draw =>
    refine head _ fun ann st k r _ h => ?_
    obtain ⟨st', h1, h2⟩ := evReg_sound hΓ hmix h
    exact ⟨_, _, h1, fun m μ w a Q rh rs hQ => h2 id m μ w a Q rh rs fun a' w' m' μ' hs hp => hQ _ _ _ _ hs hp.toW⟩
  | seq x y ihx ihy =>
    refine head _ fun ann st k r hk h => ?_
    obtain ⟨e, s1, h1, h2⟩ := ihx _ _ _ _ hk.1 h
    cases e with
    | normal =>
      obtain ⟨e', s2, h3, h4⟩ := ihy _ _ _ _ hk.2 h1
      exact ⟨e', s2, h3, h2.seq h4⟩
    | _ => exact ⟨_, _, h1, h2.seq_out (by simp)⟩
  | cond v t e iht ihe =>
    refine head _ fun ann st k r hk h => ?_
    simp only [evK] at h
    split at h
    · rename_i z hz
      cases z with
      | true =>
        obtain ⟨e', s', h1, h2⟩ := iht _ _ _ _ hk.1 h
        refine ⟨e', s', h1, fun m μ w a Q rh rs hQ => wp_cond_true ?_ (h2 m μ w a Q rh rs hQ)⟩
        have := evalA_rel rs v
        rw [hz] at this
        exact this.isBool
      | false =>
        obtain ⟨e', s', h1, h2⟩ := ihe _ _ _ _ hk.2 h
        refine ⟨e', s', h1, fun m μ w a Q rh rs hQ => wp_cond_false ?_ (h2 m μ w a Q rh rs hQ)⟩
        have := evalA_rel rs v
        rw [hz] at this
        exact this.isBool
    · cases h
  | block id body ih =>
    refine head _ fun ann st k r hk h => ?_
    obtain ⟨e, s1, h1, h2⟩ := ih _ _ _ _ hk h
    cases e with
    | exit i =>
      dsimp only at h1
      by_cases hi : i = id
      · subst hi
        rw [beq_self_eq_true, cond_true] at h1
        exact ⟨_, _, h1, fun m μ w a Q rh rs hQ => wp_block (h2 m μ w a _ rh rs fun a' w' m' μ' hs hp => by simp only [Exit.inBlock, if_true]; exact hQ _ _ _ _ hs hp)⟩
      · rw [beq_false_of_ne hi, cond_false] at h1
        exact ⟨_, _, h1, fun m μ w a Q rh rs hQ => wp_block (h2 m μ w a _ rh rs fun a' w' m' μ' hs hp => by simp only [Exit.inBlock, if_neg hi]; exact hQ _ _ _ _ hs hp)⟩
    | _ => exact ⟨_, _, h1, fun m μ w a Q rh rs hQ => wp_block (h2 m μ w a _ rh rs fun a' w' m' μ' hs hp => hQ _ _ _ _ hs hp)⟩
  | _ => exact head _ fun ann st k r _ h => by cases h
end Go.Am
/- Templates of states; loops, pieces and functions as typed plain functions. -/
namespace Go.Am
open Go

inductive Tm where
  | undef
  | dat (t : Ty)
  | vec (t : Ty)
  | vsl (id : Nat)
  | slr (id : Nat) (p : List Nat)
  | ptr (id : Nat) (p : List Nat)
  | nilp
  | nils
  | sfp (id : Nat) (p : List Nat) (T : TypeId)
  | vbs (id : Nat)
  | unit
  | pair (a b : Tm)
  | fn (f : Nat) (c : Tm)
  | tup (c : Tm)

@[reducible] def Tm.den : Tm → Type
  | .dat t => t.den
  | .vec t => List t.den
  | .slr _ _ => Nat × Nat
  | .pair a b => a.den × b.den
  | .fn _ c => c.den
  | .tup c => c.den
  | _ => Unit

def Tm.inst : (t : Tm) → t.den → AVal
  | .undef, _ => .undef
  | .dat t, x => toA t x
  | .vec t, x => .vec t x
  | .vsl id, _ => .vsl id
  | .slr id p, x => .sl id p x.1 x.2
  | .ptr id p, _ => .ptr id p
  | .nilp, _ => .nilp
  | .sfp id p T, _ => .sfp id p T
  | .vbs id, _ => .vbs id
  | .nils, _ => .nils
  | .unit, _ => .unit
  | .pair a b, x => .pair (a.inst x.1) (b.inst x.2)
  | .fn f c, x => .fn f (c.inst x)
  | .tup c, x => .tup (c.inst x)

def eqPath : List Nat → List Nat → Bool
  | [], [] => true
  | a :: l, b :: r => a == b && eqPath l r
  | _, _ => false

/-- A value that fits a template; 'undef' forgets. -/
def Tm.mat : (t : Tm) → AVal → Option t.den
  | .undef, _ => some ()
  | .dat t, a => fromA t a
  | .vec t, .vec t' xs => if h : t' = t then some (h ▸ xs) else none
  | .vsl id, .vsl id' => if id' = id then some () else none
  | .slr id p, .sl id' p' off len => if id' = id ∧ p' = p then some (off, len) else none
  | .ptr id p, .ptr id' p' => if id' = id ∧ p' = p then some () else none
  | .nilp, .nilp => some ()
  | .vbs id, .vbs id' => if id' = id then some () else none
  | .sfp id p T, .sfp id' p' T' => if id' = id ∧ p' = p ∧ T' = T then some () else none
  | .nils, .nils => some ()
  | .unit, .unit => some ()
  | .pair a b, .pair x y => (a.mat x).bind fun u => (b.mat y).bind fun v => some (u, v)
  | .fn f c, .fn f' x => if f' = f then c.mat x else none
  | .tup c, .tup x => c.mat x
  | _, _ => none

@[reducible] def tdens : List Tm → Type
  | [] => Unit
  | .undef :: ts => tdens ts
  | .vsl _ :: ts => tdens ts
  | .ptr _ _ :: ts => tdens ts
  | .nilp :: ts => tdens ts
  | .sfp _ _ _ :: ts => tdens ts
  | .vbs _ :: ts => tdens ts
  | .nils :: ts => tdens ts
  | .unit :: ts => tdens ts
  | t :: ts => t.den × tdens ts

def instL : (ts : List Tm) → tdens ts → List AVal
  | [], _ => []
  | .undef :: ts, x => .undef :: instL ts x
  | .dat t :: ts, x => Tm.inst (.dat t) x.1 :: instL ts x.2
  | .vec t :: ts, x => Tm.inst (.vec t) x.1 :: instL ts x.2
  | .vsl i :: ts, x => Tm.inst (.vsl i) () :: instL ts x
  | .slr i p :: ts, x => Tm.inst (.slr i p) x.1 :: instL ts x.2
  | .ptr i p :: ts, x => Tm.inst (.ptr i p) () :: instL ts x
  | .nilp :: ts, x => Tm.inst .nilp () :: instL ts x
  | .sfp i p T :: ts, x => Tm.inst (.sfp i p T) () :: instL ts x
  | .vbs i :: ts, x => Tm.inst (.vbs i) () :: instL ts x
  | .nils :: ts, x => Tm.inst .nils () :: instL ts x
  | .unit :: ts, x => Tm.inst .unit () :: instL ts x
  | .pair a b :: ts, x => Tm.inst (.pair a b) x.1 :: instL ts x.2
  | .fn f c :: ts, x => Tm.inst (.fn f c) x.1 :: instL ts x.2
  | .tup c :: ts, x => Tm.inst (.tup c) x.1 :: instL ts x.2

def matL : (ts : List Tm) → List AVal → Option (tdens ts)
  | [], [] => some ()
  | .undef :: ts, _ :: as => matL ts as
  | .dat t :: ts, a :: as => (Tm.mat (.dat t) a).bind fun x => (matL ts as).bind fun y => some (x, y)
  | .vec t :: ts, a :: as => (Tm.mat (.vec t) a).bind fun x => (matL ts as).bind fun y => some (x, y)
  | .vsl i :: ts, a :: as => (Tm.mat (.vsl i) a).bind fun _ => matL ts as
  | .slr i p :: ts, a :: as => (Tm.mat (.slr i p) a).bind fun x => (matL ts as).bind fun y => some (x, y)
  | .ptr i p :: ts, a :: as => (Tm.mat (.ptr i p) a).bind fun _ => matL ts as
  | .nilp :: ts, a :: as => (Tm.mat .nilp a).bind fun _ => matL ts as
  | .sfp i p T :: ts, a :: as => (Tm.mat (.sfp i p T) a).bind fun _ => matL ts as
  | .vbs i :: ts, a :: as => (Tm.mat (.vbs i) a).bind fun _ => matL ts as
  | .nils :: ts, a :: as => (Tm.mat .nils a).bind fun _ => matL ts as
  | .unit :: ts, a :: as => (Tm.mat .unit a).bind fun _ => matL ts as
  | .pair b c :: ts, a :: as => (Tm.mat (.pair b c) a).bind fun x => (matL ts as).bind fun y => some (x, y)
  | .fn f c :: ts, a :: as => (Tm.mat (.fn f c) a).bind fun x => (matL ts as).bind fun y => some (x, y)
  | .tup c :: ts, a :: as => (Tm.mat (.tup c) a).bind fun x => (matL ts as).bind fun y => some (x, y)
  | _, _ => none

/-- Slots of which nothing is said. -/
@[reducible] def us (n : Nat) : List Tm := List.replicate n .undef

/-- A state's template: slots, then blocks ('undef': let go). -/
structure StT where
  sl : List Tm
  H : List Tm

@[reducible] def StT.den (T : StT) : Type := tdens (T.sl ++ T.H)

def optH : List AVal → Heap
  | [] => []
  | .undef :: l => none :: optH l
  | a :: l => some a :: optH l

def StT.inst (T : StT) (x : T.den) : St :=
  let l := instL (T.sl ++ T.H) x
  ⟨l.take T.sl.length, optH (l.drop T.sl.length)⟩

/-- Blocks of a heap as values; one that was let go is 'undef'. -/
def valH : Heap → List AVal
  | [] => []
  | none :: l => .undef :: valH l
  | some a :: l => a :: valH l

def okBlk : Tm → Bool
  | .tup _ => false
  | _ => true

def StT.mat (T : StT) (s : St) : Option T.den :=
  if s.sl.length = T.sl.length ∧ s.H.length = T.H.length then matL (T.sl ++ T.H) (s.sl ++ valH s.H) else none

structure Out where
  e : Exit
  gs : List Ghost
  T : StT

@[reducible] def outDen : List Out → Type
  | [] => Empty
  | [o] => o.T.den
  | o :: os => o.T.den ⊕ outDen os

def exitEq : Exit → Exit → Bool
  | .normal, .normal => true
  | .ret, .ret => true
  | .exit i, .exit j => i == j
  | _, _ => false

def Out.go {ρ : Type} (o : Out) (s : St) (K : o.T.den → Option ρ) : Option ρ :=
  match ghosts o.gs s with
  | some s' => (match o.T.mat s' with | some x => K x | none => none)
  | none => none

def goOuts {ρ : Type} : (os : List Out) → Exit → St → (outDen os → Option ρ) → Option ρ
  | [], _, _, _ => none
  | [o], e, s, K => cond (exitEq e o.e) (o.go s K) none
  | o :: o' :: os, e, s, K =>
    match cond (exitEq e o.e) ((ghosts o.gs s).bind o.T.mat) none with
    | some x => K (.inl x)
    | none => goOuts (o' :: os) e s fun y => K (.inr y)

def instOuts {ρ : Type} : (os : List Out) → outDen os → (Exit → St → Option ρ) → Option ρ
  | [], _, _ => none
  | [o], x, K => K o.e (o.T.inst x)
  | o :: o' :: os, x, K => Sum.elim (fun a => K o.e (o.T.inst a)) (fun b => instOuts (o' :: os) b K) (show o.T.den ⊕ outDen (o' :: os) from x)

/-- A piece of code that is told by a typed function. -/
def pieceSem (T : StT) (os : List Out) (J : T.den → Option (outDen os)) : StSem :=
  ⟨fun s K => match T.mat s with | some x => (J x).bind fun y => instOuts os y K | none => none⟩

def loopJ {σ τ : Type} (r : {ρ : Type} → σ → (σ → Option ρ) → (τ → Option ρ) → Option ρ) : Nat → σ → Option τ
  | 0, _ => none
  | k + 1, x => r x (loopJ r k) some

/-- What the round of a loop hands on. -/
def roundK {ρ : Type} (T : StT) (gs : List Ghost) (os : List Out) (kn : T.den → Option ρ) (ke : outDen os → Option ρ) (e : Exit) (s : St) : Option ρ :=
  match e with
  | .normal => Out.go ⟨.normal, gs, T⟩ s kn
  | e => goOuts os e s ke

/-- A piece of code, told by r. -/
def PieceIs (C : Ctx) (c : Code) (ann : Ann) (T : StT) (os : List Out) (r : {ρ : Type} → T.den → (outDen os → Option ρ) → Option ρ) : Prop :=
  ∀ {ρ : Type} (x : T.den) (K : outDen os → Option ρ), evC C c ann (T.inst x) (fun e s => goOuts os e s K) = r x K

/-! functions over pure data -/
@[reducible] def dens : List Ty → Type
  | [] => Unit
  | t :: ts => t.den × dens ts

/-- An argument as data; a slice of one's own may be read meanwhile. -/
def argD (H : Heap) : (t : Ty) → AVal → Option (t.den × List Nat)
  | .sl t, a =>
    match a with
    | .nils => some ([], [])
    | a =>
      match viewA H a with
      | some ⟨t', xs, ids⟩ => if h : t' = t then cond (t.size == 0) none (some (h ▸ xs, ids)) else none
      | none => none
  | .pair a b, v =>
    match v with
    | .pair x y => (argD H a x).bind fun u => (argD H b y).bind fun w => some ((u.1, w.1), u.2 ++ w.2)
    | _ => none
  | t, a => (fromA t a).bind fun x => some (x, [])

def argsD (H : Heap) : (ts : List Ty) → List AVal → Option (dens ts × List Nat)
  | [], [] => some ((), [])
  | t :: ts, a :: as => (argD H t a).bind fun u => (argsD H ts as).bind fun w => some ((u.1, w.1), u.2 ++ w.2)
  | _, _ => none

def spineD : (ts : List Ty) → dens ts → AVal
  | [], _ => .unit
  | t :: ts, x => .pair (toA t x.1) (spineD ts x.2)

def resA : (ts : List Ty) → dens ts → AVal
  | [t], x => toA t x.1
  | ts, x => .tup (spineD ts x)

def noRoTy : Ty → Bool
  | .sl _ => false
  | .pair a b => noRoTy a && noRoTy b
  | .arr _ t => noRoTy t
  | _ => true

def callPure (tin tout : List Ty) (J : dens tin → Option (dens tout)) : CallSem :=
  ⟨fun as H k => match argsD H tin as with
    | some (x, ids) => cond (ids.isEmpty || tout.all noRoTy) ((J x).bind fun y => k (resA tout y) H (if ids.isEmpty then .pure else .read ids)) none
    | none => none⟩

def resVar (P : Program) (st : St) : ResultVar → Option AVal
  | .tmp t => some (st.sl.getD t .undef)
  | .cell a T =>
    match loadA P st.H T (st.sl.getD a .undef) with
    | some r => some r.v
    | none => none

def retK {ρ : Type} (P : Program) (st : St) : (rs : List ResultVar) → (ts : List Ty) → (dens ts → Option ρ) → Option ρ
  | [], [], K => K ()
  | r :: rs, t :: ts, K =>
    match resVar P st r with
    | some v => (match frzA st.H v with | some q => (match fromA t q.1 with | some x => retK P st rs ts fun y => K (x, y) | none => none) | none => none)
    | none => none
  | _, _, _ => none

def finK {ρ : Type} (P : Program) (rs : List ResultVar) (ts : List Ty) (K : dens ts → Option ρ) (e : Exit) (st : St) : Option ρ :=
  match e with
  | .ret => retK P st rs ts K
  | .normal => retK P st rs ts K
  | _ => none

def argsA : (ts : List Ty) → dens ts → List AVal
  | [], _ => []
  | t :: ts, x => toA t x.1 :: argsA ts x.2

def startSt (n : Nat) (args : List AVal) : St := ⟨args ++ List.replicate (n - args.length) .undef, []⟩

/-- The body of a function over pure data, told by F. -/
def BodyIs (C : Ctx) (fn : Func) (c : Code) (ann : Ann) (tin tout : List Ty) (F : {ρ : Type} → dens tin → (dens tout → Option ρ) → Option ρ) : Prop :=
  ∀ {ρ : Type} (x : dens tin) (K : dens tout → Option ρ), evC C c ann (startSt fn.ntmps (argsA tin x)) (finK C.P fn.results.toList tout K) = F x K

def nosem : CallSem := ⟨fun _ _ _ => none⟩
def gam : List (Nat × CallSem) → Nat → CallSem
  | [], _ => nosem
  | (i, s) :: l, f => if f = i then s else gam l f

/-- A round of a loop, told by r. -/
def RoundIs (C : Ctx) (c : Code) (ann : Ann) (T : StT) (gs : List Ghost) (os : List Out) (r : {ρ : Type} → T.den → (T.den → Option ρ) → (outDen os → Option ρ) → Option ρ) : Prop :=
  ∀ {ρ : Type} (x : T.den) (kn : T.den → Option ρ) (ke : outDen os → Option ρ), evC C c ann (T.inst x) (roundK T gs os kn ke) = r x kn ke

def codeAt : Code → List Nat → Code
  | c, [] => c
  | .seq a b, i :: p => cond (i == 0) (codeAt a p) (codeAt b p)
  | .cond _ a b, i :: p => cond (i == 0) (codeAt a p) (codeAt b p)
  | .block _ a, _ :: p => codeAt a p
  | .loop a, _ :: p => codeAt a p
  | c, _ => c

def Func.code (fn : Func) : Code := fn.body.getD .skip

end Go.Am
