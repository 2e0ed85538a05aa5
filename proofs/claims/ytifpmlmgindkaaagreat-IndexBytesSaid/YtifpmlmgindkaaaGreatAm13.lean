/- A part of a proof: a machine of abstract values that tells what functions of the program compute, and the plain facts on them. -/
import Derived.Test.YtifpmlmgindkaaaGreatAm12
import Derived.KernelRfl
import Derived.Test.YtifpmlmgindkaaaGreatAm7
import Derived.Test.YtifpmlmgindkaaaGreatAm6
import Derived.Test.YtifpmlmgindkaaaGreatAm9
set_option linter.unusedVariables false
set_option linter.unusedSimpArgs false
set_option linter.unnecessarySimpa false
set_option linter.unusedSectionVars false
namespace Go.Am
abbrev Qeh : Type := ((Int × ((List Int) × ((List Int) × (Int × (Int × (Int × Unit)))))) × (Int × (Int × (Int × (Int × (Int × Unit))))))
abbrev Qeg : Ty := (.pair (.pair (.int .u32) (.pair (.arr 32 (.int .u8)) (.pair (.arr 32 (.int .u8)) (.pair (.int .u32) (.pair (.int .u32) (.pair (.int .u32) .unit)))))) (.pair (.int .i64) (.pair (.int .i64) (.pair (.int .i64) (.pair (.int .i64) (.pair (.int .i64) .unit))))))
end Go.Am
namespace Go.Am
open Go
theorem Qcb {α : Type} {f : Nat → α} {y : List α} {i : Nat} (hi : i < y.length) : ((List.range i).map f ++ y.drop i).set i (f i) = (List.range (i + 1)).map f ++ y.drop (i + 1) := by
 rw [List.set_append_right _ _ (by simp)]
 simp only [List.length_map, List.length_range, Nat.sub_self]
 rw [List.drop_eq_getElem_cons hi, List.set_cons_zero, List.range_succ, List.map_append]
 simp
abbrev THd : Type := Int × List Int × List Int × Int × Int × Int × Unit
def isH (l : List Int) : Prop := l.length = 32 ∧ Q1q l
structure HdOK (h : THd) : Prop where
 v : u32R h.1
 prev : isH h.2.1
 root : isH h.2.2.1
 tm : u32R h.2.2.2.1
 bits : u32R h.2.2.2.2.1
 nonce : u32R h.2.2.2.2.2.1
def Q1p (h : THd) : List Int := lowI h.1 4 ++ h.2.1 ++ h.2.2.1 ++ lowI h.2.2.2.1 4 ++ lowI h.2.2.2.2.1 4 ++ lowI h.2.2.2.2.2.1 4
theorem Q1N {h : THd} (hh : HdOK h) : (Q1p h).length = 80 := by
 unfold Q1p
 have := hh.prev.1
 have := hh.root.1
 simp only [List.length_append, Q0o]
 omega
theorem Q5w {h : THd} (hh : HdOK h) : Q1q (Q1p h) := by
 unfold Q1p
 intro x hx
 have lo : ∀ n b, x ∈ lowI n b → 0 ≤ x ∧ x < 256 := fun n b hx => by have := Q6H n b x hx; omega
 simp only [List.mem_append] at hx
 rcases hx with ((((hx | hx) | hx) | hx) | hx) | hx
 ·exact lo _ _ hx
 ·exact hh.prev.2 x hx
 ·exact hh.root.2 x hx
 ·exact lo _ _ hx
 ·exact lo _ _ hx
 ·exact lo _ _ hx
theorem Q7U {k : Nat} (hk : 9 ≤ k) {h : THd} (hh : HdOK h) : Q0t k h = some (bytesOf (Q1p h), ()) := by
 obtain ⟨v, prev, root, tm, bits, nonce, u⟩ := h
 have hl := Q1N hh
 obtain ⟨h1, h2, h3, h4, h5, h6⟩ := hh
 dsimp only at h1 h2 h3 h4 h5 h6
 have l2 := h2.1
 have l3 := h3.1
 unfold Q0t Q0t.c
 rw [show QA k = some ((((), ((), ())), ()), [], ()) from rfl]
 simp only [Option.bind_some]
 rw [wu32 hk h1 (by simp), List.nil_append]
 simp only [Option.bind_some]
 rw [QcC k h2 (by rw [Q0o]; omega), List.take_of_length_le (by omega)]
 simp only [Option.bind_some]
 rw [QcC k h3 (by simp only [List.length_append, Q0o]; omega), List.take_of_length_le (by omega)]
 simp only [Option.bind_some]
 rw [wu32 hk h4 (by simp only [List.length_append, Q0o]; omega)]
 simp only [Option.bind_some]
 rw [wu32 hk h5 (by simp only [List.length_append, Q0o]; omega)]
 simp only [Option.bind_some]
 rw [wu32 hk h6 (by simp only [List.length_append, Q0o]; omega)]
 simp only [Option.bind_some]
 unfold Qp Qp.c
 rw [Q1g (Q2b (by simp only [List.length_append, Q0o]; omega))]
 rfl
theorem Q7P {k : Nat} (hk : 9 ≤ k) {h : THd} (hh : HdOK h) : QN k h = some (bytesOf (Q1p h), ()) := by
 obtain ⟨v, prev, root, tm, bits, nonce, u⟩ := h
 obtain ⟨h1, h2, h3, h4, h5, h6⟩ := hh
 dsimp only at h1 h2 h3 h4 h5 h6
 have l2 := h2.1
 have l3 := h3.1
 have r1 := h1.1
 have s1 := h1.2
 have r4 := h4.1
 have s4 := h4.2
 have r5 := h5.1
 have s5 := h5.2
 have r6 := h6.1
 have s6 := h6.2
 have low : ∀ n, 0 ≤ n ∧ n ≤ 4294967295 → Q7 k (IntKind.u64.wrap n) 4 = some (bytesOf (lowI n 4), ()) := fun n hn => by
  rw [u64_in (n := n) (by omega), show (4 : Int) = ((4 : Nat) : Int) from rfl, Q2H hk n (by omega) 4 (by omega)]
 unfold QN QN.c
 dsimp only
 rw [low v (by omega), low tm (by omega), low bits (by omega), low nonce (by omega)]
 simp only [Option.bind_some, List.drop_zero]
 rw [List.take_of_length_le (by omega), List.take_of_length_le (by omega)]
 rw [Q1g (Q2b (by simp only [Q0S, Q0o]; omega)), Q17]
 rw [Q1g (Q2b (by simp only [Q0S, List.length_append, Q0o]; omega)), Q17]
 rw [Q1g (Q2b (by simp only [Q0S, List.length_append, Q0o]; omega)), Q17]
 rw [Q1g (Q2b (by simp only [Q0S, List.length_append, Q0o]; omega)), Q17]
 rw [Q1g (Q2b (by simp only [Q0S, List.length_append, Q0o]; omega)), Q17]
 rfl
theorem Q1s {x : ByteArray} {p n : Int} (hp : 0 ≤ p) (hn : 0 ≤ n) (h : p + n ≤ (x.size : Int)) : Q15 (x, p, 0, ()) n = ((x, p + n, 0, ()), x.extract p.toNat (p + n).toNat) := by
 unfold Q15
 rw [if_neg (by simp), if_neg (by omega), if_neg (by show ¬ n > (x.size : Int) - p; omega)]
theorem Q96 {x : ByteArray} {p n : Int} (hn : 0 ≤ n) (h : (x.size : Int) < p + n) : Q15 (x, p, 0, ()) n = ((x, p, 4, ()), ⟨List.toArray []⟩) := by
 unfold Q15
 rw [if_neg (by simp), if_neg (by omega), if_pos (by show n > (x.size : Int) - p; omega)]
theorem Qbe {x : ByteArray} {p e n : Int} (he : e ≠ 0) : Q15 (x, p, e, ()) n = ((x, p, e, ()), ⟨List.toArray []⟩) := by
 unfold Q15
 rw [if_pos he]
def QaD (x : ByteArray) (p : Int) (r : Rd) : Prop := r.1 = x ∧ ((p ≤ (x.size : Int) ∧ r = (x, p, 0, ())) ∨ ((x.size : Int) < p ∧ r.2.2.1 = 4))
theorem QaD.next {x : ByteArray} {p n : Int} {r : Rd} (h : QaD x p r) (hp : 0 ≤ p) (hn : 0 ≤ n) : QaD x (p + n) (Q15 r n).1 := by
 obtain ⟨h1, h2⟩ := h
 obtain ⟨y, q, e, u⟩ := r
 rcases h2 with ⟨h3, h4⟩ | ⟨h3, h4⟩
 ·rw [h4]
  by_cases c : p + n ≤ (x.size : Int)
  ·rw [Q1s hp hn c]
   exact ⟨rfl, .inl ⟨c, rfl⟩⟩
  ·rw [Q96 hn (by omega)]
   exact ⟨rfl, .inr ⟨by omega, rfl⟩⟩
 ·dsimp only at h1 h4
  rw [h4, Qbe (by omega)]
  exact ⟨h1, .inr ⟨by omega, rfl⟩⟩
def QbT (r : Rd) : List Int := Q1O (List.replicate 32 (0 : Int)) 0 (Qv (Q15 r 32).2) (min (Qv (Q15 r 32).2).length 32)
theorem Q8Z (k : Nat) {r : Rd} (h : RdOK r) : QP k r = some (QbT r, (Q15 r 32).1, ()) := by
 unfold QP QP.c
 show (Qu k 32 r).bind _ = _
 rw [bytes_eq k h]
 rfl
abbrev Q3y : List Int := List.replicate 32 (0 : Int)
abbrev zHd : THd := (0, Q3y, Q3y, 0, 0, 0, ())
def decH (L : List Int) : THd := (leI (L.take 4), (L.drop 4).take 32, (L.drop 36).take 32, leI ((L.drop 68).take 4), leI ((L.drop 72).take 4), leI ((L.drop 76).take 4), ())
def thS (s : ByteArray) (a : Int) : THd × Int :=
 if a < 0 ∨ a > (s.size : Int) then (zHd, 1) else if (s.size : Int) - a < 80 then (zHd, 4) else (decH ((Qv s).drop a.toNat), 0)
theorem QbU {l : List Int} (h : l.length = 32) : Q1O (List.replicate 32 (0 : Int)) 0 l (min l.length 32) = l := by
 unfold Q1O
 rw [h]
 simp only [List.take_zero, List.nil_append, Nat.min_self, Nat.zero_add]
 rw [List.take_of_length_le (by omega), List.drop_of_length_le (by simp), List.append_nil]
theorem Q7n {s : ByteArray} {a : Nat} (b c : Nat) (h : c ≤ s.size - a) : Qv ((s.extract a s.size).extract b c) = (((Qv s).drop a).drop b).take (c - b) := by
 rw [Q2E, Q2E]
 rw [List.take_of_length_le (l := (Qv s).drop a) (by rw [List.length_drop, Q0Z]; omega)]
theorem Q5H {k : Nat} (hk : 9 ≤ k) {s : ByteArray} (hs : s.size ≤ 140737488351232) (a : Int) : Ql k s a = some ((thS s a).1, (thS s a).2, ()) := by
 unfold Ql Ql.c
 have hp : Ql.p0 k (s, a, zHd, ()) = some (if a < 0 ∨ a > (s.size : Int) then .inl (1, zHd, ()) else .inr (s, a, zHd, ())) := by
  unfold Ql.p0
  simp only [Ql.p0.r]
  by_cases c1 : a < 0
  ·rw [Q0L c1, if_pos (.inl c1)]
  ·rw [Q1r c1]
   by_cases c2 : a > (s.size : Int)
   ·rw [Q0L c2, if_pos (.inr c2)]
   ·rw [Q1r c2, if_neg (by omega)]
 rw [hp]
 simp only [Option.bind_some]
 unfold thS
 by_cases c : a < 0 ∨ a > (s.size : Int)
 ·rw [if_pos c, if_pos c]
 ·rw [if_neg c, if_neg c]
  dsimp only
  rw [Q0L (by omega), Int.toNat_natCast]
  generalize hx : s.extract a.toNat s.size = x
  have hxs : x.size = s.size - a.toNat := by rw [← hx, ByteArray.size_extract]; omega
  rw [show Q0b k x = some ((x, 0, 0, ()), ()) from rfl]
  simp only [Option.bind_some]
  have ok0 : RdOK (x, 0, 0, ()) := ⟨by show x.size ≤ _; omega, by simp, by simp⟩
  have st0 : QaD x 0 (x, 0, 0, ()) := ⟨rfl, .inl ⟨by omega, rfl⟩⟩
  generalize hr0 : ((x, 0, 0, ()) : Rd) = r0 at ok0 st0
  have step : ∀ {r : Rd} (n : Int), RdOK r → RdOK (Q15 r n).1 := fun n h => (QbE h n).1
  have ok1 := step 4 ok0
  have st1 := st0.next (n := 4) (by omega) (by omega)
  have ok2 := step 32 ok1
  have st2 := st1.next (n := 32) (by omega) (by omega)
  have ok3 := step 32 ok2
  have st3 := st2.next (n := 32) (by omega) (by omega)
  have ok4 := step 4 ok3
  have st4 := st3.next (n := 4) (by omega) (by omega)
  have ok5 := step 4 ok4
  have st5 := st4.next (n := 4) (by omega) (by omega)
  have st6 := st5.next (n := 4) (by omega) (by omega)
  show (Qq k r0).bind _ = _
  rw [Q46 hk ok0]
  simp only [Option.bind_some]
  show (QP k (Q15 r0 4).1).bind _ = _
  rw [Q8Z k ok1]
  simp only [Option.bind_some]
  show (QP k (Q15 (Q15 r0 4).1 32).1).bind _ = _
  rw [Q8Z k ok2]
  simp only [Option.bind_some]
  show (Qq k (Q15 (Q15 (Q15 r0 4).1 32).1 32).1).bind _ = _
  rw [Q46 hk ok3]
  simp only [Option.bind_some]
  show (Qq k (Q15 (Q15 (Q15 (Q15 r0 4).1 32).1 32).1 4).1).bind _ = _
  rw [Q46 hk ok4]
  simp only [Option.bind_some]
  show (Qq k (Q15 (Q15 (Q15 (Q15 (Q15 r0 4).1 32).1 32).1 4).1 4).1).bind _ = _
  rw [Q46 hk ok5]
  simp only [Option.bind_some]
  generalize hr6 : (Q15 (Q15 (Q15 (Q15 (Q15 (Q15 r0 4).1 32).1 32).1 4).1 4).1 4).1 = r6 at st6
  show (bif (r6.2.2.1 != 0) then (some (zHd, r6.2.2.1, ()) : Option (THd × Int × Unit)) else _) = _
  by_cases c8 : (s.size : Int) - a < 80
  ·rw [if_pos c8]
   rcases st6.2 with ⟨g, _⟩ | ⟨_, g⟩
   ·omega
   ·rw [g]; rfl
  ·rw [if_neg c8]
   rcases st6.2 with ⟨_, g⟩ | ⟨g, _⟩
   ·rw [show r6.2.2.1 = 0 by rw [g]]
    show some ((_, 0, ()) : THd × Int × Unit) = _
    have e1 := Q1s (x := x) (p := 0) (n := 4) (by omega) (by omega) (by omega)
    have e2 := Q1s (x := x) (p := 0 + 4) (n := 32) (by omega) (by omega) (by omega)
    have e3 := Q1s (x := x) (p := 0 + 4 + 32) (n := 32) (by omega) (by omega) (by omega)
    have e4 := Q1s (x := x) (p := 0 + 4 + 32 + 32) (n := 4) (by omega) (by omega) (by omega)
    have e5 := Q1s (x := x) (p := 0 + 4 + 32 + 32 + 4) (n := 4) (by omega) (by omega) (by omega)
    have e6 := Q1s (x := x) (p := 0 + 4 + 32 + 32 + 4 + 4) (n := 4) (by omega) (by omega) (by omega)
    unfold numS QbT
    rw [← hr0, e1, e2, e3, e4, e5, e6]
    dsimp only
    rw [← hx]
    have q : ∀ b c : Nat, c ≤ 80 → Qv ((s.extract a.toNat s.size).extract b c) = (((Qv s).drop a.toNat).drop b).take (c - b) := fun b c h => Q7n b c (by omega)
    have hL : ((Qv s).drop a.toNat).length = s.size - a.toNat := by rw [List.length_drop, Q0Z]
    show some ((leI (Qv ((s.extract a.toNat s.size).extract 0 4)), Q1O Q3y 0 (Qv ((s.extract a.toNat s.size).extract 4 36)) (min (Qv ((s.extract a.toNat s.size).extract 4 36)).length 32), Q1O Q3y 0 (Qv ((s.extract a.toNat s.size).extract 36 68)) (min (Qv ((s.extract a.toNat s.size).extract 36 68)).length 32),
     leI (Qv ((s.extract a.toNat s.size).extract 68 72)), leI (Qv ((s.extract a.toNat s.size).extract 72 76)), leI (Qv ((s.extract a.toNat s.size).extract 76 80)), ()), (0 : Int), ()) = _
    rw [q 0 4 (by omega), q 4 36 (by omega), q 36 68 (by omega), q 68 72 (by omega), q 72 76 (by omega), q 76 80 (by omega)]
    rw [QbU (by rw [List.length_take, List.length_drop, hL]; omega), QbU (by rw [List.length_take, List.length_drop, hL]; omega)]
    rfl
   ·omega
theorem QaN {k : Nat} (hk : 33 ≤ k) {s : ByteArray} (hs : s.size = 32) : Qb k s = some (Qv s, ()) := by
 unfold Qb Qb.c
 dsimp only
 have l0 : Qb.l0 k k (s, (0 : Int), Q3y, Q3y, ()) = some (Q3y, Qv s, ()) := by
  have := Qal (r := Qb.l0.r k) (fun i => (s, (i : Int), Q3y, (List.range i).map (fun j => Q13 s j) ++ Q3y.drop i, ())) 32 (Q3y, Qv s, ()) ?_ ?_ (fuel := k) (by omega)
  ·exact this
  ·intro i hi kn ke
   simp only [Qb.l0.r]
   rw [Q0L (by omega), Q0L (by omega), Q0L (by omega), i64_in (by omega), Int.toNat_natCast, Qcb (f := fun j => Q13 s j) (y := Q3y) (i := i) (by rw [List.length_replicate]; exact hi)]
   rfl
  ·intro kn ke
   simp only [Qb.l0.r]
   rw [Q1r (by omega), List.drop_of_length_le (by rw [List.length_replicate]; omega), List.append_nil]
   have e : (List.range 32).map (fun j => Q13 s j) = Qv s := by
    apply List.ext_getElem?
    intro j
    have hl : (Qv s).length = 32 := by rw [Q0Z, hs]
    rcases Nat.lt_or_ge j 32 with g | g
    ·rw [List.getElem?_map, List.getElem?_range g, List.getElem?_eq_getElem (by omega)]
     show some (Q13 s j) = _
     rw [Q4I, List.getD_eq_getElem?_getD, List.getElem?_eq_getElem (by omega)]
     rfl
    ·rw [List.getElem?_eq_none (by simpa using g), List.getElem?_eq_none (by omega)]
   rw [e]
 show (Qb.l0 k k (s, (0 : Int), Q3y, Q3y, ())).bind _ = _
 rw [l0]
 rfl
theorem Q5d {k : Nat} (hk : 33 ≤ k) {s : ByteArray} (hs : s.size ≤ 140737488351232) (a : Int) : Q5 k s a = some ((thS s a).1, (thS s a).2, ()) := by
 unfold Q5 Q5.c
 have hp : Q5.p0 k (s, a, zHd, ()) = some (if a < 0 ∨ a > (s.size : Int) then .inl (1, zHd, ()) else .inr (s, a, zHd, ())) := by
  unfold Q5.p0
  simp only [Q5.p0.r]
  by_cases c1 : a < 0
  ·rw [Q0L c1, if_pos (.inl c1)]
  ·rw [Q1r c1]
   by_cases c2 : a > (s.size : Int)
   ·rw [Q0L c2, if_pos (.inr c2)]
   ·rw [Q1r c2, if_neg (by omega)]
 rw [hp]
 simp only [Option.bind_some]
 unfold thS
 by_cases c : a < 0 ∨ a > (s.size : Int)
 ·rw [if_pos c, if_pos c]
 ·rw [if_neg c, if_neg c]
  dsimp only
  rw [i64_in (n := (s.size : Int) - a) (by omega)]
  by_cases c8 : (s.size : Int) - a < 80
  ·rw [Q0L c8, if_pos c8]
  ·rw [Q1r c8, if_neg c8, Q0L (by omega), Int.toNat_natCast]
   have hxs : (s.extract a.toNat s.size).size = s.size - a.toNat := by rw [ByteArray.size_extract]; omega
   have q : ∀ b c : Nat, c ≤ 80 → Qv ((s.extract a.toNat s.size).extract b c) = (((Qv s).drop a.toNat).drop b).take (c - b) := fun b c h => Q7n b c (by omega)
   have qs : ∀ b c : Nat, c ≤ 80 → ((s.extract a.toNat s.size).extract b c).size = c - b := fun b c h => by rw [ByteArray.size_extract, hxs]; omega
   have r4 : ∀ b c : Nat, c ≤ 80 → c = b + 4 → 0 ≤ leI (Qv ((s.extract a.toNat s.size).extract b c)) ∧ leI (Qv ((s.extract a.toNat s.size).extract b c)) < 4294967296 := fun b c h he =>
    Q9Q (m := 4) (Q44 _) (by rw [Q0Z, qs b c h]; omega)
   rw [Q0L (by omega), Q1w (by omega) _ (by rw [qs 0 4 (by omega)]; omega)]
   simp only [Option.bind_some]
   rw [Q2D (by have := r4 0 4 (by omega) (by omega); omega), Q0L (by omega), QaN hk (by rw [qs 4 36 (by omega)])]
   simp only [Option.bind_some]
   rw [Q0L (by omega), QaN hk (by rw [qs 36 68 (by omega)])]
   simp only [Option.bind_some]
   rw [Q0L (by omega), Q1w (by omega) _ (by rw [qs 68 72 (by omega)]; omega)]
   simp only [Option.bind_some]
   rw [Q2D (by have := r4 68 72 (by omega) (by omega); omega), Q0L (by omega), Q1w (by omega) _ (by rw [qs 72 76 (by omega)]; omega)]
   simp only [Option.bind_some]
   rw [Q2D (by have := r4 72 76 (by omega) (by omega); omega), Q0L (by omega), Q1w (by omega) _ (by rw [qs 76 80 (by omega)]; omega)]
   simp only [Option.bind_some]
   rw [Q2D (by have := r4 76 80 (by omega) (by omega); omega)]
   rw [q 0 4 (by omega), q 4 36 (by omega), q 36 68 (by omega), q 68 72 (by omega), q 72 76 (by omega), q 76 80 (by omega)]
   rfl
theorem Qbu {h : THd} (hh : HdOK h) : thS (bytesOf ([120] ++ Q1p h)) 1 = (h, 0) := by
 have hl := Q1N hh
 unfold thS
 have hsz : (bytesOf ([120] ++ Q1p h)).size = 81 := by rw [Q0S, List.length_append, hl]; rfl
 rw [if_neg (by rw [hsz]; omega), if_neg (by rw [hsz]; omega)]
 have hb : Q1q ([120] ++ Q1p h) := fun x hx => (List.mem_append.1 hx).elim (fun g => by rw [List.mem_singleton] at g; omega) (Q5w hh x)
 rw [Q1u hb, show List.drop (Int.toNat 1) ([(120 : Int)] ++ Q1p h) = Q1p h from rfl]
 obtain ⟨v, prev, root, tm, bits, nonce, u⟩ := h
 obtain ⟨h1, h2, h3, h4, h5, h6⟩ := hh
 dsimp only at h1 h2 h3 h4 h5 h6
 have l2 := h2.1
 have l3 := h3.1
 have lv : ∀ n, u32R n → leI (lowI n 4) = n := fun n hn => by
  have := hn.1
  have := hn.2
  rw [Q9I]; omega
 have e : ∀ (A B C : List Int) (n m : Nat), A.length = n → B.length = m → ((A ++ (B ++ C)).drop n).take m = B := fun A B C n m ha hb => by
  rw [List.drop_append_of_le_length (by omega), List.drop_of_length_le (by omega), List.nil_append, List.take_append_of_le_length (by omega), List.take_of_length_le (by omega)]
 have d1 : (Q1p (v, prev, root, tm, bits, nonce, u)).take 4 = lowI v 4 := by
  unfold Q1p
  have := e [] (lowI v 4) (prev ++ root ++ lowI tm 4 ++ lowI bits 4 ++ lowI nonce 4) 0 4 rfl (Q0o _ _)
  rw [List.drop_zero, List.nil_append] at this
  simpa only [List.append_assoc] using this
 have d2 : ((Q1p (v, prev, root, tm, bits, nonce, u)).drop 4).take 32 = prev := by
  unfold Q1p
  have := e (lowI v 4) prev (root ++ lowI tm 4 ++ lowI bits 4 ++ lowI nonce 4) 4 32 (Q0o _ _) l2
  simpa only [List.append_assoc] using this
 have d3 : ((Q1p (v, prev, root, tm, bits, nonce, u)).drop 36).take 32 = root := by
  unfold Q1p
  have := e (lowI v 4 ++ prev) root (lowI tm 4 ++ lowI bits 4 ++ lowI nonce 4) 36 32 (by rw [List.length_append, Q0o]; omega) l3
  simpa only [List.append_assoc] using this
 have d4 : ((Q1p (v, prev, root, tm, bits, nonce, u)).drop 68).take 4 = lowI tm 4 := by
  unfold Q1p
  have := e (lowI v 4 ++ prev ++ root) (lowI tm 4) (lowI bits 4 ++ lowI nonce 4) 68 4 (by simp only [List.length_append, Q0o]; omega) (Q0o _ _)
  simpa only [List.append_assoc] using this
 have d5 : ((Q1p (v, prev, root, tm, bits, nonce, u)).drop 72).take 4 = lowI bits 4 := by
  unfold Q1p
  have := e (lowI v 4 ++ prev ++ root ++ lowI tm 4) (lowI bits 4) (lowI nonce 4) 72 4 (by simp only [List.length_append, Q0o]; omega) (Q0o _ _)
  simpa only [List.append_assoc] using this
 have d6 : ((Q1p (v, prev, root, tm, bits, nonce, u)).drop 76).take 4 = lowI nonce 4 := by
  unfold Q1p
  have := e (lowI v 4 ++ prev ++ root ++ lowI tm 4 ++ lowI bits 4) (lowI nonce 4) [] 76 4 (by simp only [List.length_append, Q0o]; omega) (Q0o _ _)
  simpa only [List.append_assoc, List.append_nil] using this
 unfold decH
 rw [d1, d2, d3, d4, d5, d6, lv v h1, lv tm h4, lv bits h5, lv nonce h6]
end Go.Am
namespace Go.Am
open Go
abbrev TNm : Type := Int × Int × Int × Int × Int × Unit
abbrev TEn : Type := THd × TNm
def mayB (t : TNm) : Bool := decide ((0 ≤ t.1 ∧ t.1 ≤ 20000) ∧ (0 ≤ t.2.1 ∧ t.2.1 ≤ 15) ∧ (0 ≤ t.2.2.1 ∧ t.2.2.1 < 2147483648) ∧ (0 ≤ t.2.2.2.1 ∧ t.2.2.2.1 < 2147483648) ∧ (0 ≤ t.2.2.2.2.1 ∧ t.2.2.2.2.1 < 2147483648))
theorem Q67 {t : TNm} (h : mayB t = true) : (0 ≤ t.1 ∧ t.1 ≤ 20000) ∧ (0 ≤ t.2.1 ∧ t.2.1 ≤ 15) ∧ (0 ≤ t.2.2.1 ∧ t.2.2.1 < 2147483648) ∧ (0 ≤ t.2.2.2.1 ∧ t.2.2.2.1 < 2147483648) ∧ (0 ≤ t.2.2.2.2.1 ∧ t.2.2.2.2.1 < 2147483648) := of_decide_eq_true h
theorem QcT (k : Nat) (n : Int) : Q0H k n = some (!decide (0 ≤ n ∧ n < 2147483648), ()) := by
 unfold Q0H Q0H.c
 by_cases h : n < 0
 ·rw [Q0L h, decide_eq_false (by omega)]; rfl
 ·rw [Q1r h]
  by_cases g : n < 2147483648
  ·rw [decide_eq_false (by omega), decide_eq_true (by omega)]; rfl
  ·rw [decide_eq_true (by omega), decide_eq_false (by omega)]; rfl
theorem QcW {k : Nat} (hk : 9 ≤ k) (a b c : Int) : Q0Q k [a, b, c] = some (decide ((0 ≤ a ∧ a < 2147483648) ∧ (0 ≤ b ∧ b < 2147483648) ∧ (0 ≤ c ∧ c < 2147483648)), ()) := by
 obtain ⟨j, rfl⟩ : ∃ j, k = j + 4 := ⟨k - 4, by omega⟩
 unfold Q0Q Q0Q.c Qe Qe.c Q1 Q1.c
 have step : ∀ (i : Nat) (v : Int), i < 3 → [a, b, c].getD i 0 = v → ∀ {ρ : Type} (kn : Q1.l0.σ → Option ρ) (ke : Q1.l0.τ → Option ρ),
   Q1.l0.r (j + 4) ([a, b, c], (), 3, (i : Int), ()) kn ke = bif !decide (0 ≤ v ∧ v < 2147483648) then ke (.inl ((i : Int), ())) else kn ([a, b, c], (), 3, ((i + 1 : Nat) : Int), ()) := by
  intro i v hi hv ρ kn ke
  simp only [Q1.l0.r]
  rw [Q0L (by omega), Q0L (by simp only [List.length_cons, List.length_nil]; omega), Int.toNat_natCast, hv, QcT]
  simp only [Option.bind_some]
  rw [i64_in (by omega)]
  rfl
 have last : ∀ {ρ : Type} (kn : Q1.l0.σ → Option ρ) (ke : Q1.l0.τ → Option ρ), Q1.l0.r (j + 4) ([a, b, c], (), 3, (3 : Int), ()) kn ke = ke (.inr ()) := by
  intro ρ kn ke
  simp only [Q1.l0.r]
  rw [Q1r (by omega)]
 have lp : Q1.l0 (j + 4) (j + 4) ([a, b, c], (), 3, (0 : Int), ()) = some (if ¬ (0 ≤ a ∧ a < 2147483648) then .inl (0, ()) else if ¬ (0 ≤ b ∧ b < 2147483648) then .inl (1, ()) else if ¬ (0 ≤ c ∧ c < 2147483648) then .inl (2, ()) else .inr ()) := by
  show Q1.l0.r (j + 4) ([a, b, c], (), 3, ((0 : Nat) : Int), ()) (Q1.l0.r (j + 4) · (Q1.l0.r (j + 4) · (Q1.l0.r (j + 4) · (Q0T (Q1.l0.r (j + 4)) j) some) some) some) some = _
  rw [step 0 a (by omega) rfl]
  by_cases ha : 0 ≤ a ∧ a < 2147483648
  ·rw [decide_eq_true ha, Bool.not_true, cond_false, if_neg (by simpa using ha)]
   rw [step 1 b (by omega) rfl]
   by_cases hb : 0 ≤ b ∧ b < 2147483648
   ·rw [decide_eq_true hb, Bool.not_true, cond_false, if_neg (by simpa using hb)]
    rw [step 2 c (by omega) rfl]
    by_cases hc : 0 ≤ c ∧ c < 2147483648
    ·rw [decide_eq_true hc, Bool.not_true, cond_false, if_neg (by simpa using hc)]
     exact last _ _
    ·rw [decide_eq_false hc, if_pos hc]; rfl
   ·rw [decide_eq_false hb, if_pos hb]; rfl
  ·rw [decide_eq_false ha, if_pos ha]; rfl
 show (((((Q1.l0 (j + 4) (j + 4) ([a, b, c], (), 3, (0 : Int), ())).bind _).bind _).bind _) : Option (Bool × Unit)) = _
 rw [lp]
 by_cases ha : 0 ≤ a ∧ a < 2147483648
 ·rw [if_neg (by simpa using ha)]
  by_cases hb : 0 ≤ b ∧ b < 2147483648
  ·rw [if_neg (by simpa using hb)]
   by_cases hc : 0 ≤ c ∧ c < 2147483648
   ·rw [if_neg (by simpa using hc), decide_eq_true ⟨ha, hb, hc⟩]; rfl
   ·rw [if_pos hc, decide_eq_false (by omega)]; rfl
  ·rw [if_pos hb, decide_eq_false (by omega)]; rfl
 ·rw [if_pos ha, decide_eq_false (by omega)]; rfl
theorem Q9k {k : Nat} (hk : 9 ≤ k) (e : TEn) : Q0l k e = some (mayB e.2, ()) := by
 obtain ⟨hd, t1, t2, t3, t4, t5, u⟩ := e
 unfold Q0l Q0l.c mayB
 dsimp only
 by_cases h1 : 0 ≤ t1
 ·rw [Q0L (by omega)]
  by_cases h2 : t1 ≤ 20000
  ·rw [Q0L h2]
   by_cases h3 : 0 ≤ t2
   ·rw [Q0L (by omega)]
    by_cases h4 : t2 ≤ 15
    ·rw [Q0L h4, show List.set (List.set (List.set (List.replicate 3 (0 : Int)) 0 t3) 1 t4) 2 t5 = [t3, t4, t5] from rfl, QcW hk]
     simp only [Option.bind_some]
     congr 2
     exact decide_eq_decide.2 (by omega)
    ·rw [Q1r h4, decide_eq_false (by omega)]
   ·rw [Q1r (by omega), decide_eq_false (by omega)]
  ·rw [Q1r h2, decide_eq_false (by omega)]
 ·rw [Q1r (by omega), decide_eq_false (by omega)]
theorem Q70 (k : Nat) (n : Int) : QD k n = some (decide (0 ≤ n ∧ n < 2147483648), ()) := by
 unfold QD QD.c
 by_cases h : 0 ≤ n
 ·rw [Q0L (by omega)]; congr 2; exact decide_eq_decide.2 (by omega)
 ·rw [Q1r (by omega), decide_eq_false (by omega)]
theorem QbS (k : Nat) (e : TEn) : QJ k e = some (mayB e.2, ()) := by
 obtain ⟨hd, t1, t2, t3, t4, t5, u⟩ := e
 unfold QJ QJ.c mayB
 dsimp only
 by_cases h1 : 0 ≤ t1
 ·rw [Q0L (by omega)]
  by_cases h2 : t1 ≤ 20000
  ·rw [Q0L h2]
   by_cases h3 : 0 ≤ t2
   ·rw [Q0L (by omega)]
    by_cases h4 : t2 ≤ 15
    ·rw [Q0L h4, Q70]
     simp only [Option.bind_some]
     by_cases h5 : 0 ≤ t3 ∧ t3 < 2147483648
     ·rw [Q0L h5, Q70]
      simp only [Option.bind_some]
      by_cases h6 : 0 ≤ t4 ∧ t4 < 2147483648
      ·rw [Q0L h6, Q70]
       simp only [Option.bind_some]
       congr 2
       exact decide_eq_decide.2 (by omega)
      ·rw [Q1r h6, decide_eq_false (by omega)]
     ·rw [Q1r h5, decide_eq_false (by omega)]
    ·rw [Q1r h4, decide_eq_false (by omega)]
   ·rw [Q1r (by omega), decide_eq_false (by omega)]
  ·rw [Q1r h2, decide_eq_false (by omega)]
 ·rw [Q1r (by omega), decide_eq_false (by omega)]
def enL (e : TEn) : List Int := Q1p e.1 ++ lowI e.2.1 4 ++ lowI e.2.2.1 1 ++ lowI e.2.2.2.1 4 ++ lowI e.2.2.2.2.1 4 ++ lowI e.2.2.2.2.2.1 4
theorem Q6O {e : TEn} (he : HdOK e.1) : (enL e).length = 97 := by
 unfold enL
 have := Q1N he
 simp only [List.length_append, Q0o]
 omega
theorem QcZ {e : TEn} (he : HdOK e.1) : Q1q (enL e) := by
 unfold enL
 intro x hx
 have lo : ∀ n b, x ∈ lowI n b → 0 ≤ x ∧ x < 256 := fun n b hx => by have := Q6H n b x hx; omega
 simp only [List.mem_append] at hx
 rcases hx with ((((hx | hx) | hx) | hx) | hx) | hx
 ·exact Q5w he x hx
 all_goals exact lo _ _ hx
theorem Qd8 {k : Nat} (hk : 9 ≤ k) {n : Int} (hn : 0 ≤ n ∧ n ≤ 255) {u} {b1 : List Int} (h : b1.length ≤ 140737488350000) : QV k n u b1 = some (u, b1 ++ lowI n 1, ()) := by
 unfold QV QV.c
 rw [u64_in (by omega), show (1 : Int) = ((1 : Nat) : Int) from rfl, Q7H hk _ 1 (by omega)]
 simp only [Option.bind_some]
 rw [wb (by rw [Q0S, Q0o]; omega), Q1u (by intro x hx; have := Q6H n 1 x hx; omega)]
 rfl
theorem Q7D {k : Nat} (hk : 9 ≤ k) {e : TEn} (he : HdOK e.1) : Q0e k e = some (if mayB e.2 = true then (bytesOf (enL e), 0, ()) else (⟨List.toArray []⟩, 130, ())) := by
 unfold Q0e Q0e.c
 show (Q0l k e).bind _ = _
 rw [Q9k hk]
 simp only [Option.bind_some]
 cases hm : mayB e.2 with
 | false => rfl
 | true =>
  rw [if_pos rfl, Bool.not_true, cond_false]
  obtain ⟨g1, g2, g3, g4, g5⟩ := Q67 hm
  obtain ⟨hd, t1, t2, t3, t4, t5, u⟩ := e
  dsimp only at g1 g2 g3 g4 g5 he ⊢
  have hl := Q1N he
  rw [show QA k = some ((((), ((), ())), ()), [], ()) from rfl]
  simp only [Option.bind_some]
  show (Q0t k hd).bind _ = _
  rw [Q7U hk he]
  simp only [Option.bind_some]
  rw [wb (by rw [Q0S, hl]; simp), Q1u (Q5w he), List.nil_append]
  simp only [Option.bind_some]
  rw [Q2D (n := t1) (by omega), wu32 hk ⟨by omega, by omega⟩ (by omega)]
  simp only [Option.bind_some]
  rw [u8_in (n := t2) (by omega), Qd8 hk (by omega) (by simp only [List.length_append, Q0o]; omega)]
  simp only [Option.bind_some]
  rw [Q2D (n := t3) (by omega), wu32 hk ⟨by omega, by omega⟩ (by simp only [List.length_append, Q0o]; omega)]
  simp only [Option.bind_some]
  rw [Q2D (n := t4) (by omega), wu32 hk ⟨by omega, by omega⟩ (by simp only [List.length_append, Q0o]; omega)]
  simp only [Option.bind_some]
  rw [Q2D (n := t5) (by omega), wu32 hk ⟨by omega, by omega⟩ (by simp only [List.length_append, Q0o]; omega)]
  simp only [Option.bind_some]
  unfold Qp Qp.c
  rw [Q1g (Q2b (by simp only [List.length_append, Q0o]; omega))]
  rfl
theorem Q7u {k : Nat} (hk : 9 ≤ k) {e : TEn} (he : HdOK e.1) (hm : mayB e.2 = true) : QF k e = some (bytesOf (enL e), ()) := by
 obtain ⟨g1, g2, g3, g4, g5⟩ := Q67 hm
 obtain ⟨hd, t1, t2, t3, t4, t5, u⟩ := e
 dsimp only at g1 g2 g3 g4 g5 he
 have hl := Q1N he
 have low : ∀ (n : Int) (b : Nat), 0 ≤ n ∧ n ≤ 4294967295 → b ≤ 8 → Q7 k (IntKind.u64.wrap n) (b : Int) = some (bytesOf (lowI n b), ()) := fun n b hn hb => by
  rw [u64_in (n := n) (by omega), Q2H hk n (by omega) b hb]
 have four : ∀ n, 0 ≤ n ∧ n ≤ 4294967295 → QH k n = some (bytesOf (lowI n 4), ()) := fun n hn => by
  unfold QH QH.c
  rw [show (4 : Int) = ((4 : Nat) : Int) from rfl, low n 4 hn (by omega)]
  rfl
 unfold QF QF.c
 show (QN k hd).bind _ = _
 rw [Q7P hk he]
 simp only [Option.bind_some]
 rw [four t1 (by omega)]
 simp only [Option.bind_some]
 rw [Q1g (Q2b (by simp only [Q0S, Q0o]; omega)), Q17, show (1 : Int) = ((1 : Nat) : Int) from rfl, low t2 1 (by omega) (by omega)]
 simp only [Option.bind_some]
 rw [Q1g (Q2b (by simp only [Q0S, List.length_append, Q0o]; omega)), Q17, four t3 (by omega)]
 simp only [Option.bind_some]
 rw [Q1g (Q2b (by simp only [Q0S, List.length_append, Q0o]; omega)), Q17, four t4 (by omega)]
 simp only [Option.bind_some]
 rw [Q1g (Q2b (by simp only [Q0S, List.length_append, Q0o]; omega)), Q17, four t5 (by omega)]
 simp only [Option.bind_some]
 rw [Q1g (Q2b (by simp only [Q0S, List.length_append, Q0o]; omega)), Q17]
 rfl
abbrev zEn : TEn := (zHd, 0, 0, 0, 0, 0, ())
def enD (L : List Int) : TEn := (decH L, leI ((L.drop 80).take 4), leI ((L.drop 84).take 1), leI ((L.drop 85).take 4), leI ((L.drop 89).take 4), leI ((L.drop 93).take 4), ())
def enT (s : ByteArray) : TEn × Int :=
 if s.size < 97 then (zEn, 4) else if s.size > 97 then (zEn, 5) else if mayB (enD (Qv s)).2 = true then (enD (Qv s), 0) else (zEn, 130)
theorem Q1D (s : ByteArray) (a n : Nat) : 0 ≤ leI (((Qv s).drop a).take n) ∧ leI (((Qv s).drop a).take n) < 256 ^ n := by
 refine Q9Q (fun x hx => Q44 s x (List.mem_of_mem_drop (List.mem_of_mem_take hx))) ?_
 rw [List.length_take]; omega
theorem Q4S {k : Nat} (hk : 9 ≤ k) {s : ByteArray} (hs : s.size ≤ 140737488351232) : Q0B k s = some ((enT s).1, (enT s).2, ()) := by
 unfold Q0B Q0B.c enT
 by_cases c1 : s.size < 97
 ·rw [Q0L (by omega), if_pos c1]
 rw [Q1r (by omega), if_neg c1]
 by_cases c2 : s.size > 97
 ·rw [Q0L (by omega), if_pos c2]
 rw [Q1r (by omega), if_neg c2, Q5H hk hs]
 simp only [Option.bind_some]
 have th : thS s 0 = (decH (Qv s), 0) := by
  unfold thS
  rw [if_neg (by omega), if_neg (by omega)]
  rfl
 rw [th, Q0L (by omega), Int.toNat_natCast]
 generalize hx : s.extract 80 s.size = x
 have hxs : x.size = 17 := by rw [← hx, ByteArray.size_extract]; omega
 rw [show Q0b k x = some ((x, 0, 0, ()), ()) from rfl]
 simp only [Option.bind_some]
 have e1 := Q1s (x := x) (p := 0) (n := 4) (by omega) (by omega) (by omega)
 have e2 := Q1s (x := x) (p := 4) (n := 1) (by omega) (by omega) (by omega)
 have e3 := Q1s (x := x) (p := 5) (n := 4) (by omega) (by omega) (by omega)
 have e4 := Q1s (x := x) (p := 9) (n := 4) (by omega) (by omega) (by omega)
 have e5 := Q1s (x := x) (p := 13) (n := 4) (by omega) (by omega) (by omega)
 have ok : ∀ p : Int, 0 ≤ p → p ≤ 17 → RdOK (x, p, 0, ()) := fun p h1 h2 => ⟨by show x.size ≤ _; omega, h1, by show p ≤ (x.size : Int); omega⟩
 have q : ∀ b c : Nat, c ≤ 17 → Qv (x.extract b c) = (((Qv s).drop 80).drop b).take (c - b) := fun b c h => by rw [← hx]; exact Q7n b c (by omega)
 have n1 : numS (x, 0, 0, ()) 4 = leI (((Qv s).drop 80).take 4) := by
  unfold numS; rw [e1]; exact congrArg leI (q 0 4 (by omega))
 have n2 : numS (x, 4, 0, ()) 1 = leI (((Qv s).drop 84).take 1) := by
  unfold numS; rw [e2]; exact congrArg leI ((q 4 5 (by omega)).trans (by rw [List.drop_drop]))
 have n3 : numS (x, 5, 0, ()) 4 = leI (((Qv s).drop 85).take 4) := by
  unfold numS; rw [e3]; exact congrArg leI ((q 5 9 (by omega)).trans (by rw [List.drop_drop]))
 have n4 : numS (x, 9, 0, ()) 4 = leI (((Qv s).drop 89).take 4) := by
  unfold numS; rw [e4]; exact congrArg leI ((q 9 13 (by omega)).trans (by rw [List.drop_drop]))
 have n5 : numS (x, 13, 0, ()) 4 = leI (((Qv s).drop 93).take 4) := by
  unfold numS; rw [e5]; exact congrArg leI ((q 13 17 (by omega)).trans (by rw [List.drop_drop]))
 rw [Q46 hk (ok 0 (by omega) (by omega)), e1, n1]
 simp only [Option.bind_some]
 rw [i64_in (n := leI _) (by have := Q1D s 80 4; omega)]
 show (QB k (x, 4, 0, ())).bind _ = _
 rw [Qcc hk (ok 4 (by omega) (by omega)), e2, n2]
 simp only [Option.bind_some]
 rw [i64_in (n := leI _) (by have := Q1D s 84 1; omega)]
 show (Qq k (x, 5, 0, ())).bind _ = _
 rw [Q46 hk (ok 5 (by omega) (by omega)), e3, n3]
 simp only [Option.bind_some]
 rw [i64_in (n := leI _) (by have := Q1D s 85 4; omega)]
 show (Qq k (x, 9, 0, ())).bind _ = _
 rw [Q46 hk (ok 9 (by omega) (by omega)), e4, n4]
 simp only [Option.bind_some]
 rw [i64_in (n := leI _) (by have := Q1D s 89 4; omega)]
 show (Qq k (x, 13, 0, ())).bind _ = _
 rw [Q46 hk (ok 13 (by omega) (by omega)), e5, n5]
 simp only [Option.bind_some]
 rw [i64_in (n := leI _) (by have := Q1D s 93 4; omega)]
 show (Q0l k (enD (Qv s))).bind _ = _
 rw [Q9k hk]
 simp only [Option.bind_some]
 cases hm : mayB (enD (Qv s)).2 <;> rfl
theorem Q7L {k : Nat} (hk : 33 ≤ k) {s : ByteArray} (hs : s.size ≤ 140737488351232) : QQ k s = some ((enT s).1, (enT s).2, ()) := by
 unfold QQ QQ.c enT
 by_cases c1 : s.size < 97
 ·rw [Q0L (by omega), if_pos c1]
 rw [Q1r (by omega), if_neg c1]
 by_cases c2 : s.size > 97
 ·rw [Q0L (by omega), if_pos c2]
 rw [Q1r (by omega), if_neg c2, Q5d hk hs]
 simp only [Option.bind_some]
 have th : thS s 0 = (decH (Qv s), 0) := by
  unfold thS
  rw [if_neg (by omega), if_neg (by omega)]
  rfl
 have g : ∀ b c : Nat, c ≤ 97 → c - b ≤ 8 → Q8 k (s.extract b c) = some (leI (((Qv s).drop b).take (c - b)), ()) := fun b c h1 h2 => by
  rw [Q1w (by omega) _ (by rw [ByteArray.size_extract]; omega), Q2E]
 rw [th, Q0L (by omega), g 80 84 (by omega) (by omega)]
 simp only [Option.bind_some]
 rw [Q0L (by omega), Q0L (by omega), g 85 89 (by omega) (by omega)]
 simp only [Option.bind_some]
 rw [Q0L (by omega), g 89 93 (by omega) (by omega)]
 simp only [Option.bind_some]
 rw [Q0L (by omega), g 93 97 (by omega) (by omega)]
 simp only [Option.bind_some]
 have hb : Q13 s 84 = leI (((Qv s).drop 84).take 1) := by
  have hl : (Qv s).length = 97 := by rw [Q0Z]; omega
  rw [Q4I, List.getD_eq_getElem?_getD, List.getElem?_eq_getElem (by omega), List.drop_eq_getElem_cons (by omega)]
  show _ = leI [_]
  simp only [Option.getD_some, leI]
  omega
 simp only [show 84 - 80 = 4 from rfl, show 89 - 85 = 4 from rfl, show 93 - 89 = 4 from rfl, show 97 - 93 = 4 from rfl]
 rw [hb, i64_in (n := leI (((Qv s).drop 80).take 4)) (by have := Q1D s 80 4; omega), i64_in (n := leI (((Qv s).drop 84).take 1)) (by have := Q1D s 84 1; omega),
  i64_in (n := leI (((Qv s).drop 85).take 4)) (by have := Q1D s 85 4; omega), i64_in (n := leI (((Qv s).drop 89).take 4)) (by have := Q1D s 89 4; omega),
  i64_in (n := leI (((Qv s).drop 93).take 4)) (by have := Q1D s 93 4; omega)]
 show (QJ k (enD (Qv s))).bind _ = _
 rw [QbS]
 simp only [Option.bind_some]
 cases hm : mayB (enD (Qv s)).2 <;> rfl
theorem Q9Y {h : THd} (hh : HdOK h) (R : List Int) : decH (Q1p h ++ R) = h := by
 have hl := Q1N hh
 have t : decH (Q1p h) = h := by
  have t := Qbu hh
  unfold thS at t
  have hsz : (bytesOf ([120] ++ Q1p h)).size = 81 := by rw [Q0S, List.length_append, hl]; rfl
  rw [if_neg (by rw [hsz]; omega), if_neg (by rw [hsz]; omega)] at t
  have hb : Q1q ([120] ++ Q1p h) := fun x hx => (List.mem_append.1 hx).elim (fun g => by rw [List.mem_singleton] at g; omega) (Q5w hh x)
  rw [Q1u hb, show List.drop (Int.toNat 1) ([(120 : Int)] ++ Q1p h) = Q1p h from rfl] at t
  exact congrArg Prod.fst t
 have e : ∀ a b : Nat, a + b ≤ 80 → ((Q1p h ++ R).drop a).take b = ((Q1p h).drop a).take b := fun a b hab => by
  rw [List.drop_append_of_le_length (by omega), List.take_append_of_le_length (by rw [List.length_drop]; omega)]
 have e0 : (Q1p h ++ R).take 4 = (Q1p h).take 4 := List.take_append_of_le_length (by omega)
 refine Eq.trans ?_ t
 unfold decH
 rw [e0, e 4 32 (by omega), e 36 32 (by omega), e 68 4 (by omega), e 72 4 (by omega), e 76 4 (by omega)]
theorem Qb5 {e : TEn} (he : HdOK e.1) (hm : mayB e.2 = true) : enT (bytesOf (enL e)) = (e, 0) := by
 have hl := Q6O he
 have hd : enD (enL e) = e := by
  obtain ⟨g1, g2, g3, g4, g5⟩ := Q67 hm
  obtain ⟨hd, t1, t2, t3, t4, t5, u⟩ := e
  dsimp only at g1 g2 g3 g4 g5 he
  have h80 := Q1N he
  have dh : decH (enL (hd, t1, t2, t3, t4, t5, u)) = hd := by
   unfold enL
   simp only [List.append_assoc]
   exact Q9Y he _
  have lo : ∀ (n : Int) (b : Nat), 0 ≤ n → n < 256 ^ b → leI (lowI n b) = n := fun n b h1 h2 => by rw [Q9I]; exact Int.emod_eq_of_lt h1 h2
  unfold enD
  rw [dh]
  have d80 : (enL (hd, t1, t2, t3, t4, t5, u)).drop 80 = lowI t1 4 ++ (lowI t2 1 ++ (lowI t3 4 ++ (lowI t4 4 ++ lowI t5 4))) := by
   unfold enL
   simp only [List.append_assoc]
   rw [← h80, List.drop_left]
  have dn : ∀ n, (enL (hd, t1, t2, t3, t4, t5, u)).drop (80 + n) = (lowI t1 4 ++ (lowI t2 1 ++ (lowI t3 4 ++ (lowI t4 4 ++ lowI t5 4)))).drop n := fun n => by rw [← List.drop_drop, d80]
  rw [d80, show 84 = 80 + 4 from rfl, show 85 = 80 + 5 from rfl, show 89 = 80 + 9 from rfl, show 93 = 80 + 13 from rfl, dn, dn, dn, dn]
  have f : ∀ n, lowI n 4 = [n % 256, n / 256 % 256, n / 256 / 256 % 256, n / 256 / 256 / 256 % 256] := fun n => rfl
  have f1 : lowI t2 1 = [t2 % 256] := rfl
  have a1 := lo t1 4 (by omega) (by omega)
  have a2 := lo t2 1 (by omega) (by omega)
  have a3 := lo t3 4 (by omega) (by omega)
  have a4 := lo t4 4 (by omega) (by omega)
  have a5 := lo t5 4 (by omega) (by omega)
  have b1 : (lowI t1 4 ++ (lowI t2 1 ++ (lowI t3 4 ++ (lowI t4 4 ++ lowI t5 4)))).take 4 = lowI t1 4 := by simp only [f, f1]; rfl
  have b2 : ((lowI t1 4 ++ (lowI t2 1 ++ (lowI t3 4 ++ (lowI t4 4 ++ lowI t5 4)))).drop 4).take 1 = lowI t2 1 := by simp only [f, f1]; rfl
  have b3 : ((lowI t1 4 ++ (lowI t2 1 ++ (lowI t3 4 ++ (lowI t4 4 ++ lowI t5 4)))).drop 5).take 4 = lowI t3 4 := by simp only [f, f1]; rfl
  have b4 : ((lowI t1 4 ++ (lowI t2 1 ++ (lowI t3 4 ++ (lowI t4 4 ++ lowI t5 4)))).drop 9).take 4 = lowI t4 4 := by simp only [f, f1]; rfl
  have b5 : ((lowI t1 4 ++ (lowI t2 1 ++ (lowI t3 4 ++ (lowI t4 4 ++ lowI t5 4)))).drop 13).take 4 = lowI t5 4 := by simp only [f, f1]; rfl
  rw [b1, b2, b3, b4, b5, a1, a2, a3, a4, a5]
 unfold enT
 rw [Q0S, hl, if_neg (by omega), if_neg (by omega), Q1u (QcZ he), hd, if_pos hm]
end Go.Am
namespace Go.Am
open Go Go.Proofs
set_option maxRecDepth 100000
def Run.gen0 : dens Q0a.tout := (((1, ([0, 0, 0, 0, 0, 0, 0, 0, 0, 0, 0, 0, 0, 0, 0, 0, 0, 0, 0, 0, 0, 0, 0, 0, 0, 0, 0, 0, 0, 0, 0, 0], ([113, 204, 51, 115, 232, 45, 155, 36, 155, 134, 11, 93, 43, 105, 61, 93, 163, 17, 221, 217, 44, 202, 254, 63, 129, 214, 200, 191, 249, 149, 82, 226], (1600000000, (545259519, (1, ())))))), ([(1, ([(([0, 0, 0, 0, 0, 0, 0, 0, 0, 0, 0, 0, 0, 0, 0, 0, 0, 0, 0, 0, 0, 0, 0, 0, 0, 0, 0, 0, 0, 0, 0, 0], (4294967295, ())), (⟨List.toArray [0, 0, 0, 0, 98, 101, 100, 114, 111, 99, 107]⟩, (4294967295, ())))], ([(5000, (⟨List.toArray []⟩, ()))], (0, ()))))], ())), ())
def Run.hdr0 : (Int × List Int × List Int × Int × Int × Int × Unit) := (1, ([0, 0, 0, 0, 0, 0, 0, 0, 0, 0, 0, 0, 0, 0, 0, 0, 0, 0, 0, 0, 0, 0, 0, 0, 0, 0, 0, 0, 0, 0, 0, 0], ([113, 204, 51, 115, 232, 45, 155, 36, 155, 134, 11, 93, 43, 105, 61, 93, 163, 17, 221, 217, 44, 202, 254, 63, 129, 214, 200, 191, 249, 149, 82, 226], (1600000000, (545259519, (1, ()))))))
def Run.id0 : List Int := [241, 135, 212, 169, 168, 254, 156, 207, 249, 187, 137, 185, 194, 139, 194, 134, 119, 138, 238, 31, 164, 82, 73, 164, 143, 38, 180, 66, 229, 50, 163, 21]
def Run.head0 : ByteArray := ⟨List.toArray [98, 101, 100, 114, 111, 99, 107, 106, 0, 0, 0, 0, 0, 0, 0, 0, 84, 183, 221, 29]⟩
def Run.bytes0 : ByteArray := ⟨List.toArray [1, 0, 0, 0, 0, 0, 0, 0, 0, 0, 0, 0, 0, 0, 0, 0, 0, 0, 0, 0, 0, 0, 0, 0, 0, 0, 0, 0, 0, 0, 0, 0, 0, 0, 0, 0, 113, 204, 51, 115, 232, 45, 155, 36, 155, 134, 11, 93, 43, 105, 61, 93, 163, 17, 221, 217, 44, 202, 254, 63, 129, 214, 200, 191, 249, 149, 82, 226, 0, 16, 94, 95, 255, 255, 127, 32, 1, 0, 0, 0, 0, 0, 0, 0, 3, 0, 0, 0, 0, 0, 0, 0, 0, 0, 0, 0, 0]⟩
def Run.rec0 : ByteArray := ⟨List.toArray [97, 0, 0, 0, 0, 0, 0, 0, 0, 0, 0, 0, 1, 0, 0, 0, 0, 0, 0, 0, 0, 0, 0, 0, 0, 0, 0, 0, 0, 0, 0, 0, 0, 0, 0, 0, 0, 0, 0, 0, 0, 0, 0, 0, 0, 0, 0, 0, 113, 204, 51, 115, 232, 45, 155, 36, 155, 134, 11, 93, 43, 105, 61, 93, 163, 17, 221, 217, 44, 202, 254, 63, 129, 214, 200, 191, 249, 149, 82, 226, 0, 16, 94, 95, 255, 255, 127, 32, 1, 0, 0, 0, 0, 0, 0, 0, 3, 0, 0, 0, 0, 0, 0, 0, 0, 0, 0, 0, 0, 194, 181, 187, 140]⟩
theorem Run.gen_eq : Q0a 140737488355328 = some Run.gen0 := by kernel_rfl
theorem Run.id_eq : Q0J 140737488355328 Run.hdr0 = some (Run.id0, ()) := by kernel_rfl
theorem Run.head_eq : Q0g 140737488355328 0 = some (Run.head0, ()) := by kernel_rfl
theorem Run.bytes_eq : Q0e 140737488355328 (Run.hdr0, 0, 3, 0, 0, 0, ()) = some (Run.bytes0, 0, ()) := by kernel_rfl
theorem Run.rec_eq : Q02 140737488355328 0 0 Run.bytes0 = some (Run.rec0, 0, ()) := by kernel_rfl
def Run.s45 : Qt := QL Q0a.tin Q0a.tout (Q6m Q0a.tin Q0a.tout () Run.gen0 fun x => Q0a 140737488355328 )
theorem Run.m45 : Qo Tryz.prog 45 Run.s45 := Q5s (x0 := ()) (y0 := Run.gen0) (tin := Q0a.tin) (tout := Q0a.tout) (J := fun x => Q0a 140737488355328 ) Run.gen_eq (Q0a.sem_ok 140737488355328)
def Run.s46 : Qt := QL Q0J.tin Q0J.tout (Q6m Q0J.tin Q0J.tout (Run.hdr0, ()) (Run.id0, ()) fun x => Q0J 140737488355328 x.1)
theorem Run.m46 : Qo Tryz.prog 46 Run.s46 := Q5s (x0 := (Run.hdr0, ())) (y0 := (Run.id0, ())) (tin := Q0J.tin) (tout := Q0J.tout) (J := fun x => Q0J 140737488355328 x.1) Run.id_eq (Q0J.sem_ok 140737488355328)
def Run.s95 : Qt := QL Q0g.tin Q0g.tout (Q6m Q0g.tin Q0g.tout (0, ()) (Run.head0, ()) fun x => Q0g 140737488355328 x.1)
theorem Run.m95 : Qo Tryz.prog 95 Run.s95 := Q5s (x0 := (0, ())) (y0 := (Run.head0, ())) (tin := Q0g.tin) (tout := Q0g.tout) (J := fun x => Q0g 140737488355328 x.1) Run.head_eq (Q0g.sem_ok 140737488355328)
def Run.s7 : Qt := QL Q0e.tin Q0e.tout (Q6m Q0e.tin Q0e.tout ((Run.hdr0, 0, 3, 0, 0, 0, ()), ()) (Run.bytes0, 0, ()) fun x => Q0e 140737488355328 x.1)
theorem Run.m7 : Qo Tryz.prog 7 Run.s7 := Q5s (x0 := ((Run.hdr0, 0, 3, 0, 0, 0, ()), ())) (y0 := (Run.bytes0, 0, ())) (tin := Q0e.tin) (tout := Q0e.tout) (J := fun x => Q0e 140737488355328 x.1) Run.bytes_eq (Q0e.sem_ok 140737488355328)
def Run.s63 : Qt := QL Q02.tin Q02.tout (Q6m Q02.tin Q02.tout (0, 0, Run.bytes0, ()) (Run.rec0, 0, ()) fun x => Q02 140737488355328 x.1 x.2.1 x.2.2.1)
theorem Run.m63 : Qo Tryz.prog 63 Run.s63 := Q5s (x0 := (0, 0, Run.bytes0, ())) (y0 := (Run.rec0, 0, ())) (tin := Q02.tin) (tout := Q02.tout) (J := fun x => Q02 140737488355328 x.1 x.2.1 x.2.2.1) Run.rec_eq (Q02.sem_ok 140737488355328)
def QT.run.told (k : Nat) : List (Nat × Qt) := [(45, (Run.s45 )), (46, (Run.s46 )), (95, (Run.s95 )), (7, (Run.s7 )), (63, (Run.s63 )), (8, Q0B.sem k), (32, Q0l.sem k)]
noncomputable def QT.run.fns : List (Nat × Func) := [(14, Tryz.f14), (15, Tryz.f15), (18, Tryz.f18), (19, Tryz.f19), (21, Tryz.f21), (24, Tryz.f24), (25, Tryz.f25), (40, Tryz.f40), (41, Tryz.f41), (51, Tryz.f51), (52, Tryz.f52), (53, Tryz.f53), (54, Tryz.f54), (55, Tryz.f55), (56, Tryz.f56), (57, Tryz.f57), (58, Tryz.f58), (62, Tryz.f62), (64, Tryz.f64), (65, Tryz.f65), (66, Tryz.f66), (67, Tryz.f67), (68, Tryz.f68), (69, Tryz.f69), (70, Tryz.f70), (71, Tryz.f71), (72, Tryz.f72), (73, Tryz.f73), (85, Tryz.f85), (86, Tryz.f86), (87, Tryz.f87), (92, Tryz.f92), (93, Tryz.f93), (94, Tryz.f94), (96, Tryz.f96), (97, Tryz.f97), (98, Tryz.f98), (99, Tryz.f99), (100, Tryz.f100), (101, Tryz.f101), (103, Tryz.f103), (107, Tryz.f107), (113, Tryz.f113), (119, Tryz.f119), (123, Tryz.f123)]
theorem QT.run.told_ok (k : Nat) : ∀ f, Qo Tryz.prog f (gam (QT.run.told k) f) := (Qd (Run.m45) (Qd (Run.m46) (Qd (Run.m95) (Qd (Run.m7) (Qd (Run.m63) (Qd (Q0B.sem_ok k) (Qd (Q0l.sem_ok k) QU)))))))
theorem QT.run.fns_ok : Q6r Tryz.prog QT.run.fns := (.cons Tryz.func14 (by kernel_rfl) (.cons Tryz.func15 (by kernel_rfl) (.cons Tryz.func18 (by kernel_rfl) (.cons Tryz.func19 (by kernel_rfl) (.cons Tryz.func21 (by kernel_rfl) (.cons Tryz.func24 (by kernel_rfl) (.cons Tryz.func25 (by kernel_rfl) (.cons Tryz.func40 (by kernel_rfl) (.cons Tryz.func41 (by kernel_rfl) (.cons Tryz.func51 (by kernel_rfl) (.cons Tryz.func52 (by kernel_rfl) (.cons Tryz.func53 (by kernel_rfl) (.cons Tryz.func54 (by kernel_rfl) (.cons Tryz.func55 (by kernel_rfl) (.cons Tryz.func56 (by kernel_rfl) (.cons Tryz.func57 (by kernel_rfl) (.cons Tryz.func58 (by kernel_rfl) (.cons Tryz.func62 (by kernel_rfl) (.cons Tryz.func64 (by kernel_rfl) (.cons Tryz.func65 (by kernel_rfl) (.cons Tryz.func66 (by kernel_rfl) (.cons Tryz.func67 (by kernel_rfl) (.cons Tryz.func68 (by kernel_rfl) (.cons Tryz.func69 (by kernel_rfl) (.cons Tryz.func70 (by kernel_rfl) (.cons Tryz.func71 (by kernel_rfl) (.cons Tryz.func72 (by kernel_rfl) (.cons Tryz.func73 (by kernel_rfl) (.cons Tryz.func85 (by kernel_rfl) (.cons Tryz.func86 (by kernel_rfl) (.cons Tryz.func87 (by kernel_rfl) (.cons Tryz.func92 (by kernel_rfl) (.cons Tryz.func93 (by kernel_rfl) (.cons Tryz.func94 (by kernel_rfl) (.cons Tryz.func96 (by kernel_rfl) (.cons Tryz.func97 (by kernel_rfl) (.cons Tryz.func98 (by kernel_rfl) (.cons Tryz.func99 (by kernel_rfl) (.cons Tryz.func100 (by kernel_rfl) (.cons Tryz.func101 (by kernel_rfl) (.cons Tryz.func103 (by kernel_rfl) (.cons Tryz.func107 (by kernel_rfl) (.cons Tryz.func113 (by kernel_rfl) (.cons Tryz.func119 (by kernel_rfl) (.cons Tryz.func123 (by kernel_rfl) .nil)))))))))))))))))))))))))))))))))))))))))))))
def QT.run.rds : List Nat := [66]
noncomputable def QT.run.ctx (k : Nat) : Ctx := ⟨Tryz.prog, runG Tryz.prog (QT.run.told k) QT.run.fns QT.run.rds 100 14⟩
def QT (_ : Nat) : Option (Bool × Unit) := some (true, ())
def QT.tin : List Ty := []
def QT.tout : List Ty := [.bool]
def QT.sem (k : Nat) : Qt := QL QT.tin QT.tout fun _ => QT k
theorem QT.run.body {ρ : Type} (K : dens [Ty.bool] → Option ρ) : evC (QT.run.ctx 140737488355328) (Func.code Tryz.f10) (annR (QT.run.ctx 140737488355328) 100 (Func.code Tryz.f10)) (Q3Q Tryz.f10.ntmps []) (finK Tryz.prog Tryz.f10.results.toList [.bool] K) = K (true, ()) := by kernel_rfl
theorem QT.sem_ok (k : Nat) : Qo Tryz.prog 10 (QT.sem k) :=
 QcP (n := 14) (fuel := 100) (rds := QT.run.rds) (QT.run.told_ok 140737488355328) Tryz.mix QT.run.fns_ok Tryz.func10 (by kernel_rfl) (by kernel_rfl) (fun K => QT.run.body K)
end Go.Am
namespace Go.Am
open Go Go.Proofs
set_option maxRecDepth 100000
abbrev Q4.p0.σ : Type := ByteArray × Int × Int × Int × Qeh × Qeh × Qeh × Unit
abbrev Q4.p0.τ : Type := (Bool × Unit) ⊕ (ByteArray × Int × Qeh × Unit)
def Q4.p0.r (k : Nat) {ρ : Type} (x : Q4.p0.σ) (K : Q4.p0.τ → Option ρ) : Option ρ :=
 (QT k ).bind fun t7 => bif (!t7.1) then (K (.inl (false, ()))) else ((QR k ((x.2.2.2.2.2.1.1.1, (x.2.2.2.2.2.1.1.2.1, (x.2.2.2.2.2.1.1.2.2.1, (x.2.2.2.2.2.1.1.2.2.2.1, (x.2.2.2.2.2.1.1.2.2.2.2.1, (x.2.2.2.2.2.1.1.2.2.2.2.2.1, ())))))), (x.2.2.2.2.2.1.2.1, (x.2.2.2.2.2.1.2.2.1, (x.2.2.2.2.2.1.2.2.2.1, (x.2.2.2.2.2.1.2.2.2.2.1, (x.2.2.2.2.2.1.2.2.2.2.2.1, ()))))))).bind fun t8 => bif (!(((t8.1.1.1 == x.2.2.2.2.2.2.1.1.1) && ((decide (t8.1.1.2.1 = x.2.2.2.2.2.2.1.1.2.1)) && ((decide (t8.1.1.2.2.1 = x.2.2.2.2.2.2.1.1.2.2.1)) && ((t8.1.1.2.2.2.1 == x.2.2.2.2.2.2.1.1.2.2.2.1) && ((t8.1.1.2.2.2.2.1 == x.2.2.2.2.2.2.1.1.2.2.2.2.1) && ((t8.1.1.2.2.2.2.2.1 == x.2.2.2.2.2.2.1.1.2.2.2.2.2.1) && true)))))) && ((t8.1.2.1 == x.2.2.2.2.2.2.1.2.1) && ((t8.1.2.2.1 == x.2.2.2.2.2.2.1.2.2.1) && ((t8.1.2.2.2.1 == x.2.2.2.2.2.2.1.2.2.2.1) && ((t8.1.2.2.2.2.1 == x.2.2.2.2.2.2.1.2.2.2.2.1) && ((t8.1.2.2.2.2.2.1 == x.2.2.2.2.2.2.1.2.2.2.2.2.1) && true))))))) then (K (.inl (false, ()))) else (bif (x.2.2.1 != x.2.2.2.1) then (K (.inl (false, ()))) else (K (.inr (x.1, (x.2.1, (((x.2.2.2.2.1.1.1, (x.2.2.2.2.1.1.2.1, (x.2.2.2.2.1.1.2.2.1, (x.2.2.2.2.1.1.2.2.2.1, (x.2.2.2.2.1.1.2.2.2.2.1, (x.2.2.2.2.1.1.2.2.2.2.2.1, ())))))), (x.2.2.2.2.1.2.1, (x.2.2.2.2.1.2.2.1, (x.2.2.2.2.1.2.2.2.1, (x.2.2.2.2.1.2.2.2.2.1, (x.2.2.2.2.1.2.2.2.2.2.1, ())))))), ())))))))
def Q4.p0 (k : Nat) (x : Q4.p0.σ) : Option Q4.p0.τ := Q4.p0.r k x some
def Q4.p0.T : StT := ⟨us 2 ++ .ptr 0 [] :: us 2 ++ .dat .str :: .dat (.int .i64) :: .ptr 1 [] :: .dat (.int .i64) :: .ptr 2 [] :: .dat (.int .i64) :: us 63, [.dat Qeg, .dat Qeg, .dat Qeg]⟩
def Q4.p0.os : List Out := [⟨.ret, [.mask [4], .auto 0], ⟨us 4 ++ .dat .bool :: us 69, []⟩⟩, ⟨.normal, [.mask [2, 5, 6], .auto 0], ⟨us 2 ++ .ptr 0 [] :: us 2 ++ .dat .str :: .dat (.int .i64) :: us 67, [.dat Qeg]⟩⟩]
def Q4.c (k : Nat) {ρ : Type} (e : Qeh) (s : ByteArray) (K : Bool × Unit → Option ρ) : Option ρ :=
  (Q0e k ((e.1.1, (e.1.2.1, (e.1.2.2.1, (e.1.2.2.2.1, (e.1.2.2.2.2.1, (e.1.2.2.2.2.2.1, ())))))), (e.2.1, (e.2.2.1, (e.2.2.2.1, (e.2.2.2.2.1, (e.2.2.2.2.2.1, ()))))))).bind fun t0 => let v1 : ByteArray := t0.1
  let v2 : Int := t0.2.1
  (Q0B k s).bind fun t3 => let v4 : Int := t3.2.1
  (QQ k s).bind fun t5 => let v6 : Int := t5.2.1
  (Q4.p0 k (v1, (v2, (v4, (v6, (((e.1.1, (e.1.2.1, (e.1.2.2.1, (e.1.2.2.2.1, (e.1.2.2.2.2.1, (e.1.2.2.2.2.2.1, ())))))), (e.2.1, (e.2.2.1, (e.2.2.2.1, (e.2.2.2.2.1, (e.2.2.2.2.2.1, ())))))), (((t3.1.1.1, (t3.1.1.2.1, (t3.1.1.2.2.1, (t3.1.1.2.2.2.1, (t3.1.1.2.2.2.2.1, (t3.1.1.2.2.2.2.2.1, ())))))), (t3.1.2.1, (t3.1.2.2.1, (t3.1.2.2.2.1, (t3.1.2.2.2.2.1, (t3.1.2.2.2.2.2.1, ())))))), (((t5.1.1.1, (t5.1.1.2.1, (t5.1.1.2.2.1, (t5.1.1.2.2.2.1, (t5.1.1.2.2.2.2.1, (t5.1.1.2.2.2.2.2.1, ())))))), (t5.1.2.1, (t5.1.2.2.1, (t5.1.2.2.2.1, (t5.1.2.2.2.2.1, (t5.1.2.2.2.2.2.1, ())))))), ())))))))).bind fun t9 => (match t9 with
 | .inl t10 => (K (t10.1, ()))
 | .inr (t11) => ((QR k ((t11.2.2.1.1.1, (t11.2.2.1.1.2.1, (t11.2.2.1.1.2.2.1, (t11.2.2.1.1.2.2.2.1, (t11.2.2.1.1.2.2.2.2.1, (t11.2.2.1.1.2.2.2.2.2.1, ())))))), (t11.2.2.1.2.1, (t11.2.2.1.2.2.1, (t11.2.2.1.2.2.2.1, (t11.2.2.1.2.2.2.2.1, (t11.2.2.1.2.2.2.2.2.1, ()))))))).bind fun t12 => (QJ k ((t12.1.1.1, (t12.1.1.2.1, (t12.1.1.2.2.1, (t12.1.1.2.2.2.1, (t12.1.1.2.2.2.2.1, (t12.1.1.2.2.2.2.2.1, ())))))), (t12.1.2.1, (t12.1.2.2.1, (t12.1.2.2.2.1, (t12.1.2.2.2.2.1, (t12.1.2.2.2.2.2.1, ()))))))).bind fun t13 => bif (!t13.1) then (bif (Q2p t11.1 (⟨(List.toArray [])⟩ : ByteArray)) then (K ((t11.2.1 == (130 : Int)), ())) else (K (false, ()))) else ((Q0B k t11.1).bind fun t14 => let v15 : Int := t14.2.1
  bif (t11.2.1 == (0 : Int)) then ((QR k ((t11.2.2.1.1.1, (t11.2.2.1.1.2.1, (t11.2.2.1.1.2.2.1, (t11.2.2.1.1.2.2.2.1, (t11.2.2.1.1.2.2.2.2.1, (t11.2.2.1.1.2.2.2.2.2.1, ())))))), (t11.2.2.1.2.1, (t11.2.2.1.2.2.1, (t11.2.2.1.2.2.2.1, (t11.2.2.1.2.2.2.2.1, (t11.2.2.1.2.2.2.2.2.1, ()))))))).bind fun t16 => (QF k ((t16.1.1.1, (t16.1.1.2.1, (t16.1.1.2.2.1, (t16.1.1.2.2.2.1, (t16.1.1.2.2.2.2.1, (t16.1.1.2.2.2.2.2.1, ())))))), (t16.1.2.1, (t16.1.2.2.1, (t16.1.2.2.2.1, (t16.1.2.2.2.2.1, (t16.1.2.2.2.2.2.1, ()))))))).bind fun t17 => bif (Q2p t11.1 t17.1) then (bif (v15 == (0 : Int)) then (K ((((t14.1.1.1 == t11.2.2.1.1.1) && ((decide (t14.1.1.2.1 = t11.2.2.1.1.2.1)) && ((decide (t14.1.1.2.2.1 = t11.2.2.1.1.2.2.1)) && ((t14.1.1.2.2.2.1 == t11.2.2.1.1.2.2.2.1) && ((t14.1.1.2.2.2.2.1 == t11.2.2.1.1.2.2.2.2.1) && ((t14.1.1.2.2.2.2.2.1 == t11.2.2.1.1.2.2.2.2.2.1) && true)))))) && ((t14.1.2.1 == t11.2.2.1.2.1) && ((t14.1.2.2.1 == t11.2.2.1.2.2.1) && ((t14.1.2.2.2.1 == t11.2.2.1.2.2.2.1) && ((t14.1.2.2.2.2.1 == t11.2.2.1.2.2.2.2.1) && ((t14.1.2.2.2.2.2.1 == t11.2.2.1.2.2.2.2.2.1) && true)))))), ())) else (K (false, ()))) else (K (false, ()))) else (K (false, ())))))
def Q4 (k : Nat) (e : Qeh) (s : ByteArray) : Option (Bool × Unit) := Q4.c k e s some
def Q4.tin : List Ty := [Qeg, .str]
def Q4.tout : List Ty := [.bool]
def Q4.sem (k : Nat) : Qt := QL Q4.tin Q4.tout fun x => Q4 k x.1 x.2.1
noncomputable def Q4.ctx (k : Nat) : Ctx := ⟨Tryz.prog, gam [(7, (Q0e.sem k)), (8, (Q0B.sem k)), (9, (QQ.sem k)), (10, (QT.sem k)), (11, (QR.sem k)), (12, (QJ.sem k)), (13, (QF.sem k))]⟩
theorem Q4.gok (k : Nat) : ∀ f, Qo Tryz.prog f ((Q4.ctx k).Γ f) := (Qd (Q0e.sem_ok k) (Qd (Q0B.sem_ok k) (Qd (QQ.sem_ok k) (Qd (QT.sem_ok k) (Qd (QR.sem_ok k) (Qd (QJ.sem_ok k) (Qd (QF.sem_ok k) QU)))))))
theorem Q4.p0.is (k : Nat) : Q3U (Q4.ctx k) (Q0n (Func.code Tryz.f3) [1, 1, 1, 1, 0]) (.nil) Q4.p0.T Q4.p0.os (Q4.p0.r k) := by
 intro ρ x K; kernel_rfl
theorem Q4.p0.ok (k : Nat) : StOK 0 Tryz.prog (Q0n (Func.code Tryz.f3) [1, 1, 1, 1, 0]) (QK Q4.p0.T Q4.p0.os (Q4.p0 k)) :=
 Q3w (C := Q4.ctx k) (T := Q4.p0.T) (os := Q4.p0.os) (Q4.gok k) Tryz.mix (fun x K => Q4.p0.r k x K) Q3.nil (by kernel_rfl) (by kernel_rfl) (Q4.p0.is k)
def Q4.ann (k : Nat) : Ann := .node [] none (.nil) (.node [] none (.nil) (.node [] none (.nil) (.node [] none (.nil) (.node [] none (.node [.mask [2, 5, 6, 7, 8, 9, 10], .auto 0] (some (QK Q4.p0.T Q4.p0.os (Q4.p0 k))) .nil .nil) (.nil)))))
theorem Q4.body (k : Nat) : Q0C (Q4.ctx k) Tryz.f3 (Func.code Tryz.f3) (Q4.ann k) Q4.tin Q4.tout (fun x K => Q4.c k x.1 x.2.1 K) := by
 intro ρ x K; kernel_rfl
theorem Q4.sem_ok (k : Nat) : Qo Tryz.prog 3 (Q4.sem k) :=
 Qw (C := Q4.ctx k) (Q4.gok k) Tryz.mix (c := Func.code Tryz.f3) (ann := Q4.ann k) (tin := Q4.tin) (tout := Q4.tout) (fun x K => Q4.c k x.1 x.2.1 K) Tryz.func3 (by kernel_rfl) (by kernel_rfl) (Q3.seq Q3.nil (Q3.seq Q3.nil (Q3.seq Q3.nil (Q3.seq Q3.nil (Q3.seq (Q3.loop (by kernel_rfl) (Q4.p0.ok k)) Q3.nil))))) (Q4.body k)
end Go.Am
namespace Go.Am
open Go
theorem Q9j (k : Nat) (e : TEn) : QR k e = some (e, ()) := rfl
theorem Qdl {α β : Type} (x : α) (y : β) : ((x, y) : α × β) = (x, y) := rfl
theorem Q6E {k : Nat} (hk : 2000 ≤ k) {e : TEn} (he : HdOK e.1) {s : ByteArray} (hs : s.size ≤ 140737488351232) : Q4 k e s = some (true, ()) := by
 unfold Q4 Q4.c
 show (Q0e k e).bind _ = _
 rw [Q7D (by omega) he]
 simp only [Option.bind_some]
 rw [Q4S (by omega) hs]
 simp only [Option.bind_some]
 rw [Q7L (by omega) hs]
 simp only [Option.bind_some]
 generalize (enT s).1 = x
 generalize (enT s).2 = g
 have p0 : ∀ (t : ByteArray) (f : Int), Q4.p0 k (t, f, g, g, e, x, x, ()) = some (.inr (t, f, e, ())) := by
  intro t f
  unfold Q4.p0
  simp only [Q4.p0.r]
  rw [show QT k = some (true, ()) from rfl]
  simp only [Option.bind_some, Bool.not_true, cond_false]
  show ((QR k x).bind _) = _
  rw [Q9j]
  simp only [Option.bind_some, beq_self_eq_true, decide_true, Bool.and_true, Bool.and_self, Bool.not_true, cond_false, bne_self_eq_false]
 show (Q4.p0 k ((if mayB e.2 = true then (bytesOf (enL e), (0 : Int), ()) else (⟨List.toArray []⟩, 130, ())).1, (if mayB e.2 = true then (bytesOf (enL e), (0 : Int), ()) else (⟨List.toArray []⟩, 130, ())).2.1, g, g, e, x, x, ())).bind _ = _
 rw [p0]
 simp only [Option.bind_some]
 show (QR k e).bind _ = _
 rw [Q9j]
 simp only [Option.bind_some]
 show (QJ k e).bind _ = _
 rw [QbS]
 simp only [Option.bind_some]
 cases hm : mayB e.2 with
 | false =>
  rw [if_neg (by simp), Bool.not_false, cond_true]
  dsimp only
  rw [Q6V]
  rfl
 | true =>
  rw [if_pos rfl, Bool.not_true, cond_false]
  dsimp only
  have hl := Q6O he
  rw [Q4S (by omega) (by rw [Q0S, hl]; omega), Qb5 he hm]
  simp only [Option.bind_some, beq_self_eq_true, cond_true]
  show (QF k e).bind _ = _
  rw [Q7u (by omega) he hm]
  simp only [Option.bind_some]
  rw [Q6V]
  simp only [cond_true, beq_self_eq_true, decide_true, Bool.and_true, Bool.and_self]
end Go.Am
namespace Go.Am
open Go
theorem Qaw {N : Nat} {l : List Int} (h : WF N (.arr 32 (.int .u8)) l) : l.length = 32 ∧ Q1q l :=
 ⟨h.1, Qbm (p := fun x => 0 ≤ x ∧ x < 256) fun i hi => by
  have := Qda (h.2 i (by have := h.1; omega))
  have e : l.getD i (Ty.zero (.int .u8)) = l.getD i 0 := rfl
  rw [e] at this
  omega⟩
theorem Q8x {N : Nat} {x : Int} (h : WF N (.int .u32) x) : u32R x := QcJ h
end Go.Am
