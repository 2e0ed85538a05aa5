/- A part of a proof: a machine of abstract values that tells what functions of the program compute, and the plain facts on them. -/
import Derived.Test.YtnibopdcpbebcaaGreatAm15
set_option linter.unusedVariables false
set_option linter.unusedSimpArgs false
set_option linter.unnecessarySimpa false
set_option linter.unusedSectionVars false
namespace Go.Am
open Go
abbrev THd : Type := Int × List Int × List Int × Int × Int × Int × Unit
def isH (l : List Int) : Prop := l.length = 32 ∧ Q1y l
structure HdOK (h : THd) : Prop where
 v : u32R h.1
 prev : isH h.2.1
 root : isH h.2.2.1
 tm : u32R h.2.2.2.1
 bits : u32R h.2.2.2.2.1
 nonce : u32R h.2.2.2.2.2.1
def Q26 (h : THd) : List Int := lowI h.1 4 ++ h.2.1 ++ h.2.2.1 ++ lowI h.2.2.2.1 4 ++ lowI h.2.2.2.2.1 4 ++ lowI h.2.2.2.2.2.1 4
theorem Q2e {h : THd} (hh : HdOK h) : (Q26 h).length = 80 := by
 unfold Q26
 have := hh.prev.1
 have := hh.root.1
 simp only [List.length_append, Q0k]
 omega
theorem Q4q {h : THd} (hh : HdOK h) : Q1y (Q26 h) := by
 unfold Q26
 intro x hx
 have lo : ∀ n b, x ∈ lowI n b → 0 ≤ x ∧ x < 256 := fun n b hx => by have := Q3B n b x hx; omega
 simp only [List.mem_append] at hx
 rcases hx with ((((hx | hx) | hx) | hx) | hx) | hx
 ·exact lo _ _ hx
 ·exact hh.prev.2 x hx
 ·exact hh.root.2 x hx
 ·exact lo _ _ hx
 ·exact lo _ _ hx
 ·exact lo _ _ hx
theorem Q61 {k : Nat} (hk : 9 ≤ k) {h : THd} (hh : HdOK h) : Q1c k h = some (bytesOf (Q26 h), ()) := by
 obtain ⟨v, prev, root, tm, bits, nonce, u⟩ := h
 have hl := Q2e hh
 obtain ⟨h1, h2, h3, h4, h5, h6⟩ := hh
 dsimp only at h1 h2 h3 h4 h5 h6
 have l2 := h2.1
 have l3 := h3.1
 unfold Q1c Q1c.c
 rw [show Q0C k = some ((((), ((), ())), ()), [], ()) from rfl]
 simp only [Option.bind_some]
 rw [wu32 hk h1 (by simp), List.nil_append]
 simp only [Option.bind_some]
 rw [Qep k h2 (by rw [Q0k]; omega), List.take_of_length_le (by omega)]
 simp only [Option.bind_some]
 rw [Qep k h3 (by simp only [List.length_append, Q0k]; omega), List.take_of_length_le (by omega)]
 simp only [Option.bind_some]
 rw [wu32 hk h4 (by simp only [List.length_append, Q0k]; omega)]
 simp only [Option.bind_some]
 rw [wu32 hk h5 (by simp only [List.length_append, Q0k]; omega)]
 simp only [Option.bind_some]
 rw [wu32 hk h6 (by simp only [List.length_append, Q0k]; omega)]
 simp only [Option.bind_some]
 unfold Q06 Q06.c
 rw [QX (Q1I (by simp only [List.length_append, Q0k]; omega))]
 rfl
theorem Q66 {k : Nat} (hk : 9 ≤ k) {h : THd} (hh : HdOK h) : Q08 k h = some (bytesOf (Q26 h), ()) := by
 obtain ⟨v, prev, root, tm, bits, nonce, u⟩ := h
 obtain ⟨h1, h2, h3, h4, h5, h6⟩ := hh
 dsimp only at h1 h2 h3 h4 h5 h6
 have l2 := h2.1
 have l3 := h3.1
 have r1 := h1.1
 have s1 := h1.2
 have r4 := h4.1
 have s4 := h4.2
 have r5 := h5.1
 have s5 := h5.2
 have r6 := h6.1
 have s6 := h6.2
 have low : ∀ n, 0 ≤ n ∧ n ≤ 4294967295 → Qo k (IntKind.u64.wrap n) 4 = some (bytesOf (lowI n 4), ()) := fun n hn => by
  rw [u64_in (n := n) (by omega), show (4 : Int) = ((4 : Nat) : Int) from rfl, Q2r hk n (by omega) 4 (by omega)]
 unfold Q08 Q08.c
 dsimp only
 rw [low v (by omega), low tm (by omega), low bits (by omega), low nonce (by omega)]
 simp only [Option.bind_some, List.drop_zero]
 rw [List.take_of_length_le (by omega), List.take_of_length_le (by omega)]
 rw [QX (Q1I (by simp only [Q0d, Q0k]; omega)), Q11]
 rw [QX (Q1I (by simp only [Q0d, List.length_append, Q0k]; omega)), Q11]
 rw [QX (Q1I (by simp only [Q0d, List.length_append, Q0k]; omega)), Q11]
 rw [QX (Q1I (by simp only [Q0d, List.length_append, Q0k]; omega)), Q11]
 rw [QX (Q1I (by simp only [Q0d, List.length_append, Q0k]; omega)), Q11]
 rfl
def hidS (h : THd) : List Int := sumL (sumL (Q26 h))
theorem QfJ {k : Nat} (hk : 300 ≤ k) {h : THd} (hh : HdOK h) : Q1A k h = some (hidS h, ()) := by
 have hl := Q2e hh
 unfold Q1A Q1A.c hidS
 show (Q1c k h).bind _ = _
 rw [Q61 (by omega) hh]
 simp only [Option.bind_some]
 rw [Q6W (by omega) (by rw [Q0d]; omega) (by rw [Q0d]; omega), Q1F (Q4q hh)]
 rfl
theorem QfR {k : Nat} (hk : 300 ≤ k) {h : THd} (hh : HdOK h) : Q0I k h = some (hidS h, ()) := by
 have hl := Q2e hh
 unfold Q0I Q0I.c hidS
 show (Q08 k h).bind _ = _
 rw [Q66 (by omega) hh]
 simp only [Option.bind_some]
 rw [QaL (by omega) (by rw [Q0d]; omega) (by rw [Q0d]; omega), Q1F (Q4q hh)]
 rfl
end Go.Am
namespace Go.Am
open Go
theorem Q3h {x : ByteArray} {p n : Int} (hp : 0 ≤ p) (hn : 0 ≤ n) (h : p + n ≤ (x.size : Int)) : Q1V (x, p, 0, ()) n = ((x, p + n, 0, ()), x.extract p.toNat (p + n).toNat) := by
 unfold Q1V
 rw [if_neg (by simp), if_neg (by omega), if_neg (by show ¬ n > (x.size : Int) - p; omega)]
theorem Qc8 {x : ByteArray} {p n : Int} (hn : 0 ≤ n) (h : (x.size : Int) < p + n) : Q1V (x, p, 0, ()) n = ((x, p, 4, ()), ⟨List.toArray []⟩) := by
 unfold Q1V
 rw [if_neg (by simp), if_neg (by omega), if_pos (by show n > (x.size : Int) - p; omega)]
theorem QdJ {x : ByteArray} {p e n : Int} (he : e ≠ 0) : Q1V (x, p, e, ()) n = ((x, p, e, ()), ⟨List.toArray []⟩) := by
 unfold Q1V
 rw [if_pos he]
def Qdm (x : ByteArray) (p : Int) (r : Rd) : Prop := r.1 = x ∧ ((p ≤ (x.size : Int) ∧ r = (x, p, 0, ())) ∨ ((x.size : Int) < p ∧ r.2.2.1 = 4))
theorem Qdm.next {x : ByteArray} {p n : Int} {r : Rd} (h : Qdm x p r) (hp : 0 ≤ p) (hn : 0 ≤ n) : Qdm x (p + n) (Q1V r n).1 := by
 obtain ⟨h1, h2⟩ := h
 obtain ⟨y, q, e, u⟩ := r
 rcases h2 with ⟨h3, h4⟩ | ⟨h3, h4⟩
 ·rw [h4]
  by_cases c : p + n ≤ (x.size : Int)
  ·rw [Q3h hp hn c]
   exact ⟨rfl, .inl ⟨c, rfl⟩⟩
  ·rw [Qc8 hn (by omega)]
   exact ⟨rfl, .inr ⟨by omega, rfl⟩⟩
 ·dsimp only at h1 h4
  rw [h4, QdJ (by omega)]
  exact ⟨h1, .inr ⟨by omega, rfl⟩⟩
def Qec (r : Rd) : List Int := Q2C (List.replicate 32 (0 : Int)) 0 (Qq (Q1V r 32).2) (min (Qq (Q1V r 32).2).length 32)
theorem Qbh (k : Nat) {r : Rd} (h : RdOK r) : Q0y k r = some (Qec r, (Q1V r 32).1, ()) := by
 unfold Q0y Q0y.c
 show (Q03 k 32 r).bind _ = _
 rw [Q9z k h]
 rfl
abbrev Q4v : List Int := List.replicate 32 (0 : Int)
abbrev zHd : THd := (0, Q4v, Q4v, 0, 0, 0, ())
def decH (L : List Int) : THd := (leI (L.take 4), (L.drop 4).take 32, (L.drop 36).take 32, leI ((L.drop 68).take 4), leI ((L.drop 72).take 4), leI ((L.drop 76).take 4), ())
def thS (s : ByteArray) (a : Int) : THd × Int :=
 if a < 0 ∨ a > (s.size : Int) then (zHd, 1) else if (s.size : Int) - a < 80 then (zHd, 4) else (decH ((Qq s).drop a.toNat), 0)
theorem Qf1 {l : List Int} (h : l.length = 32) : Q2C (List.replicate 32 (0 : Int)) 0 l (min l.length 32) = l := by
 unfold Q2C
 rw [h]
 simp only [List.take_zero, List.nil_append, Nat.min_self, Nat.zero_add]
 rw [List.take_of_length_le (by omega), List.drop_of_length_le (by simp), List.append_nil]
theorem Qc4 {s : ByteArray} {a : Nat} (b c : Nat) (h : c ≤ s.size - a) : Qq ((s.extract a s.size).extract b c) = (((Qq s).drop a).drop b).take (c - b) := by
 rw [Q24, Q24]
 rw [List.take_of_length_le (l := (Qq s).drop a) (by rw [List.length_drop, Q0b]; omega)]
theorem Q72 {k : Nat} (hk : 9 ≤ k) {s : ByteArray} (hs : s.size ≤ 140737488351232) (a : Int) : QJ k s a = some ((thS s a).1, (thS s a).2, ()) := by
 unfold QJ QJ.c
 have hp : QJ.p0 k (s, a, zHd, ()) = some (if a < 0 ∨ a > (s.size : Int) then .inl (1, zHd, ()) else .inr (s, a, zHd, ())) := by
  unfold QJ.p0
  simp only [QJ.p0.r]
  by_cases c1 : a < 0
  ·rw [Qy c1, if_pos (.inl c1)]
  ·rw [Q0Z c1]
   by_cases c2 : a > (s.size : Int)
   ·rw [Qy c2, if_pos (.inr c2)]
   ·rw [Q0Z c2, if_neg (by omega)]
 rw [hp]
 simp only [Option.bind_some]
 unfold thS
 by_cases c : a < 0 ∨ a > (s.size : Int)
 ·rw [if_pos c, if_pos c]
 ·rw [if_neg c, if_neg c]
  dsimp only
  rw [Qy (by omega), Int.toNat_natCast]
  generalize hx : s.extract a.toNat s.size = x
  have hxs : x.size = s.size - a.toNat := by rw [← hx, ByteArray.size_extract]; omega
  rw [show Q0A k x = some ((x, 0, 0, ()), ()) from rfl]
  simp only [Option.bind_some]
  have ok0 : RdOK (x, 0, 0, ()) := ⟨by show x.size ≤ _; omega, by simp, by simp⟩
  have st0 : Qdm x 0 (x, 0, 0, ()) := ⟨rfl, .inl ⟨by omega, rfl⟩⟩
  generalize hr0 : ((x, 0, 0, ()) : Rd) = r0 at ok0 st0
  have step : ∀ {r : Rd} (n : Int), RdOK r → RdOK (Q1V r n).1 := fun n h => (QeC h n).1
  have ok1 := step 4 ok0
  have st1 := st0.next (n := 4) (by omega) (by omega)
  have ok2 := step 32 ok1
  have st2 := st1.next (n := 32) (by omega) (by omega)
  have ok3 := step 32 ok2
  have st3 := st2.next (n := 32) (by omega) (by omega)
  have ok4 := step 4 ok3
  have st4 := st3.next (n := 4) (by omega) (by omega)
  have ok5 := step 4 ok4
  have st5 := st4.next (n := 4) (by omega) (by omega)
  have st6 := st5.next (n := 4) (by omega) (by omega)
  show (Q0p k r0).bind _ = _
  rw [Q8V hk ok0]
  simp only [Option.bind_some]
  show (Q0y k (Q1V r0 4).1).bind _ = _
  rw [Qbh k ok1]
  simp only [Option.bind_some]
  show (Q0y k (Q1V (Q1V r0 4).1 32).1).bind _ = _
  rw [Qbh k ok2]
  simp only [Option.bind_some]
  show (Q0p k (Q1V (Q1V (Q1V r0 4).1 32).1 32).1).bind _ = _
  rw [Q8V hk ok3]
  simp only [Option.bind_some]
  show (Q0p k (Q1V (Q1V (Q1V (Q1V r0 4).1 32).1 32).1 4).1).bind _ = _
  rw [Q8V hk ok4]
  simp only [Option.bind_some]
  show (Q0p k (Q1V (Q1V (Q1V (Q1V (Q1V r0 4).1 32).1 32).1 4).1 4).1).bind _ = _
  rw [Q8V hk ok5]
  simp only [Option.bind_some]
  generalize hr6 : (Q1V (Q1V (Q1V (Q1V (Q1V (Q1V r0 4).1 32).1 32).1 4).1 4).1 4).1 = r6 at st6
  show (bif (r6.2.2.1 != 0) then (some (zHd, r6.2.2.1, ()) : Option (THd × Int × Unit)) else _) = _
  by_cases c8 : (s.size : Int) - a < 80
  ·rw [if_pos c8]
   rcases st6.2 with ⟨g, _⟩ | ⟨_, g⟩
   ·omega
   ·rw [g]; rfl
  ·rw [if_neg c8]
   rcases st6.2 with ⟨_, g⟩ | ⟨g, _⟩
   ·rw [show r6.2.2.1 = 0 by rw [g]]
    show some ((_, 0, ()) : THd × Int × Unit) = _
    have e1 := Q3h (x := x) (p := 0) (n := 4) (by omega) (by omega) (by omega)
    have e2 := Q3h (x := x) (p := 0 + 4) (n := 32) (by omega) (by omega) (by omega)
    have e3 := Q3h (x := x) (p := 0 + 4 + 32) (n := 32) (by omega) (by omega) (by omega)
    have e4 := Q3h (x := x) (p := 0 + 4 + 32 + 32) (n := 4) (by omega) (by omega) (by omega)
    have e5 := Q3h (x := x) (p := 0 + 4 + 32 + 32 + 4) (n := 4) (by omega) (by omega) (by omega)
    have e6 := Q3h (x := x) (p := 0 + 4 + 32 + 32 + 4 + 4) (n := 4) (by omega) (by omega) (by omega)
    unfold numS Qec
    rw [← hr0, e1, e2, e3, e4, e5, e6]
    dsimp only
    rw [← hx]
    have q : ∀ b c : Nat, c ≤ 80 → Qq ((s.extract a.toNat s.size).extract b c) = (((Qq s).drop a.toNat).drop b).take (c - b) := fun b c h => Qc4 b c (by omega)
    have hL : ((Qq s).drop a.toNat).length = s.size - a.toNat := by rw [List.length_drop, Q0b]
    show some ((leI (Qq ((s.extract a.toNat s.size).extract 0 4)), Q2C Q4v 0 (Qq ((s.extract a.toNat s.size).extract 4 36)) (min (Qq ((s.extract a.toNat s.size).extract 4 36)).length 32), Q2C Q4v 0 (Qq ((s.extract a.toNat s.size).extract 36 68)) (min (Qq ((s.extract a.toNat s.size).extract 36 68)).length 32),
     leI (Qq ((s.extract a.toNat s.size).extract 68 72)), leI (Qq ((s.extract a.toNat s.size).extract 72 76)), leI (Qq ((s.extract a.toNat s.size).extract 76 80)), ()), (0 : Int), ()) = _
    rw [q 0 4 (by omega), q 4 36 (by omega), q 36 68 (by omega), q 68 72 (by omega), q 72 76 (by omega), q 76 80 (by omega)]
    rw [Qf1 (by rw [List.length_take, List.length_drop, hL]; omega), Qf1 (by rw [List.length_take, List.length_drop, hL]; omega)]
    rfl
   ·omega
end Go.Am
namespace Go.Am
open Go
theorem Qd5 {k : Nat} (hk : 33 ≤ k) {s : ByteArray} (hs : s.size = 32) : Qx k s = some (Qq s, ()) := by
 unfold Qx Qx.c
 dsimp only
 have l0 : Qx.l0 k k (s, (0 : Int), Q4v, Q4v, ()) = some (Q4v, Qq s, ()) := by
  have := Q1w (r := Qx.l0.r k) (fun i => (s, (i : Int), Q4v, (List.range i).map (fun j => Q1v s j) ++ Q4v.drop i, ())) 32 (Q4v, Qq s, ()) ?_ ?_ (fuel := k) (by omega)
  ·exact this
  ·intro i hi kn ke
   simp only [Qx.l0.r]
   rw [Qy (by omega), Qy (by omega), Qy (by omega), i64_in (by omega), Int.toNat_natCast, Q5X (f := fun j => Q1v s j) (y := Q4v) (i := i) (by rw [List.length_replicate]; exact hi)]
   rfl
  ·intro kn ke
   simp only [Qx.l0.r]
   rw [Q0Z (by omega), List.drop_of_length_le (by rw [List.length_replicate]; omega), List.append_nil]
   have e : (List.range 32).map (fun j => Q1v s j) = Qq s := by
    apply List.ext_getElem?
    intro j
    have hl : (Qq s).length = 32 := by rw [Q0b, hs]
    rcases Nat.lt_or_ge j 32 with g | g
    ·rw [List.getElem?_map, List.getElem?_range g, List.getElem?_eq_getElem (by omega)]
     show some (Q1v s j) = _
     rw [Q39, List.getD_eq_getElem?_getD, List.getElem?_eq_getElem (by omega)]
     rfl
    ·rw [List.getElem?_eq_none (by simpa using g), List.getElem?_eq_none (by omega)]
   rw [e]
 show (Qx.l0 k k (s, (0 : Int), Q4v, Q4v, ())).bind _ = _
 rw [l0]
 rfl
theorem Q6Z {k : Nat} (hk : 33 ≤ k) {s : ByteArray} (hs : s.size ≤ 140737488351232) (a : Int) : Qi k s a = some ((thS s a).1, (thS s a).2, ()) := by
 unfold Qi Qi.c
 have hp : Qi.p0 k (s, a, zHd, ()) = some (if a < 0 ∨ a > (s.size : Int) then .inl (1, zHd, ()) else .inr (s, a, zHd, ())) := by
  unfold Qi.p0
  simp only [Qi.p0.r]
  by_cases c1 : a < 0
  ·rw [Qy c1, if_pos (.inl c1)]
  ·rw [Q0Z c1]
   by_cases c2 : a > (s.size : Int)
   ·rw [Qy c2, if_pos (.inr c2)]
   ·rw [Q0Z c2, if_neg (by omega)]
 rw [hp]
 simp only [Option.bind_some]
 unfold thS
 by_cases c : a < 0 ∨ a > (s.size : Int)
 ·rw [if_pos c, if_pos c]
 ·rw [if_neg c, if_neg c]
  dsimp only
  rw [i64_in (n := (s.size : Int) - a) (by omega)]
  by_cases c8 : (s.size : Int) - a < 80
  ·rw [Qy c8, if_pos c8]
  ·rw [Q0Z c8, if_neg c8, Qy (by omega), Int.toNat_natCast]
   have hxs : (s.extract a.toNat s.size).size = s.size - a.toNat := by rw [ByteArray.size_extract]; omega
   have q : ∀ b c : Nat, c ≤ 80 → Qq ((s.extract a.toNat s.size).extract b c) = (((Qq s).drop a.toNat).drop b).take (c - b) := fun b c h => Qc4 b c (by omega)
   have qs : ∀ b c : Nat, c ≤ 80 → ((s.extract a.toNat s.size).extract b c).size = c - b := fun b c h => by rw [ByteArray.size_extract, hxs]; omega
   have r4 : ∀ b c : Nat, c ≤ 80 → c = b + 4 → 0 ≤ leI (Qq ((s.extract a.toNat s.size).extract b c)) ∧ leI (Qq ((s.extract a.toNat s.size).extract b c)) < 4294967296 := fun b c h he =>
    Q6z (m := 4) (Q2i _) (by rw [Q0b, qs b c h]; omega)
   rw [Qy (by omega), Q2o (by omega) _ (by rw [qs 0 4 (by omega)]; omega)]
   simp only [Option.bind_some]
   rw [Q3g (by have := r4 0 4 (by omega) (by omega); omega), Qy (by omega), Qd5 hk (by rw [qs 4 36 (by omega)])]
   simp only [Option.bind_some]
   rw [Qy (by omega), Qd5 hk (by rw [qs 36 68 (by omega)])]
   simp only [Option.bind_some]
   rw [Qy (by omega), Q2o (by omega) _ (by rw [qs 68 72 (by omega)]; omega)]
   simp only [Option.bind_some]
   rw [Q3g (by have := r4 68 72 (by omega) (by omega); omega), Qy (by omega), Q2o (by omega) _ (by rw [qs 72 76 (by omega)]; omega)]
   simp only [Option.bind_some]
   rw [Q3g (by have := r4 72 76 (by omega) (by omega); omega), Qy (by omega), Q2o (by omega) _ (by rw [qs 76 80 (by omega)]; omega)]
   simp only [Option.bind_some]
   rw [Q3g (by have := r4 76 80 (by omega) (by omega); omega)]
   rw [q 0 4 (by omega), q 4 36 (by omega), q 36 68 (by omega), q 68 72 (by omega), q 72 76 (by omega), q 76 80 (by omega)]
   rfl
theorem QeH {h : THd} (hh : HdOK h) : thS (bytesOf ([120] ++ Q26 h)) 1 = (h, 0) := by
 have hl := Q2e hh
 unfold thS
 have hsz : (bytesOf ([120] ++ Q26 h)).size = 81 := by rw [Q0d, List.length_append, hl]; rfl
 rw [if_neg (by rw [hsz]; omega), if_neg (by rw [hsz]; omega)]
 have hb : Q1y ([120] ++ Q26 h) := fun x hx => (List.mem_append.1 hx).elim (fun g => by rw [List.mem_singleton] at g; omega) (Q4q hh x)
 rw [Q1F hb, show List.drop (Int.toNat 1) ([(120 : Int)] ++ Q26 h) = Q26 h from rfl]
 obtain ⟨v, prev, root, tm, bits, nonce, u⟩ := h
 obtain ⟨h1, h2, h3, h4, h5, h6⟩ := hh
 dsimp only at h1 h2 h3 h4 h5 h6
 have l2 := h2.1
 have l3 := h3.1
 have lv : ∀ n, u32R n → leI (lowI n 4) = n := fun n hn => by
  have := hn.1
  have := hn.2
  rw [Q5A]; omega
 have e : ∀ (A B C : List Int) (n m : Nat), A.length = n → B.length = m → ((A ++ (B ++ C)).drop n).take m = B := fun A B C n m ha hb => by
  rw [List.drop_append_of_le_length (by omega), List.drop_of_length_le (by omega), List.nil_append, List.take_append_of_le_length (by omega), List.take_of_length_le (by omega)]
 have d1 : (Q26 (v, prev, root, tm, bits, nonce, u)).take 4 = lowI v 4 := by
  unfold Q26
  have := e [] (lowI v 4) (prev ++ root ++ lowI tm 4 ++ lowI bits 4 ++ lowI nonce 4) 0 4 rfl (Q0k _ _)
  rw [List.drop_zero, List.nil_append] at this
  simpa only [List.append_assoc] using this
 have d2 : ((Q26 (v, prev, root, tm, bits, nonce, u)).drop 4).take 32 = prev := by
  unfold Q26
  have := e (lowI v 4) prev (root ++ lowI tm 4 ++ lowI bits 4 ++ lowI nonce 4) 4 32 (Q0k _ _) l2
  simpa only [List.append_assoc] using this
 have d3 : ((Q26 (v, prev, root, tm, bits, nonce, u)).drop 36).take 32 = root := by
  unfold Q26
  have := e (lowI v 4 ++ prev) root (lowI tm 4 ++ lowI bits 4 ++ lowI nonce 4) 36 32 (by rw [List.length_append, Q0k]; omega) l3
  simpa only [List.append_assoc] using this
 have d4 : ((Q26 (v, prev, root, tm, bits, nonce, u)).drop 68).take 4 = lowI tm 4 := by
  unfold Q26
  have := e (lowI v 4 ++ prev ++ root) (lowI tm 4) (lowI bits 4 ++ lowI nonce 4) 68 4 (by simp only [List.length_append, Q0k]; omega) (Q0k _ _)
  simpa only [List.append_assoc] using this
 have d5 : ((Q26 (v, prev, root, tm, bits, nonce, u)).drop 72).take 4 = lowI bits 4 := by
  unfold Q26
  have := e (lowI v 4 ++ prev ++ root ++ lowI tm 4) (lowI bits 4) (lowI nonce 4) 72 4 (by simp only [List.length_append, Q0k]; omega) (Q0k _ _)
  simpa only [List.append_assoc] using this
 have d6 : ((Q26 (v, prev, root, tm, bits, nonce, u)).drop 76).take 4 = lowI nonce 4 := by
  unfold Q26
  have := e (lowI v 4 ++ prev ++ root ++ lowI tm 4 ++ lowI bits 4) (lowI nonce 4) [] 76 4 (by simp only [List.length_append, Q0k]; omega) (Q0k _ _)
  simpa only [List.append_assoc, List.append_nil] using this
 unfold decH
 rw [d1, d2, d3, d4, d5, d6, lv v h1, lv tm h4, lv bits h5, lv nonce h6]
end Go.Am
