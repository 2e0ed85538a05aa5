/- A part of a proof: a machine of abstract values that tells what functions of the program compute, and the plain facts on them. -/
import Derived.Test.YtnibopdcpbebcaaGreatAm15
import Derived.Test.YtnibopdcpbebcaaGreatAm10
import Derived.KernelRfl
import Derived.Test.YtnibopdcpbebcaaGreatAm7
set_option linter.unusedVariables false
set_option linter.unusedSimpArgs false
set_option linter.unnecessarySimpa false
set_option linter.unusedSectionVars false
namespace Go.Am
open Go
abbrev THd : Type := Int × List Int × List Int × Int × Int × Int × Unit
def isH (l : List Int) : Prop := l.length = 32 ∧ Q1v l
structure HdOK (h : THd) : Prop where
 v : u32R h.1
 prev : isH h.2.1
 root : isH h.2.2.1
 tm : u32R h.2.2.2.1
 bits : u32R h.2.2.2.2.1
 nonce : u32R h.2.2.2.2.2.1
def Q2l (h : THd) : List Int := lowI h.1 4 ++ h.2.1 ++ h.2.2.1 ++ lowI h.2.2.2.1 4 ++ lowI h.2.2.2.2.1 4 ++ lowI h.2.2.2.2.2.1 4
theorem Q34 {h : THd} (hh : HdOK h) : (Q2l h).length = 80 := by
 unfold Q2l
 have := hh.prev.1
 have := hh.root.1
 simp only [List.length_append, Q0B]
 omega
theorem Q81 {h : THd} (hh : HdOK h) : Q1v (Q2l h) := by
 unfold Q2l
 intro x hx
 have lo : ∀ n b, x ∈ lowI n b → 0 ≤ x ∧ x < 256 := fun n b hx => by have := Q37 n b x hx; omega
 simp only [List.mem_append] at hx
 rcases hx with ((((hx | hx) | hx) | hx) | hx) | hx
 ·exact lo _ _ hx
 ·exact hh.prev.2 x hx
 ·exact hh.root.2 x hx
 ·exact lo _ _ hx
 ·exact lo _ _ hx
 ·exact lo _ _ hx
theorem Q5l {k : Nat} (hk : 9 ≤ k) {h : THd} (hh : HdOK h) : Q18 k h = some (bytesOf (Q2l h), ()) := by
 obtain ⟨v, prev, root, tm, bits, nonce, u⟩ := h
 have hl := Q34 hh
 obtain ⟨h1, h2, h3, h4, h5, h6⟩ := hh
 dsimp only at h1 h2 h3 h4 h5 h6
 have l2 := h2.1
 have l3 := h3.1
 unfold Q18 Q18.c
 rw [show Q0C k = some ((((), ((), ())), ()), [], ()) from rfl]
 simp only [Option.bind_some]
 rw [wu32 hk h1 (by simp), List.nil_append]
 simp only [Option.bind_some]
 rw [Qd2 k h2 (by rw [Q0B]; omega), List.take_of_length_le (by omega)]
 simp only [Option.bind_some]
 rw [Qd2 k h3 (by simp only [List.length_append, Q0B]; omega), List.take_of_length_le (by omega)]
 simp only [Option.bind_some]
 rw [wu32 hk h4 (by simp only [List.length_append, Q0B]; omega)]
 simp only [Option.bind_some]
 rw [wu32 hk h5 (by simp only [List.length_append, Q0B]; omega)]
 simp only [Option.bind_some]
 rw [wu32 hk h6 (by simp only [List.length_append, Q0B]; omega)]
 simp only [Option.bind_some]
 unfold Q06 Q06.c
 rw [Q19 (Q1J (by simp only [List.length_append, Q0B]; omega))]
 rfl
theorem Q5s {k : Nat} (hk : 9 ≤ k) {h : THd} (hh : HdOK h) : Q03 k h = some (bytesOf (Q2l h), ()) := by
 obtain ⟨v, prev, root, tm, bits, nonce, u⟩ := h
 obtain ⟨h1, h2, h3, h4, h5, h6⟩ := hh
 dsimp only at h1 h2 h3 h4 h5 h6
 have l2 := h2.1
 have l3 := h3.1
 have r1 := h1.1
 have s1 := h1.2
 have r4 := h4.1
 have s4 := h4.2
 have r5 := h5.1
 have s5 := h5.2
 have r6 := h6.1
 have s6 := h6.2
 have low : ∀ n, 0 ≤ n ∧ n ≤ 4294967295 → Qo k (IntKind.u64.wrap n) 4 = some (bytesOf (lowI n 4), ()) := fun n hn => by
  rw [u64_in (n := n) (by omega), show (4 : Int) = ((4 : Nat) : Int) from rfl, Q5h hk n (by omega) 4 (by omega)]
 unfold Q03 Q03.c
 dsimp only
 rw [low v (by omega), low tm (by omega), low bits (by omega), low nonce (by omega)]
 simp only [Option.bind_some, List.drop_zero]
 rw [List.take_of_length_le (by omega), List.take_of_length_le (by omega)]
 rw [Q19 (Q1J (by simp only [Q0N, Q0B]; omega)), Q1g]
 rw [Q19 (Q1J (by simp only [Q0N, List.length_append, Q0B]; omega)), Q1g]
 rw [Q19 (Q1J (by simp only [Q0N, List.length_append, Q0B]; omega)), Q1g]
 rw [Q19 (Q1J (by simp only [Q0N, List.length_append, Q0B]; omega)), Q1g]
 rw [Q19 (Q1J (by simp only [Q0N, List.length_append, Q0B]; omega)), Q1g]
 rfl
def hidS (h : THd) : List Int := sumL (sumL (Q2l h))
theorem Q76 {k : Nat} (hk : 300 ≤ k) {h : THd} (hh : HdOK h) : Q1p k h = some (hidS h, ()) := by
 have hl := Q34 hh
 unfold Q1p Q1p.c hidS
 show (Q18 k h).bind _ = _
 rw [Q5l (by omega) hh]
 simp only [Option.bind_some]
 rw [Q6n (by omega) (by rw [Q0N]; omega) (by rw [Q0N]; omega), Q1Q (Q81 hh)]
 rfl
theorem Q78 {k : Nat} (hk : 300 ≤ k) {h : THd} (hh : HdOK h) : Q0z k h = some (hidS h, ()) := by
 have hl := Q34 hh
 unfold Q0z Q0z.c hidS
 show (Q03 k h).bind _ = _
 rw [Q5s (by omega) hh]
 simp only [Option.bind_some]
 rw [Q9D (by omega) (by rw [Q0N]; omega) (by rw [Q0N]; omega), Q1Q (Q81 hh)]
 rfl
end Go.Am
namespace Go.Am
open Go
theorem Q2L {x : ByteArray} {p n : Int} (hp : 0 ≤ p) (hn : 0 ≤ n) (h : p + n ≤ (x.size : Int)) : Q1E (x, p, 0, ()) n = ((x, p + n, 0, ()), x.extract p.toNat (p + n).toNat) := by
 unfold Q1E
 rw [if_neg (by simp), if_neg (by omega), if_neg (by show ¬ n > (x.size : Int) - p; omega)]
theorem QaQ {x : ByteArray} {p n : Int} (hn : 0 ≤ n) (h : (x.size : Int) < p + n) : Q1E (x, p, 0, ()) n = ((x, p, 4, ()), ⟨List.toArray []⟩) := by
 unfold Q1E
 rw [if_neg (by simp), if_neg (by omega), if_pos (by show n > (x.size : Int) - p; omega)]
theorem QcR {x : ByteArray} {p e n : Int} (he : e ≠ 0) : Q1E (x, p, e, ()) n = ((x, p, e, ()), ⟨List.toArray []⟩) := by
 unfold Q1E
 rw [if_pos he]
def Qc3 (x : ByteArray) (p : Int) (r : Rd) : Prop := r.1 = x ∧ ((p ≤ (x.size : Int) ∧ r = (x, p, 0, ())) ∨ ((x.size : Int) < p ∧ r.2.2.1 = 4))
theorem Qc3.next {x : ByteArray} {p n : Int} {r : Rd} (h : Qc3 x p r) (hp : 0 ≤ p) (hn : 0 ≤ n) : Qc3 x (p + n) (Q1E r n).1 := by
 obtain ⟨h1, h2⟩ := h
 obtain ⟨y, q, e, u⟩ := r
 rcases h2 with ⟨h3, h4⟩ | ⟨h3, h4⟩
 ·rw [h4]
  by_cases c : p + n ≤ (x.size : Int)
  ·rw [Q2L hp hn c]
   exact ⟨rfl, .inl ⟨c, rfl⟩⟩
  ·rw [QaQ hn (by omega)]
   exact ⟨rfl, .inr ⟨by omega, rfl⟩⟩
 ·dsimp only at h1 h4
  rw [h4, QcR (by omega)]
  exact ⟨h1, .inr ⟨by omega, rfl⟩⟩
def Qd0 (r : Rd) : List Int := Q2k (List.replicate 32 (0 : Int)) 0 (QQ (Q1E r 32).2) (min (QQ (Q1E r 32).2).length 32)
theorem QaK (k : Nat) {r : Rd} (h : RdOK r) : Q0v k r = some (Qd0 r, (Q1E r 32).1, ()) := by
 unfold Q0v Q0v.c
 show (Q02 k 32 r).bind _ = _
 rw [Qal k h]
 rfl
abbrev Q4b : List Int := List.replicate 32 (0 : Int)
abbrev zHd : THd := (0, Q4b, Q4b, 0, 0, 0, ())
def decH (L : List Int) : THd := (leI (L.take 4), (L.drop 4).take 32, (L.drop 36).take 32, leI ((L.drop 68).take 4), leI ((L.drop 72).take 4), leI ((L.drop 76).take 4), ())
def thS (s : ByteArray) (a : Int) : THd × Int :=
 if a < 0 ∨ a > (s.size : Int) then (zHd, 1) else if (s.size : Int) - a < 80 then (zHd, 4) else (decH ((QQ s).drop a.toNat), 0)
theorem QdA {l : List Int} (h : l.length = 32) : Q2k (List.replicate 32 (0 : Int)) 0 l (min l.length 32) = l := by
 unfold Q2k
 rw [h]
 simp only [List.take_zero, List.nil_append, Nat.min_self, Nat.zero_add]
 rw [List.take_of_length_le (by omega), List.drop_of_length_le (by simp), List.append_nil]
theorem Qaa {s : ByteArray} {a : Nat} (b c : Nat) (h : c ≤ s.size - a) : QQ ((s.extract a s.size).extract b c) = (((QQ s).drop a).drop b).take (c - b) := by
 rw [Q4w, Q4w]
 rw [List.take_of_length_le (l := (QQ s).drop a) (by rw [List.length_drop, Q1i]; omega)]
theorem Q3T {k : Nat} (hk : 9 ≤ k) {s : ByteArray} (hs : s.size ≤ 140737488351232) (a : Int) : QH k s a = some ((thS s a).1, (thS s a).2, ()) := by
 unfold QH QH.c
 have hp : QH.p0 k (s, a, zHd, ()) = some (if a < 0 ∨ a > (s.size : Int) then .inl (1, zHd, ()) else .inr (s, a, zHd, ())) := by
  unfold QH.p0
  simp only [QH.p0.r]
  by_cases c1 : a < 0
  ·rw [QI c1, if_pos (.inl c1)]
  ·rw [Q1c c1]
   by_cases c2 : a > (s.size : Int)
   ·rw [QI c2, if_pos (.inr c2)]
   ·rw [Q1c c2, if_neg (by omega)]
 rw [hp]
 simp only [Option.bind_some]
 unfold thS
 by_cases c : a < 0 ∨ a > (s.size : Int)
 ·rw [if_pos c, if_pos c]
 ·rw [if_neg c, if_neg c]
  dsimp only
  rw [QI (by omega), Int.toNat_natCast]
  generalize hx : s.extract a.toNat s.size = x
  have hxs : x.size = s.size - a.toNat := by rw [← hx, ByteArray.size_extract]; omega
  rw [show Q0E k x = some ((x, 0, 0, ()), ()) from rfl]
  simp only [Option.bind_some]
  have ok0 : RdOK (x, 0, 0, ()) := ⟨by show x.size ≤ _; omega, by simp, by simp⟩
  have st0 : Qc3 x 0 (x, 0, 0, ()) := ⟨rfl, .inl ⟨by omega, rfl⟩⟩
  generalize hr0 : ((x, 0, 0, ()) : Rd) = r0 at ok0 st0
  have step : ∀ {r : Rd} (n : Int), RdOK r → RdOK (Q1E r n).1 := fun n h => (Qdh h n).1
  have ok1 := step 4 ok0
  have st1 := st0.next (n := 4) (by omega) (by omega)
  have ok2 := step 32 ok1
  have st2 := st1.next (n := 32) (by omega) (by omega)
  have ok3 := step 32 ok2
  have st3 := st2.next (n := 32) (by omega) (by omega)
  have ok4 := step 4 ok3
  have st4 := st3.next (n := 4) (by omega) (by omega)
  have ok5 := step 4 ok4
  have st5 := st4.next (n := 4) (by omega) (by omega)
  have st6 := st5.next (n := 4) (by omega) (by omega)
  show (Q0h k r0).bind _ = _
  rw [Q9r hk ok0]
  simp only [Option.bind_some]
  show (Q0v k (Q1E r0 4).1).bind _ = _
  rw [QaK k ok1]
  simp only [Option.bind_some]
  show (Q0v k (Q1E (Q1E r0 4).1 32).1).bind _ = _
  rw [QaK k ok2]
  simp only [Option.bind_some]
  show (Q0h k (Q1E (Q1E (Q1E r0 4).1 32).1 32).1).bind _ = _
  rw [Q9r hk ok3]
  simp only [Option.bind_some]
  show (Q0h k (Q1E (Q1E (Q1E (Q1E r0 4).1 32).1 32).1 4).1).bind _ = _
  rw [Q9r hk ok4]
  simp only [Option.bind_some]
  show (Q0h k (Q1E (Q1E (Q1E (Q1E (Q1E r0 4).1 32).1 32).1 4).1 4).1).bind _ = _
  rw [Q9r hk ok5]
  simp only [Option.bind_some]
  generalize hr6 : (Q1E (Q1E (Q1E (Q1E (Q1E (Q1E r0 4).1 32).1 32).1 4).1 4).1 4).1 = r6 at st6
  show (bif (r6.2.2.1 != 0) then (some (zHd, r6.2.2.1, ()) : Option (THd × Int × Unit)) else _) = _
  by_cases c8 : (s.size : Int) - a < 80
  ·rw [if_pos c8]
   rcases st6.2 with ⟨g, _⟩ | ⟨_, g⟩
   ·omega
   ·rw [g]; rfl
  ·rw [if_neg c8]
   rcases st6.2 with ⟨_, g⟩ | ⟨g, _⟩
   ·rw [show r6.2.2.1 = 0 by rw [g]]
    show some ((_, 0, ()) : THd × Int × Unit) = _
    have e1 := Q2L (x := x) (p := 0) (n := 4) (by omega) (by omega) (by omega)
    have e2 := Q2L (x := x) (p := 0 + 4) (n := 32) (by omega) (by omega) (by omega)
    have e3 := Q2L (x := x) (p := 0 + 4 + 32) (n := 32) (by omega) (by omega) (by omega)
    have e4 := Q2L (x := x) (p := 0 + 4 + 32 + 32) (n := 4) (by omega) (by omega) (by omega)
    have e5 := Q2L (x := x) (p := 0 + 4 + 32 + 32 + 4) (n := 4) (by omega) (by omega) (by omega)
    have e6 := Q2L (x := x) (p := 0 + 4 + 32 + 32 + 4 + 4) (n := 4) (by omega) (by omega) (by omega)
    unfold numS Qd0
    rw [← hr0, e1, e2, e3, e4, e5, e6]
    dsimp only
    rw [← hx]
    have q : ∀ b c : Nat, c ≤ 80 → QQ ((s.extract a.toNat s.size).extract b c) = (((QQ s).drop a.toNat).drop b).take (c - b) := fun b c h => Qaa b c (by omega)
    have hL : ((QQ s).drop a.toNat).length = s.size - a.toNat := by rw [List.length_drop, Q1i]
    show some ((leI (QQ ((s.extract a.toNat s.size).extract 0 4)), Q2k Q4b 0 (QQ ((s.extract a.toNat s.size).extract 4 36)) (min (QQ ((s.extract a.toNat s.size).extract 4 36)).length 32), Q2k Q4b 0 (QQ ((s.extract a.toNat s.size).extract 36 68)) (min (QQ ((s.extract a.toNat s.size).extract 36 68)).length 32),
     leI (QQ ((s.extract a.toNat s.size).extract 68 72)), leI (QQ ((s.extract a.toNat s.size).extract 72 76)), leI (QQ ((s.extract a.toNat s.size).extract 76 80)), ()), (0 : Int), ()) = _
    rw [q 0 4 (by omega), q 4 36 (by omega), q 36 68 (by omega), q 68 72 (by omega), q 72 76 (by omega), q 76 80 (by omega)]
    rw [QdA (by rw [List.length_take, List.length_drop, hL]; omega), QdA (by rw [List.length_take, List.length_drop, hL]; omega)]
    rfl
   ·omega
end Go.Am
namespace Go.Am
open Go
theorem Qcf {k : Nat} (hk : 33 ≤ k) {s : ByteArray} (hs : s.size = 32) : Qu k s = some (QQ s, ()) := by
 unfold Qu Qu.c
 dsimp only
 have l0 : Qu.l0 k k (s, (0 : Int), Q4b, Q4b, ()) = some (Q4b, QQ s, ()) := by
  have := Q1r (r := Qu.l0.r k) (fun i => (s, (i : Int), Q4b, (List.range i).map (fun j => Q1u s j) ++ Q4b.drop i, ())) 32 (Q4b, QQ s, ()) ?_ ?_ (fuel := k) (by omega)
  ·exact this
  ·intro i hi kn ke
   simp only [Qu.l0.r]
   rw [QI (by omega), QI (by omega), QI (by omega), i64_in (by omega), Int.toNat_natCast, Q59 (f := fun j => Q1u s j) (y := Q4b) (i := i) (by rw [List.length_replicate]; exact hi)]
   rfl
  ·intro kn ke
   simp only [Qu.l0.r]
   rw [Q1c (by omega), List.drop_of_length_le (by rw [List.length_replicate]; omega), List.append_nil]
   have e : (List.range 32).map (fun j => Q1u s j) = QQ s := by
    apply List.ext_getElem?
    intro j
    have hl : (QQ s).length = 32 := by rw [Q1i, hs]
    rcases Nat.lt_or_ge j 32 with g | g
    ·rw [List.getElem?_map, List.getElem?_range g, List.getElem?_eq_getElem (by omega)]
     show some (Q1u s j) = _
     rw [Q56, List.getD_eq_getElem?_getD, List.getElem?_eq_getElem (by omega)]
     rfl
    ·rw [List.getElem?_eq_none (by simpa using g), List.getElem?_eq_none (by omega)]
   rw [e]
 show (Qu.l0 k k (s, (0 : Int), Q4b, Q4b, ())).bind _ = _
 rw [l0]
 rfl
theorem Q5P {k : Nat} (hk : 33 ≤ k) {s : ByteArray} (hs : s.size ≤ 140737488351232) (a : Int) : Qg k s a = some ((thS s a).1, (thS s a).2, ()) := by
 unfold Qg Qg.c
 have hp : Qg.p0 k (s, a, zHd, ()) = some (if a < 0 ∨ a > (s.size : Int) then .inl (1, zHd, ()) else .inr (s, a, zHd, ())) := by
  unfold Qg.p0
  simp only [Qg.p0.r]
  by_cases c1 : a < 0
  ·rw [QI c1, if_pos (.inl c1)]
  ·rw [Q1c c1]
   by_cases c2 : a > (s.size : Int)
   ·rw [QI c2, if_pos (.inr c2)]
   ·rw [Q1c c2, if_neg (by omega)]
 rw [hp]
 simp only [Option.bind_some]
 unfold thS
 by_cases c : a < 0 ∨ a > (s.size : Int)
 ·rw [if_pos c, if_pos c]
 ·rw [if_neg c, if_neg c]
  dsimp only
  rw [i64_in (n := (s.size : Int) - a) (by omega)]
  by_cases c8 : (s.size : Int) - a < 80
  ·rw [QI c8, if_pos c8]
  ·rw [Q1c c8, if_neg c8, QI (by omega), Int.toNat_natCast]
   have hxs : (s.extract a.toNat s.size).size = s.size - a.toNat := by rw [ByteArray.size_extract]; omega
   have q : ∀ b c : Nat, c ≤ 80 → QQ ((s.extract a.toNat s.size).extract b c) = (((QQ s).drop a.toNat).drop b).take (c - b) := fun b c h => Qaa b c (by omega)
   have qs : ∀ b c : Nat, c ≤ 80 → ((s.extract a.toNat s.size).extract b c).size = c - b := fun b c h => by rw [ByteArray.size_extract, hxs]; omega
   have r4 : ∀ b c : Nat, c ≤ 80 → c = b + 4 → 0 ≤ leI (QQ ((s.extract a.toNat s.size).extract b c)) ∧ leI (QQ ((s.extract a.toNat s.size).extract b c)) < 4294967296 := fun b c h he =>
    QbI (m := 4) (Q4C _) (by rw [Q1i, qs b c h]; omega)
   rw [QI (by omega), Q2h (by omega) _ (by rw [qs 0 4 (by omega)]; omega)]
   simp only [Option.bind_some]
   rw [Q2W (by have := r4 0 4 (by omega) (by omega); omega), QI (by omega), Qcf hk (by rw [qs 4 36 (by omega)])]
   simp only [Option.bind_some]
   rw [QI (by omega), Qcf hk (by rw [qs 36 68 (by omega)])]
   simp only [Option.bind_some]
   rw [QI (by omega), Q2h (by omega) _ (by rw [qs 68 72 (by omega)]; omega)]
   simp only [Option.bind_some]
   rw [Q2W (by have := r4 68 72 (by omega) (by omega); omega), QI (by omega), Q2h (by omega) _ (by rw [qs 72 76 (by omega)]; omega)]
   simp only [Option.bind_some]
   rw [Q2W (by have := r4 72 76 (by omega) (by omega); omega), QI (by omega), Q2h (by omega) _ (by rw [qs 76 80 (by omega)]; omega)]
   simp only [Option.bind_some]
   rw [Q2W (by have := r4 76 80 (by omega) (by omega); omega)]
   rw [q 0 4 (by omega), q 4 36 (by omega), q 36 68 (by omega), q 68 72 (by omega), q 72 76 (by omega), q 76 80 (by omega)]
   rfl
theorem Qdv {h : THd} (hh : HdOK h) : thS (bytesOf ([120] ++ Q2l h)) 1 = (h, 0) := by
 have hl := Q34 hh
 unfold thS
 have hsz : (bytesOf ([120] ++ Q2l h)).size = 81 := by rw [Q0N, List.length_append, hl]; rfl
 rw [if_neg (by rw [hsz]; omega), if_neg (by rw [hsz]; omega)]
 have hb : Q1v ([120] ++ Q2l h) := fun x hx => (List.mem_append.1 hx).elim (fun g => by rw [List.mem_singleton] at g; omega) (Q81 hh x)
 rw [Q1Q hb, show List.drop (Int.toNat 1) ([(120 : Int)] ++ Q2l h) = Q2l h from rfl]
 obtain ⟨v, prev, root, tm, bits, nonce, u⟩ := h
 obtain ⟨h1, h2, h3, h4, h5, h6⟩ := hh
 dsimp only at h1 h2 h3 h4 h5 h6
 have l2 := h2.1
 have l3 := h3.1
 have lv : ∀ n, u32R n → leI (lowI n 4) = n := fun n hn => by
  have := hn.1
  have := hn.2
  rw [Qdm]; omega
 have e : ∀ (A B C : List Int) (n m : Nat), A.length = n → B.length = m → ((A ++ (B ++ C)).drop n).take m = B := fun A B C n m ha hb => by
  rw [List.drop_append_of_le_length (by omega), List.drop_of_length_le (by omega), List.nil_append, List.take_append_of_le_length (by omega), List.take_of_length_le (by omega)]
 have d1 : (Q2l (v, prev, root, tm, bits, nonce, u)).take 4 = lowI v 4 := by
  unfold Q2l
  have := e [] (lowI v 4) (prev ++ root ++ lowI tm 4 ++ lowI bits 4 ++ lowI nonce 4) 0 4 rfl (Q0B _ _)
  rw [List.drop_zero, List.nil_append] at this
  simpa only [List.append_assoc] using this
 have d2 : ((Q2l (v, prev, root, tm, bits, nonce, u)).drop 4).take 32 = prev := by
  unfold Q2l
  have := e (lowI v 4) prev (root ++ lowI tm 4 ++ lowI bits 4 ++ lowI nonce 4) 4 32 (Q0B _ _) l2
  simpa only [List.append_assoc] using this
 have d3 : ((Q2l (v, prev, root, tm, bits, nonce, u)).drop 36).take 32 = root := by
  unfold Q2l
  have := e (lowI v 4 ++ prev) root (lowI tm 4 ++ lowI bits 4 ++ lowI nonce 4) 36 32 (by rw [List.length_append, Q0B]; omega) l3
  simpa only [List.append_assoc] using this
 have d4 : ((Q2l (v, prev, root, tm, bits, nonce, u)).drop 68).take 4 = lowI tm 4 := by
  unfold Q2l
  have := e (lowI v 4 ++ prev ++ root) (lowI tm 4) (lowI bits 4 ++ lowI nonce 4) 68 4 (by simp only [List.length_append, Q0B]; omega) (Q0B _ _)
  simpa only [List.append_assoc] using this
 have d5 : ((Q2l (v, prev, root, tm, bits, nonce, u)).drop 72).take 4 = lowI bits 4 := by
  unfold Q2l
  have := e (lowI v 4 ++ prev ++ root ++ lowI tm 4) (lowI bits 4) (lowI nonce 4) 72 4 (by simp only [List.length_append, Q0B]; omega) (Q0B _ _)
  simpa only [List.append_assoc] using this
 have d6 : ((Q2l (v, prev, root, tm, bits, nonce, u)).drop 76).take 4 = lowI nonce 4 := by
  unfold Q2l
  have := e (lowI v 4 ++ prev ++ root ++ lowI tm 4 ++ lowI bits 4) (lowI nonce 4) [] 76 4 (by simp only [List.length_append, Q0B]; omega) (Q0B _ _)
  simpa only [List.append_assoc, List.append_nil] using this
 unfold decH
 rw [d1, d2, d3, d4, d5, d6, lv v h1, lv tm h4, lv bits h5, lv nonce h6]
end Go.Am
namespace Go.Am
open Go
theorem Q42 {a : List Int} {i : Nat} (h : i < a.length) : leI (a.take (i + 1)) = leI (a.take i) + 256 ^ i * a.getD i 0 := by
 rw [List.take_add_one, List.getElem?_eq_getElem h, Option.toList_some, Q4j, List.length_take, Nat.min_eq_left (by omega), List.getD_eq_getElem?_getD, List.getElem?_eq_getElem h]
 simp [leI]
theorem Q5v {k : Nat} (hk : 50 ≤ k) {a b : List Int} (ha : a.length = 40 ∧ Q1v a) (hb : b.length = 40 ∧ Q1v b) : Qp k a b = some (decide (leI a < leI b), ()) := by
 unfold Qp Qp.c
 have key : ∀ (i fuel : Nat), i ≤ 40 → i < fuel → ∃ res, Q14 (Qp.l0.r k) fuel ((i : Int) - 1, a, b, ()) = some res ∧ (match res with | .inl t => t.1 | .inr _ => false) = decide (leI (a.take i) < leI (b.take i)) := by
  intro i
  induction i with
  | zero =>
   intro fuel _ hf
   obtain ⟨f, rfl⟩ : ∃ f, fuel = f + 1 := ⟨fuel - 1, by omega⟩
   refine ⟨.inr (), ?_, rfl⟩
   show Qp.l0.r k _ (Q14 (Qp.l0.r k) f) some = _
   simp only [Qp.l0.r]
   rw [Q1c (by omega)]
  | succ i ih =>
   intro fuel hi hf
   obtain ⟨f, rfl⟩ : ∃ f, fuel = f + 1 := ⟨fuel - 1, by omega⟩
   have e1 := Q42 (a := a) (i := i) (by omega)
   have e2 := Q42 (a := b) (i := i) (by omega)
   have r1 := Q2Q (xs := a.take i) (fun x hx => ha.2 x (List.mem_of_mem_take hx))
   have r2 := Q2Q (xs := b.take i) (fun x hx => hb.2 x (List.mem_of_mem_take hx))
   rw [List.length_take, Nat.min_eq_left (by omega)] at r1 r2
   show ∃ res, Qp.l0.r k _ (Q14 (Qp.l0.r k) f) some = some res ∧ _
   simp only [Qp.l0.r]
   rw [show ((i + 1 : Nat) : Int) - 1 = (i : Int) by omega, QI (by omega), QI (by omega), QI (by omega), Int.toNat_natCast]
   by_cases c : a.getD i 0 = b.getD i 0
   ·rw [c, bne_self_eq_false, cond_false, i64_in (by omega)]
    obtain ⟨res, h1, h2⟩ := ih f (by omega) (by omega)
    refine ⟨res, h1, ?_⟩
    rw [h2]
    refine decide_eq_decide.2 ?_
    rw [e1, e2, c]
    constructor <;> intro <;> omega
   ·rw [Q19 (by rw [bne_iff_ne]; exact c), QI (by omega), QI (by omega)]
    refine ⟨_, rfl, ?_⟩
    refine decide_eq_decide.2 ?_
    rw [e1, e2]
    have hP : (0 : Int) < 256 ^ i := Int.pow_pos (by decide)
    generalize (256 : Int) ^ i = P at *
    generalize a.getD i 0 = x at *
    generalize b.getD i 0 = y at *
    constructor
    ·intro h
     have := Int.mul_le_mul_of_nonneg_left (show x + 1 ≤ y by omega) (Int.le_of_lt hP)
     rw [Int.mul_add, Int.mul_one] at this
     omega
    ·intro h
     rcases Int.lt_trichotomy x y with g | g | g
     ·exact g
     ·exact absurd g c
     ·exfalso
      have := Int.mul_le_mul_of_nonneg_left (show y + 1 ≤ x by omega) (Int.le_of_lt hP)
      rw [Int.mul_add, Int.mul_one] at this
      omega
 obtain ⟨res, h1, h2⟩ := key 40 k (by omega) (by omega)
 rw [List.take_of_length_le (by omega), List.take_of_length_le (by omega)] at h2
 show (Qp.l0 k k (((40 : Nat) : Int) - 1, a, b, ())).bind _ = _
 unfold Qp.l0
 rw [h1]
 simp only [Option.bind_some]
 rw [← h2]
 cases res <;> rfl
end Go.Am
namespace Go.Am
open Go
theorem QaJ {k : Nat} (hk : 50 ≤ k) {h : List Int} (hh : isH h) : QE k h = some (h ++ List.replicate 8 0, ()) := by
 have hl := hh.1
 unfold QE QE.c
 dsimp only
 generalize hz : List.replicate 40 (0 : Int) = Z
 have hZ : Z.length = 40 := by rw [← hz]; simp
 have l0 : QE.l0 k k ((0 : Int), h, Z, Z, ()) = some (Z, h ++ List.replicate 8 0, ()) := by
  have := Q1r (r := QE.l0.r k) (fun i => ((i : Int), h, Z, (List.range i).map (fun j => h.getD j 0) ++ Z.drop i, ())) 32 (Z, h ++ List.replicate 8 0, ()) ?_ ?_ (fuel := k) (by omega)
  ·exact this
  ·intro i hi kn ke
   simp only [QE.l0.r]
   have hx := hh.2 (h.getD i 0) (by rw [List.getD_eq_getElem?_getD, List.getElem?_eq_getElem (by omega)]; exact List.getElem_mem _)
   rw [QI (by omega), QI (by omega), QI (by omega), Int.toNat_natCast, i64_in (n := (i : Int) + 1) (by omega), i64_in (n := h.getD i 0) (by omega), Q59 (f := fun j => h.getD j 0) (y := Z) (i := i) (by omega)]
   rfl
  ·intro kn ke
   simp only [QE.l0.r]
   rw [Q1c (by omega)]
   have e : (List.range 32).map (fun j => h.getD j 0) = h := by
    apply List.ext_getElem?
    intro j
    rcases Nat.lt_or_ge j 32 with g | g
    ·rw [List.getElem?_map, List.getElem?_range g, List.getElem?_eq_getElem (by omega)]
     show some (h.getD j 0) = _
     rw [List.getD_eq_getElem?_getD, List.getElem?_eq_getElem (by omega)]
     rfl
    ·rw [List.getElem?_eq_none (by simpa using g), List.getElem?_eq_none (by omega)]
   rw [e, ← hz]
   rfl
 rw [l0]
 rfl
theorem QcT (l : List Int) (n : Nat) : leI (l ++ List.replicate n 0) = leI l := by
 rw [Q4j]
 have : ∀ n, leI (List.replicate n 0) = 0 := by
  intro n
  induction n with
  | zero => rfl
  | succ n ih => rw [List.replicate_succ]; show (0 : Int) + 256 * leI (List.replicate n 0) = 0; rw [ih]; rfl
 rw [this, Int.mul_zero, Int.add_zero]
end Go.Am
namespace Go.Am
open Go
def w4 (a b c d : Int) : Int := a + b * 18446744073709551616 + c * 340282366920938463463374607431768211456 + d * 6277101735386680763835789423207666416102355444464034512896
def r64' (x : Int) : Prop := 0 ≤ x ∧ x ≤ 18446744073709551615
theorem rev4 {k : Nat} (hk : 5 ≤ k) (a b c d : Int) : Q4 k (0, 4) [a, b, c, d] = some ([d, c, b, a], ()) := by
 obtain ⟨m, hm⟩ : ∃ m, k = m + 3 := ⟨k - 3, by omega⟩
 unfold Q4 Q4.c
 dsimp only
 have l0 : ∀ q, Q14 (Q4.l0.r q) (m + 3) ((0, 4), (0 : Int), (3 : Int), [a, b, c, d], ()) = some ([d, c, b, a], ()) := by
  intro q
  simp [Q14, Q4.l0.r, i64_in]
 have e := l0 k
 rw [← hm] at e
 rw [i64_in (by omega)]
 show (Q4.l0 k k ((0, 4), (0 : Int), (3 : Int), [a, b, c, d], ())).bind _ = _
 unfold Q4.l0
 rw [e]
 rfl
end Go.Am
namespace Go.Am
open Go
theorem QcB (k : Nat) (x y : Int) : Q0o k x y = some (if x < y then -1 else if x > y then 1 else 0, ()) := by
 unfold Q0o Q0o.c
 have n : ∀ z, Q0D k z = some (false, ()) := fun z => by
  unfold Q0D Q0D.c
  rw [bne_self_eq_false]
 rw [n, n]
 simp only [Option.bind_some, cond_false]
 by_cases h : x < y
 ·rw [QI h, if_pos h]
 ·rw [Q1c h, if_neg h]
  by_cases h2 : x > y
  ·rw [QI h2, if_pos h2]
  ·rw [Q1c h2, if_neg h2]
def sgn (x y : Int) : Int := if x < y then -1 else if x > y then 1 else 0
def cmpL : List Int → List Int → Int
 | x :: l, y :: m => if sgn x y ≠ 0 then sgn x y else cmpL l m
 | _, _ => 0
theorem Qab {k : Nat} {a b : List Int} (h : a.length = b.length) (hk : a.length < k) (hb : a.length ≤ 1000) : Q6 k a b = some (cmpL a b, ()) := by
 unfold Q6 Q6.c
 dsimp only
 have key : ∀ (d i fuel : Nat), i + d = a.length → d < fuel → ∃ res, Q14 (Q6.l0.r k) fuel (a, b, a, (a.length : Int), (i : Int), ()) = some res ∧
   ((∃ r, res = .inl (r, ()) ∧ r = cmpL (a.drop i) (b.drop i)) ∨ (res = .inr (a, b, ()) ∧ cmpL (a.drop i) (b.drop i) = 0)) := by
  intro d
  induction d with
  | zero =>
   intro i fuel hi hf
   obtain ⟨f, rfl⟩ : ∃ f, fuel = f + 1 := ⟨fuel - 1, by omega⟩
   refine ⟨.inr (a, b, ()), ?_, .inr ⟨rfl, by rw [List.drop_of_length_le (by omega)]; rfl⟩⟩
   show Q6.l0.r k _ (Q14 (Q6.l0.r k) f) some = _
   simp only [Q6.l0.r]
   rw [Q1c (by omega)]
  | succ d ih =>
   intro i fuel hi hf
   obtain ⟨f, rfl⟩ : ∃ f, fuel = f + 1 := ⟨fuel - 1, by omega⟩
   show ∃ res, Q6.l0.r k _ (Q14 (Q6.l0.r k) f) some = some res ∧ _
   simp only [Q6.l0.r]
   have da : a.drop i = a.getD i 0 :: a.drop (i + 1) := by rw [List.drop_eq_getElem_cons (by omega), List.getD_eq_getElem?_getD, List.getElem?_eq_getElem (by omega)]; rfl
   have db : b.drop i = b.getD i 0 :: b.drop (i + 1) := by rw [List.drop_eq_getElem_cons (by omega), List.getD_eq_getElem?_getD, List.getElem?_eq_getElem (by omega)]; rfl
   rw [QI (by omega), QI (by omega), Q1c (by omega), QI (by omega), Int.toNat_natCast, QcB]
   simp only [Option.bind_some]
   rw [da, db]
   show ∃ res, (bif (sgn (a.getD i 0) (b.getD i 0) != 0) then _ else _) = some res ∧ _
   by_cases c : sgn (a.getD i 0) (b.getD i 0) = 0
   ·rw [Q3V (by rw [bne_eq_false_iff_eq]; exact c), i64_in (by omega)]
    obtain ⟨res, h1, h2⟩ := ih (i + 1) f (by omega) (by omega)
    refine ⟨res, h1, ?_⟩
    simp only [cmpL]
    rw [if_neg (fun g => g c)]
    exact h2
   ·rw [Q19 (by rw [bne_iff_ne]; exact c)]
    refine ⟨_, rfl, .inl ⟨_, rfl, ?_⟩⟩
    simp only [cmpL]
    rw [if_pos c]
    rfl
 obtain ⟨res, h1, h2⟩ := key a.length 0 k (by omega) hk
 show (Q6.l0 k k (a, b, a, (a.length : Int), ((0 : Nat) : Int), ())).bind _ = _
 unfold Q6.l0
 rw [h1]
 simp only [Option.bind_some]
 rw [List.drop_zero, List.drop_zero] at h2
 rcases h2 with ⟨r, rfl, rfl⟩ | ⟨rfl, h3⟩
 ·rfl
 ·rw [h3]
  dsimp only
  rw [Q1c (by omega)]
end Go.Am
namespace Go.Am
open Go
set_option maxHeartbeats 4000000 in
theorem QaE {k : Nat} (hk : 10 ≤ k) {a b c d a' b' c' d' : Int} (h1 : r64' a) (h2 : r64' b) (h3 : r64' c) (h4 : r64' d) (g1 : r64' a') (g2 : r64' b') (g3 : r64' c') (g4 : r64' d') :
  ∃ r, Q0V k [a, b, c, d] [a', b', c', d'] = some (r, ()) ∧ (r ≤ 0 ↔ w4 a b c d ≤ w4 a' b' c' d') := by
 unfold Q0V Q0V.c
 rw [rev4 (by omega)]
 simp only [Option.bind_some]
 rw [rev4 (by omega)]
 simp only [Option.bind_some]
 show ∃ r, ((Q6 k [d, c, b, a] [d', c', b', a']).bind _) = some (r, ()) ∧ _
 rw [Qab (a := [d, c, b, a]) (b := [d', c', b', a']) rfl (by simp only [List.length_cons, List.length_nil]; omega) (by simp)]
 refine ⟨_, rfl, ?_⟩
 unfold r64' at *
 unfold w4
 simp only [cmpL]
 unfold sgn
 (repeat' split) <;> omega
end Go.Am
set_option linter.unusedSimpArgs false
namespace Go.Am
open Go
theorem Qas (x : Int) {j : Nat} (hj : j ≤ 64) : Q1W .u64 x (j : Int) = (x * 2 ^ j) % 18446744073709551616 := by
 unfold Q1W
 rw [show min (j : Int).toNat IntKind.u64.bits = j by simp [IntKind.bits]; omega, Q5X]
def ofW (h : List Int) (i j : Nat) : Int := leI ((h.drop (8 * j)).take (min (i - 8 * j) 8))
theorem Q2e {h : List Int} {i j : Nat} (hq : i / 8 ≠ j) : ofW h (i + 1) j = ofW h i j := by
 unfold ofW
 rw [show min (i + 1 - 8 * j) 8 = min (i - 8 * j) 8 by omega]
theorem Qdg {h : List Int} (hh : isH h) {i j : Nat} (hq : i / 8 = j) (hi : i < 32) : ofW h (i + 1) j = ofW h i j + 256 ^ (i % 8) * h.getD i 0 := by
 unfold ofW
 rw [show min (i + 1 - 8 * j) 8 = i % 8 + 1 by omega, show min (i - 8 * j) 8 = i % 8 by omega, Q42 (by rw [List.length_drop, hh.1]; omega)]
 rw [show (List.drop (8 * j) h).getD (i % 8) 0 = h.getD i 0 by
  rw [List.getD_eq_getElem?_getD, List.getD_eq_getElem?_getD, List.getElem?_drop, show 8 * j + i % 8 = i by omega]]
theorem Q4d {h : List Int} (hh : isH h) (i j : Nat) : 0 ≤ ofW h i j ∧ ofW h i j < 256 ^ (min (i - 8 * j) 8) := by
 unfold ofW
 have := QbI (l := (h.drop (8 * j)).take (min (i - 8 * j) 8)) (fun x hx => hh.2 x (List.mem_of_mem_drop (List.mem_of_mem_take hx))) (m := min (i - 8 * j) 8) (by rw [List.length_take]; omega)
 exact this
theorem Qfg {h : List Int} (hh : isH h) {i : Nat} (hi : i < 32) : 0 ≤ h.getD i 0 ∧ h.getD i 0 < 256 := by
 have hl := hh.1
 exact hh.2 (h.getD i 0) (by rw [List.getD_eq_getElem?_getD, List.getElem?_eq_getElem (by omega)]; exact List.getElem_mem _)
theorem Q9P {h : List Int} (hh : isH h) {i j : Nat} (hq : i / 8 = j) (hi : i < 32) : Q0S .or .u64 (ofW h i j) (Q1W .u64 (IntKind.u64.wrap (h.getD i 0)) ((8 * (i % 8) : Nat) : Int)) = ofW h (i + 1) j := by
 have hx := Qfg hh hi
 have hr := Q4d hh i j
 rw [show min (i - 8 * j) 8 = i % 8 by omega] at hr
 rw [Qdg hh hq hi, u64_in (by omega), Qas _ (by omega), pow8]
 generalize h.getD i 0 = x at *
 generalize ofW h i j = a at *
 have hp : (256 : Int) ^ (i % 8) ≤ 72057594037927936 := by
  have h8 : i % 8 < 8 := Nat.mod_lt _ (by decide)
  generalize i % 8 = r at *
  have : r = 0 ∨ r = 1 ∨ r = 2 ∨ r = 3 ∨ r = 4 ∨ r = 5 ∨ r = 6 ∨ r = 7 := by omega
  rcases this with e | e | e | e | e | e | e | e <;> subst e <;> decide
 have hp0 : (0 : Int) < 256 ^ (i % 8) := Int.pow_pos (by decide)
 have hm : x * 256 ^ (i % 8) ≤ 255 * 256 ^ (i % 8) := Int.mul_le_mul_of_nonneg_right (by omega) (Int.le_of_lt hp0)
 have hm0 : 0 ≤ x * 256 ^ (i % 8) := Int.mul_nonneg hx.1 (Int.le_of_lt hp0)
 rw [Int.emod_eq_of_lt hm0 (by omega)]
 obtain ⟨A, rfl⟩ := Int.eq_ofNat_of_zero_le hr.1
 obtain ⟨X, rfl⟩ := Int.eq_ofNat_of_zero_le hx.1
 have e2 : ((X : Int)) * 256 ^ (i % 8) = ((X * 2 ^ (8 * (i % 8)) : Nat) : Int) := by
  rw [← pow8]; push_cast; rfl
 have e3 : ((256 : Int)) ^ (i % 8) = ((2 ^ (8 * (i % 8)) : Nat) : Int) := by
  rw [← pow8]; push_cast; rfl
 rw [e2] at hm hm0 ⊢
 rw [e3] at hp hp0 hr hm
 rw [QbR (by omega) (by omega), e3]
 push_cast
 rw [Int.mul_comm (X : Int), Int.add_comm]
theorem Qbf {k : Nat} (hk : 50 ≤ k) {h : List Int} (hh : isH h) : ∃ a b c d, Q1a k h = some ([a, b, c, d], ()) ∧ r64' a ∧ r64' b ∧ r64' c ∧ r64' d ∧ w4 a b c d = leI h := by
 have hl := hh.1
 refine ⟨ofW h 32 0, ofW h 32 1, ofW h 32 2, ofW h 32 3, ?_, ?_, ?_, ?_, ?_, ?_⟩
 ·unfold Q1a Q1a.c
  generalize hz : List.replicate 4 (0 : Int) = Z
  have l0 : Q1a.l0 k k (h, (0 : Int), Z, Z, ()) = some (Z, [ofW h 32 0, ofW h 32 1, ofW h 32 2, ofW h 32 3], ()) := by
   have := Q1r (r := Q1a.l0.r k) (fun i => (h, (i : Int), Z, [ofW h i 0, ofW h i 1, ofW h i 2, ofW h i 3], ())) 32 (Z, [ofW h 32 0, ofW h 32 1, ofW h 32 2, ofW h 32 3], ()) ?_ ?_ (fuel := k) (by omega)
   ·have e : [ofW h 0 0, ofW h 0 1, ofW h 0 2, ofW h 0 3] = Z := by rw [← hz]; rfl
    rw [← e]
    rw [← e] at this
    exact this
   ·intro i hi kn ke
    simp only [Q1a.l0.r]
    have t1 : Int.tdiv (i : Int) 8 = ((i / 8 : Nat) : Int) := by rw [Int.tdiv_eq_ediv_of_nonneg (by omega)]; omega
    have t2 : Int.tmod (i : Int) 8 = ((i % 8 : Nat) : Int) := by rw [Int.tmod_eq_emod_of_nonneg (by omega)]; omega
    rw [t1, t2, i64_in (n := ((i / 8 : Nat) : Int)) (by omega), i64_in (n := 8 * ((i % 8 : Nat) : Int)) (by omega), i64_in (n := (i : Int) + 1) (by omega)]
    rw [QI (by omega), QI (by omega), QI (by omega), QI (by omega), QI (by omega), Int.toNat_natCast, Int.toNat_natCast]
    rw [show (8 : Int) * ((i % 8 : Nat) : Int) = ((8 * (i % 8) : Nat) : Int) by push_cast; rfl]
    have : i / 8 = 0 ∨ i / 8 = 1 ∨ i / 8 = 2 ∨ i / 8 = 3 := by omega
    rcases this with q | q | q | q
    ·rw [q]
     simp only [List.getD_cons_zero, List.set_cons_zero]
     rw [Q9P hh q hi, Q2e (j := 1) (i := i) (by omega), Q2e (j := 2) (i := i) (by omega), Q2e (j := 3) (i := i) (by omega)]
     rfl
    ·rw [q]
     simp only [List.getD_cons_zero, List.getD_cons_succ, List.set_cons_zero, List.set_cons_succ]
     rw [Q9P hh q hi, Q2e (j := 0) (i := i) (by omega), Q2e (j := 2) (i := i) (by omega), Q2e (j := 3) (i := i) (by omega)]
     rfl
    ·rw [q]
     simp only [List.getD_cons_zero, List.getD_cons_succ, List.set_cons_zero, List.set_cons_succ]
     rw [Q9P hh q hi, Q2e (j := 1) (i := i) (by omega), Q2e (j := 0) (i := i) (by omega), Q2e (j := 3) (i := i) (by omega)]
     rfl
    ·rw [q]
     simp only [List.getD_cons_zero, List.getD_cons_succ, List.set_cons_zero, List.set_cons_succ]
     rw [Q9P hh q hi, Q2e (j := 1) (i := i) (by omega), Q2e (j := 2) (i := i) (by omega), Q2e (j := 0) (i := i) (by omega)]
     rfl
   ·intro kn ke
    simp only [Q1a.l0.r]
    rw [Q1c (by omega)]
  rw [l0]
  rfl
 ·have := Q4d hh 32 0; unfold r64'; simp only [Nat.reduceMul, Nat.reduceSub, Nat.reduceLeDiff, Nat.min_def, ite_false, ite_true] at this; omega
 ·have := Q4d hh 32 1; unfold r64'; simp only [Nat.reduceMul, Nat.reduceSub, Nat.reduceLeDiff, Nat.min_def, ite_false, ite_true] at this; omega
 ·have := Q4d hh 32 2; unfold r64'; simp only [Nat.reduceMul, Nat.reduceSub, Nat.reduceLeDiff, Nat.min_def, ite_false, ite_true] at this; omega
 ·have := Q4d hh 32 3; unfold r64'; simp only [Nat.reduceMul, Nat.reduceSub, Nat.reduceLeDiff, Nat.min_def, ite_false, ite_true] at this; omega
 ·unfold w4 ofW
  simp only [Nat.reduceMul, Nat.reduceSub, Nat.reduceLeDiff, Nat.min_def, ite_false, ite_true, List.drop_zero]
  have c : ∀ (l : List Int) (n : Nat), leI l = leI (l.take n) + 256 ^ (l.take n).length * leI (l.drop n) := fun l n => by
   rw [← Q4j, List.take_append_drop]
  have e0 := c h 8
  have e1 := c (h.drop 8) 8
  have e2 := c (h.drop 16) 8
  rw [List.length_take, List.drop_drop, List.length_drop, hl] at e1 e2
  rw [List.length_take, hl] at e0
  simp only [Nat.reduceAdd, Nat.reduceSub, Nat.reduceLeDiff, Nat.min_def, ite_true] at e0 e1 e2
  rw [List.take_of_length_le (l := List.drop 24 h) (by rw [List.length_drop, hl]; omega)]
  rw [e0, e1, e2]
  generalize leI (List.take 8 h) = x0
  generalize leI (List.take 8 (List.drop 8 h)) = x1
  generalize leI (List.take 8 (List.drop 16 h)) = x2
  generalize leI (List.drop 24 h) = x3
  omega
end Go.Am
set_option linter.unusedSimpArgs false
namespace Go.Am
open Go
def tVal (s : Nat) (m : Int) : Int := if s ≤ 3 then m / 256 ^ (3 - s) else m * 256 ^ (s - 3)
def tLim : Int := 8388607 * 256 ^ 29
def tS (bits : Int) : Nat := (bits / 16777216).toNat
def tM (bits : Int) : Int := bits % 8388608
theorem Qes {bits : Int} (h : 0 ≤ bits ∧ bits ≤ 4294967295) : Q0S .and .u32 bits 8388607 = tM bits := by
 obtain ⟨n, rfl⟩ := Int.eq_ofNat_of_zero_le h.1
 have := Qep (A := n) (B := 8388607) (by omega) (by decide)
 rw [show ((8388607 : Nat) : Int) = 8388607 from rfl] at this
 rw [this, show (8388607 : Nat) = 2 ^ 23 - 1 from rfl, Nat.and_two_pow_sub_one_eq_mod]
 unfold tM
 omega
theorem QeG {bits : Int} (h : 0 ≤ bits ∧ bits ≤ 4294967295) : Q1H .u32 bits 24 = (tS bits : Int) := by
 have := QbU (x := bits) (j := 24) (by decide)
 rw [show ((24 : Nat) : Int) = 24 from rfl] at this
 rw [this]
 unfold tS
 have : (2 : Int) ^ 24 = 16777216 := rfl
 rw [this]
 omega
theorem Qa6 {i j : Nat} (h : i ≤ j) : (256 : Int) ^ i ≤ 256 ^ j := by
 obtain ⟨d, rfl⟩ : ∃ d, j = i + d := ⟨j - i, by omega⟩
 rw [Int.pow_add]
 have h1 : (0 : Int) < 256 ^ i := Int.pow_pos (by decide)
 have h2 : (0 : Int) < 256 ^ d := Int.pow_pos (by decide)
 have := Int.mul_le_mul_of_nonneg_left (show (1 : Int) ≤ 256 ^ d by omega) (Int.le_of_lt h1)
 omega
theorem QdS {s : Nat} {m : Int} (hs : 36 ≤ s) (hm : 1 ≤ m) : tLim < tVal s m := by
 unfold tVal
 rw [if_neg (by omega)]
 have h1 := Qa6 (i := 33) (j := s - 3) (by omega)
 have hp : (0 : Int) < 256 ^ (s - 3) := Int.pow_pos (by decide)
 have := Int.mul_le_mul_of_nonneg_right hm (Int.le_of_lt hp)
 have e : tLim < (256 : Int) ^ 33 := by decide
 omega
theorem Qcc : ∀ (a : List Int) (i : Nat) (x : Int), i < a.length → a.getD i 0 = 0 → leI (a.set i x) = leI a + x * 256 ^ i
 | [], i, x, h, _ => by simp at h
 | y :: l, 0, x, _, h => by
  rw [List.getD_cons_zero] at h
  subst h
  show x + 256 * leI l = 0 + 256 * leI l + x * 256 ^ 0
  omega
 | y :: l, i + 1, x, h, g => by
  rw [List.getD_cons_succ] at g
  have := Qcc l i x (by simpa using h) g
  show y + 256 * leI (l.set i x) = y + 256 * leI l + x * 256 ^ (i + 1)
  rw [this, Int.pow_succ, ← Int.mul_assoc]
  omega
def putD (a : List Int) (p b : Int) : List Int := if 0 ≤ p ∧ p < 40 then a.set p.toNat b else a
def pv (p b : Int) : Int := if 0 ≤ p then b * 256 ^ p.toNat else 0
def OK40 (a : List Int) (p : Int) : Prop := a.length = 40 ∧ Q1v a ∧ ∀ j : Nat, p ≤ j → a.getD j 0 = 0
theorem Q9K {a : List Int} {p b : Int} (h : OK40 a p) (hb : 0 ≤ b ∧ b < 256) : OK40 (putD a p b) (p + 1) := by
 obtain ⟨h1, h2, h3⟩ := h
 unfold putD
 split
 case isTrue c =>
  refine ⟨by rw [List.length_set]; exact h1, fun x hx => ?_, fun j hj => ?_⟩
  ·rcases List.mem_or_eq_of_mem_set hx with g | g
   ·exact h2 x g
   ·rw [g]; exact hb
  ·rw [List.getD_eq_getElem?_getD, List.getElem?_set_ne (by omega), ← List.getD_eq_getElem?_getD]
   exact h3 j (by omega)
 case isFalse c => exact ⟨h1, h2, fun j hj => h3 j (by omega)⟩
theorem Q7R {a : List Int} {p b : Int} (h : OK40 a p) (hb : p ≥ 40 → b = 0) : leI (putD a p b) = leI a + pv p b := by
 obtain ⟨h1, h2, h3⟩ := h
 unfold putD pv
 by_cases c : 0 ≤ p
 ·by_cases c2 : p < 40
  ·rw [if_pos ⟨c, c2⟩, if_pos c, Qcc _ _ _ (by omega) (h3 _ (by omega))]
  ·rw [if_neg (by omega), if_pos c, hb (by omega)]
   omega
 ·rw [if_neg (by omega), if_neg c]
  omega
theorem QeQ {s : Nat} {m : Int} (hm : 0 ≤ m ∧ m < 8388608) : pv ((s : Int) - 3) (m % 256) + pv ((s : Int) - 3 + 1) (m / 256 % 256) + pv ((s : Int) - 3 + 2) (m / 65536 % 256) = tVal s m := by
 unfold pv tVal
 rcases Nat.lt_or_ge s 3 with c | c
 ·have : s = 0 ∨ s = 1 ∨ s = 2 := by omega
  rcases this with rfl | rfl | rfl
  ·simp; omega
  ·simp; omega
  ·simp; omega
 ·rw [if_pos (by omega), if_pos (by omega), if_pos (by omega)]
  obtain ⟨d, rfl⟩ : ∃ d, s = d + 3 := ⟨s - 3, by omega⟩
  rw [show (((d + 3 : Nat) : Int) - 3).toNat = d by omega, show (((d + 3 : Nat) : Int) - 3 + 1).toNat = d + 1 by omega, show (((d + 3 : Nat) : Int) - 3 + 2).toNat = d + 1 + 1 by omega, Int.pow_succ, Int.pow_succ, Int.pow_succ]
  have e : (if d + 3 ≤ 3 then m / 256 ^ (3 - (d + 3)) else m * 256 ^ (d + 3 - 3)) = m * 256 ^ d := by
   split
   ·have : d = 0 := by omega
    subst this
    simp
   ·rw [Nat.add_sub_cancel]
  rw [e]
  generalize (256 : Int) ^ d = P
  have e2 : m * P = (m % 256 + 256 * (m / 256 % 256) + 65536 * (m / 65536 % 256)) * P := by
   congr 1
   omega
  rw [e2, Int.add_mul, Int.add_mul, Int.mul_assoc 256, Int.mul_assoc 65536]
  rw [show m / 256 % 256 * (P * 256) = 256 * (m / 256 % 256 * P) by rw [← Int.mul_assoc, Int.mul_comm]]
  rw [show m / 65536 % 256 * (P * 256 * 256) = 65536 * (m / 65536 % 256 * P) by rw [← Int.mul_assoc, ← Int.mul_assoc]; omega]
theorem Q5L {k : Nat} {s i : Nat} (hs : s < 256) (hi : i < 3) {m : Int} (hm : 0 ≤ m ∧ m < 8388608) {Z a : List Int} {ρ : Type}
  (kn : Qt.l0.σ → Option ρ) (ke : Qt.l0.τ → Option ρ) :
  Qt.l0.r k ((s : Int), m, (i : Int), Z, a, ()) kn ke =
   if (s : Int) - 3 + i ≥ 40 ∧ m / 256 ^ i % 256 ≠ 0 then ke (.inl (false, List.replicate 40 0, ())) else kn ((s : Int), m, ((i + 1 : Nat) : Int), Z, putD a ((s : Int) - 3 + i) (m / 256 ^ i % 256), ()) := by
 simp only [Qt.l0.r]
 have h1 := QbU (x := m) (j := 8 * i) (by omega)
 rw [pow8] at h1
 rw [show (8 : Int) * (i : Int) = ((8 * i : Nat) : Int) by push_cast; rfl]
 rw [i64_in (n := (s : Int) - 3) (by omega), i64_in (n := (s : Int) - 3 + (i : Int)) (by omega), i64_in (n := ((8 * i : Nat) : Int)) (by omega), i64_in (n := (i : Int) + 1) (by omega), u64_in (n := ((8 * i : Nat) : Int)) (by omega), h1]
 have hq : 0 ≤ m / 256 ^ i := Int.ediv_nonneg hm.1 (Int.le_of_lt (Int.pow_pos (by decide)))
 generalize m / 256 ^ i = q at *
 rw [Int.tmod_eq_emod_of_nonneg hq, i64_in (n := q % 256) (by omega)]
 rw [QI (by omega), QI (by omega)]
 unfold putD
 by_cases c0 : (s : Int) - 3 + i ≥ 0
 ·rw [QI c0]
  by_cases c1 : (s : Int) - 3 + i < 40
  ·rw [QI c1, QI (by omega), Q1c (by omega), if_neg (by omega), if_pos (by omega)]
   rfl
  ·rw [Q1c c1, QI (by omega)]
   by_cases c2 : q % 256 = 0
   ·rw [c2, bne_self_eq_false, cond_false, if_neg (by omega), if_neg (by omega)]
    rfl
   ·rw [Q19 (by rw [bne_iff_ne]; exact c2), if_pos (by omega)]
 ·rw [Q1c c0, Q1c (by omega), if_neg (by omega), if_neg (by omega)]
  rfl
theorem Q6l {k : Nat} (hk : 50 ≤ k) {bits : Int} (hb : 0 ≤ bits ∧ bits ≤ 4294967295) :
  ∃ a ok, Qt k bits = some (a, ok, ()) ∧ (ok = true → a.length = 40 ∧ Q1v a ∧ leI a = tVal (tS bits) (tM bits)) ∧ (ok = false → tLim < tVal (tS bits) (tM bits)) := by
 unfold Qt Qt.c
 dsimp only
 rw [QeG hb, Qes hb]
 have hs : tS bits < 256 := by unfold tS; omega
 have hm : 0 ≤ tM bits ∧ tM bits < 8388608 := by unfold tM; omega
 generalize tS bits = s at *
 generalize tM bits = m at *
 rw [i64_in (n := (s : Int)) (by omega)]
 generalize hz : List.replicate 40 (0 : Int) = Z
 have hz0 : OK40 Z ((s : Int) - 3 + (0 : Nat)) := by
  rw [← hz]
  refine ⟨by simp, fun x hx => ?_, fun j _ => ?_⟩
  ·have := List.eq_of_mem_replicate hx
   omega
  ·rw [List.getD_eq_getElem?_getD, List.getElem?_replicate]
   split <;> rfl
 have hz1 : leI Z = 0 := by rw [← hz]; rfl
 obtain ⟨f, rfl⟩ : ∃ f, k = f + 4 := ⟨k - 4, by omega⟩
 unfold Qt.l0
 have bad : ∀ i : Nat, i < 3 → ((s : Int) - 3 + i ≥ 40 ∧ m / 256 ^ i % 256 ≠ 0) → tLim < tVal s m := by
  intro i hi h
  refine QdS (by omega) ?_
  have : m ≠ 0 := by
   rintro rfl
   simp at h
  omega
 have e0 : Q14 (Qt.l0.r (f + 4)) (f + 4) ((s : Int), m, ((0 : Nat) : Int), Z, Z, ()) = _ := Q5L (k := f + 4) hs (by decide) hm _ _
 rw [show ((0 : Nat) : Int) = 0 from rfl] at e0
 rw [e0]
 split
 case isTrue c => exact ⟨_, _, rfl, (by intro h; cases h), fun _ => bad 0 (by decide) c⟩
 case isFalse c =>
 have o1 := Q9K hz0 (b := m / 256 ^ 0 % 256) (by omega)
 have v1 := Q7R hz0 (b := m / 256 ^ 0 % 256) (by omega)
 generalize putD Z ((s : Int) - 3 + (0 : Nat)) (m / 256 ^ 0 % 256) = a1 at *
 rw [show Q14 (Qt.l0.r (f + 4)) (f + 3) ((s : Int), m, ((0 + 1 : Nat) : Int), Z, a1, ()) = _ from Q5L (k := f + 4) hs (by decide) hm _ _]
 split
 case isTrue c => exact ⟨_, _, rfl, (by intro h; cases h), fun _ => bad 1 (by decide) c⟩
 case isFalse c1 =>
 rw [show (s : Int) - 3 + (0 : Nat) + 1 = (s : Int) - 3 + (0 + 1 : Nat) by omega] at o1
 have o2 := Q9K (p := (s : Int) - 3 + (0 + 1 : Nat)) o1 (b := m / 256 ^ (0 + 1) % 256) (by omega)
 have v2 := Q7R (p := (s : Int) - 3 + (0 + 1 : Nat)) o1 (b := m / 256 ^ (0 + 1) % 256) (by omega)
 generalize putD a1 ((s : Int) - 3 + (0 + 1 : Nat)) (m / 256 ^ (0 + 1) % 256) = a2 at *
 rw [show Q14 (Qt.l0.r (f + 4)) (f + 2) ((s : Int), m, ((0 + 1 + 1 : Nat) : Int), Z, a2, ()) = _ from Q5L (k := f + 4) hs (by decide) hm _ _]
 split
 case isTrue c => exact ⟨_, _, rfl, (by intro h; cases h), fun _ => bad 2 (by decide) c⟩
 case isFalse c2 =>
 rw [show (s : Int) - 3 + (0 + 1 : Nat) + 1 = (s : Int) - 3 + (0 + 1 + 1 : Nat) by omega] at o2
 have o3 := Q9K (p := (s : Int) - 3 + (0 + 1 + 1 : Nat)) o2 (b := m / 256 ^ (0 + 1 + 1) % 256) (by omega)
 have v3 := Q7R (p := (s : Int) - 3 + (0 + 1 + 1 : Nat)) o2 (b := m / 256 ^ (0 + 1 + 1) % 256) (by omega)
 generalize putD a2 ((s : Int) - 3 + (0 + 1 + 1 : Nat)) (m / 256 ^ (0 + 1 + 1) % 256) = a3 at *
 have e3 : Q14 (Qt.l0.r (f + 4)) (f + 1) ((s : Int), m, ((0 + 1 + 1 + 1 : Nat) : Int), Z, a3, ()) = some (.inr (Z, a3, ())) := by
  show Qt.l0.r (f + 4) _ (Q14 (Qt.l0.r (f + 4)) f) some = _
  simp only [Qt.l0.r]
  rw [Q1c (by omega)]
 rw [e3]
 refine ⟨a3, true, rfl, fun _ => ⟨o3.1, o3.2.1, ?_⟩, by intro h; cases h⟩
 have := QeQ (s := s) hm
 rw [← this, v3, v2, v1, hz1]
 simp
end Go.Am
set_option linter.unusedSimpArgs false
namespace Go.Am
open Go
def Q72 (b v : Nat) : Prop := (1 ≤ v → 1 ≤ b ∧ 2 ^ (b - 1) ≤ v) ∧ v < 2 ^ b
instance (b v : Nat) : Decidable (Q72 b v) := by unfold Q72; infer_instance
set_option maxRecDepth 100000 in
theorem QdY : ∀ v : Fin 256, 0 ≤ Q1u (⟨(List.toArray (List.append (List.append [0, 1, 2, 2, 3, 3, 3, 3, 4, 4, 4, 4, 4, 4, 4, 4, 5, 5, 5, 5, 5, 5, 5, 5, 5, 5, 5, 5, 5, 5, 5, 5, 6, 6, 6, 6, 6, 6, 6, 6, 6, 6, 6, 6, 6, 6, 6, 6, 6, 6, 6, 6, 6, 6, 6, 6, 6, 6, 6, 6, 6, 6, 6, 6] [7, 7, 7, 7, 7, 7, 7, 7, 7, 7, 7, 7, 7, 7, 7, 7, 7, 7, 7, 7, 7, 7, 7, 7, 7, 7, 7, 7, 7, 7, 7, 7, 7, 7, 7, 7, 7, 7, 7, 7, 7, 7, 7, 7, 7, 7, 7, 7, 7, 7, 7, 7, 7, 7, 7, 7, 7, 7, 7, 7, 7, 7, 7, 7]) (List.append [8, 8, 8, 8, 8, 8, 8, 8, 8, 8, 8, 8, 8, 8, 8, 8, 8, 8, 8, 8, 8, 8, 8, 8, 8, 8, 8, 8, 8, 8, 8, 8, 8, 8, 8, 8, 8, 8, 8, 8, 8, 8, 8, 8, 8, 8, 8, 8, 8, 8, 8, 8, 8, 8, 8, 8, 8, 8, 8, 8, 8, 8, 8, 8] [8, 8, 8, 8, 8, 8, 8, 8, 8, 8, 8, 8, 8, 8, 8, 8, 8, 8, 8, 8, 8, 8, 8, 8, 8, 8, 8, 8, 8, 8, 8, 8, 8, 8, 8, 8, 8, 8, 8, 8, 8, 8, 8, 8, 8, 8, 8, 8, 8, 8, 8, 8, 8, 8, 8, 8, 8, 8, 8, 8, 8, 8, 8, 8])))⟩ : ByteArray) v.val ∧ Q1u (⟨(List.toArray (List.append (List.append [0, 1, 2, 2, 3, 3, 3, 3, 4, 4, 4, 4, 4, 4, 4, 4, 5, 5, 5, 5, 5, 5, 5, 5, 5, 5, 5, 5, 5, 5, 5, 5, 6, 6, 6, 6, 6, 6, 6, 6, 6, 6, 6, 6, 6, 6, 6, 6, 6, 6, 6, 6, 6, 6, 6, 6, 6, 6, 6, 6, 6, 6, 6, 6] [7, 7, 7, 7, 7, 7, 7, 7, 7, 7, 7, 7, 7, 7, 7, 7, 7, 7, 7, 7, 7, 7, 7, 7, 7, 7, 7, 7, 7, 7, 7, 7, 7, 7, 7, 7, 7, 7, 7, 7, 7, 7, 7, 7, 7, 7, 7, 7, 7, 7, 7, 7, 7, 7, 7, 7, 7, 7, 7, 7, 7, 7, 7, 7]) (List.append [8, 8, 8, 8, 8, 8, 8, 8, 8, 8, 8, 8, 8, 8, 8, 8, 8, 8, 8, 8, 8, 8, 8, 8, 8, 8, 8, 8, 8, 8, 8, 8, 8, 8, 8, 8, 8, 8, 8, 8, 8, 8, 8, 8, 8, 8, 8, 8, 8, 8, 8, 8, 8, 8, 8, 8, 8, 8, 8, 8, 8, 8, 8, 8] [8, 8, 8, 8, 8, 8, 8, 8, 8, 8, 8, 8, 8, 8, 8, 8, 8, 8, 8, 8, 8, 8, 8, 8, 8, 8, 8, 8, 8, 8, 8, 8, 8, 8, 8, 8, 8, 8, 8, 8, 8, 8, 8, 8, 8, 8, 8, 8, 8, 8, 8, 8, 8, 8, 8, 8, 8, 8, 8, 8, 8, 8, 8, 8])))⟩ : ByteArray) v.val ≤ 8 ∧ Q72 (Q1u (⟨(List.toArray (List.append (List.append [0, 1, 2, 2, 3, 3, 3, 3, 4, 4, 4, 4, 4, 4, 4, 4, 5, 5, 5, 5, 5, 5, 5, 5, 5, 5, 5, 5, 5, 5, 5, 5, 6, 6, 6, 6, 6, 6, 6, 6, 6, 6, 6, 6, 6, 6, 6, 6, 6, 6, 6, 6, 6, 6, 6, 6, 6, 6, 6, 6, 6, 6, 6, 6] [7, 7, 7, 7, 7, 7, 7, 7, 7, 7, 7, 7, 7, 7, 7, 7, 7, 7, 7, 7, 7, 7, 7, 7, 7, 7, 7, 7, 7, 7, 7, 7, 7, 7, 7, 7, 7, 7, 7, 7, 7, 7, 7, 7, 7, 7, 7, 7, 7, 7, 7, 7, 7, 7, 7, 7, 7, 7, 7, 7, 7, 7, 7, 7]) (List.append [8, 8, 8, 8, 8, 8, 8, 8, 8, 8, 8, 8, 8, 8, 8, 8, 8, 8, 8, 8, 8, 8, 8, 8, 8, 8, 8, 8, 8, 8, 8, 8, 8, 8, 8, 8, 8, 8, 8, 8, 8, 8, 8, 8, 8, 8, 8, 8, 8, 8, 8, 8, 8, 8, 8, 8, 8, 8, 8, 8, 8, 8, 8, 8] [8, 8, 8, 8, 8, 8, 8, 8, 8, 8, 8, 8, 8, 8, 8, 8, 8, 8, 8, 8, 8, 8, 8, 8, 8, 8, 8, 8, 8, 8, 8, 8, 8, 8, 8, 8, 8, 8, 8, 8, 8, 8, 8, 8, 8, 8, 8, 8, 8, 8, 8, 8, 8, 8, 8, 8, 8, 8, 8, 8, 8, 8, 8, 8])))⟩ : ByteArray) v.val).toNat v.val := by decide +kernel
theorem Q8o {v : Int} (h : 0 ≤ v ∧ v < 256) : ∃ b : Nat, Q1u (⟨(List.toArray (List.append (List.append [0, 1, 2, 2, 3, 3, 3, 3, 4, 4, 4, 4, 4, 4, 4, 4, 5, 5, 5, 5, 5, 5, 5, 5, 5, 5, 5, 5, 5, 5, 5, 5, 6, 6, 6, 6, 6, 6, 6, 6, 6, 6, 6, 6, 6, 6, 6, 6, 6, 6, 6, 6, 6, 6, 6, 6, 6, 6, 6, 6, 6, 6, 6, 6] [7, 7, 7, 7, 7, 7, 7, 7, 7, 7, 7, 7, 7, 7, 7, 7, 7, 7, 7, 7, 7, 7, 7, 7, 7, 7, 7, 7, 7, 7, 7, 7, 7, 7, 7, 7, 7, 7, 7, 7, 7, 7, 7, 7, 7, 7, 7, 7, 7, 7, 7, 7, 7, 7, 7, 7, 7, 7, 7, 7, 7, 7, 7, 7]) (List.append [8, 8, 8, 8, 8, 8, 8, 8, 8, 8, 8, 8, 8, 8, 8, 8, 8, 8, 8, 8, 8, 8, 8, 8, 8, 8, 8, 8, 8, 8, 8, 8, 8, 8, 8, 8, 8, 8, 8, 8, 8, 8, 8, 8, 8, 8, 8, 8, 8, 8, 8, 8, 8, 8, 8, 8, 8, 8, 8, 8, 8, 8, 8, 8] [8, 8, 8, 8, 8, 8, 8, 8, 8, 8, 8, 8, 8, 8, 8, 8, 8, 8, 8, 8, 8, 8, 8, 8, 8, 8, 8, 8, 8, 8, 8, 8, 8, 8, 8, 8, 8, 8, 8, 8, 8, 8, 8, 8, 8, 8, 8, 8, 8, 8, 8, 8, 8, 8, 8, 8, 8, 8, 8, 8, 8, 8, 8, 8])))⟩ : ByteArray) v.toNat = (b : Int) ∧ b ≤ 8 ∧ Q72 b v.toNat := by
 have := QdY ⟨v.toNat, by omega⟩
 exact ⟨_, (Int.toNat_of_nonneg this.1).symm, by omega, this.2.2⟩
theorem Q7d {b v s w : Nat} (h : Q72 b v) (hw : w / 2 ^ s = v) (hv : 1 ≤ v) : Q72 (s + b) w := by
 obtain ⟨h1, h2⟩ := h
 obtain ⟨h1, h3⟩ := h1 hv
 have hp : 0 < 2 ^ s := Nat.pow_pos (by decide)
 refine ⟨fun _ => ⟨by omega, ?_⟩, ?_⟩
 ·rw [show s + b - 1 = s + (b - 1) by omega, Nat.pow_add]
  have := Nat.mul_le_mul_left (2 ^ s) h3
  have h4 := Nat.mul_div_le w (2 ^ s)
  rw [hw] at h4
  omega
 ·rw [Nat.pow_add, Nat.mul_comm, ← Nat.div_lt_iff_lt_mul hp]
  omega
theorem Qdd (k : Nat) {m : Int} (h : 0 ≤ m ∧ m < 8388608) : ∃ b : Nat, Qh k m = some ((b : Int), ()) ∧ b ≤ 32 ∧ Q72 b m.toNat := by
 unfold Qh Qh.c Qh.p0 Qh.p1
 simp only [Qh.p0.r, Qh.p1.r]
 rw [Q1c (by omega)]
 simp only [Option.bind_some]
 have s16 := Q4e (x := m) (j := 16) (by decide)
 rw [show ((16 : Nat) : Int) = 16 from rfl, show (2 : Int) ^ 16 = 65536 from rfl] at s16
 have s8 := Q4e (x := m) (j := 8) (by decide)
 rw [show ((8 : Nat) : Int) = 8 from rfl, show (2 : Int) ^ 8 = 256 from rfl] at s8
 by_cases c : m ≥ 65536
 ·rw [QI c, s16]
  simp only [Option.bind_some]
  rw [Q1c (by omega), i64_in (n := 0 + 16) (by omega), u8_in (by omega), QI (by omega)]
  obtain ⟨b, h1, h2, h3⟩ := Q8o (v := m / 65536) (by omega)
  rw [h1, i64_in (n := (b : Int)) (by omega), i64_in (by omega)]
  refine ⟨16 + b, ?_, by omega, Q7d h3 (by omega) (by omega)⟩
  push_cast
  rfl
 ·rw [Q1c c]
  simp only [Option.bind_some]
  by_cases c2 : m ≥ 256
  ·rw [QI c2, s8, i64_in (n := 0 + 8) (by omega), u8_in (by omega), QI (by omega)]
   obtain ⟨b, h1, h2, h3⟩ := Q8o (v := m / 256) (by omega)
   rw [h1, i64_in (n := (b : Int)) (by omega), i64_in (by omega)]
   refine ⟨8 + b, ?_, by omega, Q7d h3 (by omega) (by omega)⟩
   push_cast
   rfl
  ·rw [Q1c c2, u8_in (by omega), QI (by omega)]
   obtain ⟨b, h1, h2, h3⟩ := Q8o (v := m) (by omega)
   rw [h1, i64_in (n := (b : Int)) (by omega), i64_in (by omega)]
   refine ⟨b, ?_, by omega, h3⟩
   rw [Int.zero_add]
theorem Qak {k : Nat} (hk : 10 ≤ k) {m : Int} (h : 0 ≤ m ∧ m < 8388608) : ∃ b : Nat, Q0F k [m, 0, 0, 0] = some ((b : Int), ()) ∧ b ≤ 32 ∧ Q72 b m.toNat := by
 unfold Q0F Q0F.c Q0F.l0
 obtain ⟨f, rfl⟩ : ∃ f, k = f + 5 := ⟨k - 5, by omega⟩
 obtain ⟨b, h1, h2, h3⟩ := Qdd (f + 5) h
 by_cases c : m = 0
 ·subst c
  refine ⟨0, ?_, by decide, by decide⟩
  simp [Q14, Q0F.l0.r, i64_in]
 ·refine ⟨b, ?_, h2, h3⟩
  simp [Q14, Q0F.l0.r, i64_in, c, h1]
  rw [Q19 (by rw [bne_iff_ne]; exact c)]
  simp
  exact i64_in (by omega)
end Go.Am
set_option linter.unusedSimpArgs false
namespace Go.Am
open Go
theorem Q5e {x : Int} (h : r64' x) : Q0S .or .u64 x 0 = x := by
 obtain ⟨X, rfl⟩ := Int.eq_ofNat_of_zero_le h.1
 unfold r64' at h
 have hX : X < 18446744073709551616 := by have := h.2; omega
 have := QbR (A := X) (B := 0) (j := 64) (by simpa using hX) (by omega)
 simpa using this
theorem QcX {x : Int} (h : r64' x) : Q0S .or .u64 0 x = x := by rw [Q6h, Q5e h]
theorem Q3J (n : Int) : Q1W .u64 0 n = 0 := by unfold Q1W; rw [Int.zero_mul]; rfl
theorem Q3D (n : Int) : Q1H .u64 0 n = 0 := by unfold Q1H; exact Int.zero_fdiv _
theorem Qfm (x n : Int) : r64' (Q1W .u64 x n) := by
 unfold Q1W r64'
 rw [Q5X]
 omega
def Q7i (a W : List Int) (q : Nat) (r : Int) (i : Nat) : List Int :=
 if q < i then W.set i (Q0S .or .u64 (Q1W .u64 (a.getD (i - q) 0) r) (Q1H .u64 (a.getD (i - q - 1) 0) (64 - r))) else W.set i (Q1W .u64 (a.getD (i - q) 0) r)
theorem QcS {k q i : Nat} {r : Int} (hq : q < 4) (hr : 0 ≤ r ∧ r < 64) (hi : q ≤ i ∧ i < 4) {a Z W : List Int} (hW : W.length = 4) {ρ : Type} (kn : Q0g.l0.σ → Option ρ) (ke : Q0g.l0.τ → Option ρ) :
  Q0g.l0.r k (64 * (q : Int) + r, (i : Int), a, Z, W, ()) kn ke = kn (64 * (q : Int) + r, (i : Int) - 1, a, Z, Q7i a W q r i, ()) := by
 simp only [Q0g.l0.r]
 have t1 : Int.tdiv (64 * (q : Int) + r) 64 = (q : Int) := by rw [Int.tdiv_eq_ediv_of_nonneg (by omega)]; omega
 have t2 : Int.tmod (64 * (q : Int) + r) 64 = r := by rw [Int.tmod_eq_emod_of_nonneg (by omega)]; omega
 rw [t1, t2, i64_in (n := (q : Int)) (by omega), i64_in (n := (i : Int) - (q : Int)) (by omega), i64_in (n := (i : Int) - (q : Int) - 1) (by omega), i64_in (n := (i : Int) - 1) (by omega), i64_in (n := 64 - r) (by omega)]
 rw [QI (by omega), QI (by omega), QI (by omega), QI (by omega), Int.toNat_natCast, show ((i : Int) - (q : Int)).toNat = i - q by omega, show ((i : Int) - (q : Int) - 1).toNat = i - q - 1 by omega]
 unfold Q7i
 by_cases c : q < i
 ·rw [QI (by omega), QI (by omega), QI (by omega), QI (by omega), QI (by omega), if_pos c]
  have : (W.set i (Q1W IntKind.u64 (a.getD (i - q) 0) r)).getD i 0 = Q1W IntKind.u64 (a.getD (i - q) 0) r := by
   rw [List.getD_eq_getElem?_getD, List.getElem?_set_self (by omega)]
   rfl
  rw [this, List.set_set]
 ·rw [Q1c (by omega), if_neg c]
theorem Qdp {k q : Nat} {r : Int} (hq : q < 4) (hr : 0 ≤ r ∧ r < 64) {a Z W : List Int} {ρ : Type} (kn : Q0g.l0.σ → Option ρ) (ke : Q0g.l0.τ → Option ρ) :
  Q0g.l0.r k (64 * (q : Int) + r, (q : Int) - 1, a, Z, W, ()) kn ke = ke (64 * (q : Int) + r, a, Z, W, ()) := by
 simp only [Q0g.l0.r]
 have t1 : Int.tdiv (64 * (q : Int) + r) 64 = (q : Int) := by rw [Int.tdiv_eq_ediv_of_nonneg (by omega)]; omega
 rw [t1, i64_in (n := (q : Int)) (by omega), Q1c (by omega)]
def Q7O (q : Nat) (lo hi : Int) : List Int :=
 match q with
 | 0 => [lo, hi, 0, 0]
 | 1 => [0, lo, hi, 0]
 | 2 => [0, 0, lo, hi]
 | _ => [0, 0, 0, lo]
theorem QcI {k q : Nat} {r m : Int} (hk : 10 ≤ k) (hq : q < 4) (hr : 0 ≤ r ∧ r < 64) (hm : r64' (Q1H .u64 m (64 - r))) (Z : List Int) :
  Q0g.l0 k k (64 * (q : Int) + r, (3 : Int), [m, 0, 0, 0], Z, List.replicate 4 0, ()) = some (64 * (q : Int) + r, [m, 0, 0, 0], Z, Q7O q (Q1W .u64 m r) (Q1H .u64 m (64 - r)), ()) := by
 have run : ∀ (d : Nat), ∀ (W : List Int) (f : Nat), W.length = 4 → q + d ≤ 4 → d < f →
   Q14 (Q0g.l0.r k) f (64 * (q : Int) + r, ((q + d : Nat) : Int) - 1, [m, 0, 0, 0], Z, W, ()) = some (64 * (q : Int) + r, [m, 0, 0, 0], Z, (List.range d).foldr (fun j W => Q7i [m, 0, 0, 0] W q r (q + j)) W, ()) := by
  intro d
  induction d with
  | zero =>
   intro W f hW hd hf
   obtain ⟨f, rfl⟩ : ∃ g, f = g + 1 := ⟨f - 1, by omega⟩
   show Q0g.l0.r k _ (Q14 (Q0g.l0.r k) f) some = _
   rw [Nat.add_zero, Qdp hq hr]
   rfl
  | succ d ih =>
   intro W f hW hd hf
   obtain ⟨f, rfl⟩ : ∃ g, f = g + 1 := ⟨f - 1, by omega⟩
   show Q0g.l0.r k _ (Q14 (Q0g.l0.r k) f) some = _
   rw [show ((q + (d + 1) : Nat) : Int) - 1 = ((q + d : Nat) : Int) by omega, QcS hq hr (by omega) hW, ih _ f (by unfold Q7i; split <;> rw [List.length_set] <;> exact hW) (by omega) (by omega)]
   rw [List.range_succ, List.foldr_append]
   rfl
 have := run (4 - q) (List.replicate 4 0) k rfl (by omega) (by omega)
 rw [show ((q + (4 - q) : Nat) : Int) - 1 = 3 by omega] at this
 unfold Q0g.l0
 rw [this]
 congr 3
 refine congrArg (fun x => (Z, x, ())) ?_
 have z := Q5e (x := 0) (by unfold r64'; omega)
 have y := QcX hm
 have : q = 0 ∨ q = 1 ∨ q = 2 ∨ q = 3 := by omega
 rcases this with rfl | rfl | rfl | rfl
 ·simp [List.range, List.range.loop, Q7i, Q7O, Q3J, Q3D, z, y]
 ·simp [List.range, List.range.loop, Q7i, Q7O, Q3J, Q3D, z, y]
 ·simp [List.range, List.range.loop, Q7i, Q7O, Q3J, Q3D, z, y]
 ·simp [List.range, List.range.loop, Q7i, Q7O, Q3J, Q3D, z, y]
theorem Qd8 {k q : Nat} {r m : Int} (hk : 10 ≤ k) (hq : q < 4) (hr : 0 ≤ r ∧ r < 64) (h : 0 ≤ m ∧ m < 8388608) :
  ∃ o, Q0g k [m, 0, 0, 0] (64 * (q : Int) + r) = some (Q7O q (Q1W .u64 m r) (Q1H .u64 m (64 - r)), o, ()) := by
 unfold Q0g Q0g.c
 rw [Q1c (by omega), Q1c (by omega)]
 have hm : r64' (Q1H .u64 m (64 - r)) := by
  have := Q4e (x := m) (j := (64 - r).toNat) (by omega)
  rw [show (((64 - r).toNat : Nat) : Int) = 64 - r by omega] at this
  rw [this]
  have hp : (0 : Int) < 2 ^ (64 - r).toNat := Int.pow_pos (by decide)
  have h1 := Int.ediv_nonneg h.1 (Int.le_of_lt hp)
  have h2 := Int.ediv_le_self ((2 : Int) ^ (64 - r).toNat) h.1
  unfold r64'
  omega
 rw [QcI hk hq hr hm]
 simp only [Option.bind_some]
 obtain ⟨b, h1, _⟩ := Qak hk h
 rw [h1]
 exact ⟨_, rfl⟩
theorem QcF {k : Nat} {n m : Int} (hk : 10 ≤ k) (hn : 0 < n ∧ n < 64) (h : r64' m) :
  Q0u k [m, 0, 0, 0] n = some ([Q1H .u64 m n, 0, 0, 0], ()) := by
 unfold Q0u Q0u.c
 rw [Q1c (by omega), Q1c (by omega)]
 obtain ⟨f, rfl⟩ : ∃ f, k = f + 6 := ⟨k - 6, by omega⟩
 have t1 : Int.tdiv n 64 = 0 := by rw [Int.tdiv_eq_ediv_of_nonneg (by omega)]; omega
 have t2 : Int.tmod n 64 = n := by rw [Int.tmod_eq_emod_of_nonneg (by omega)]; omega
 have w := i64_in (n := 64 - n) (by omega)
 have z := Q5e (x := 0) (by unfold r64'; omega)
 have hm : r64' (Q1H .u64 m n) := by
  have := Q4e (x := m) (j := n.toNat) (by omega)
  rw [show ((n.toNat : Nat) : Int) = n by omega] at this
  rw [this]
  have hp : (0 : Int) < 2 ^ n.toNat := Int.pow_pos (by decide)
  have h1 := Int.ediv_nonneg h.1 (Int.le_of_lt hp)
  have h2 := Int.ediv_le_self ((2 : Int) ^ n.toNat) h.1
  unfold r64' at *
  omega
 have y := Q5e hm
 have n0 : (0 : Int) ≤ n := by omega
 have n1 : n ≤ 64 := by omega
 simp [Q0u.l0, Q14, Q0u.l0.r, t1, t2, w, z, y, i64_in, Q3J, Q3D, n0, n1]
end Go.Am
set_option linter.unusedSimpArgs false
namespace Go.Am
open Go
theorem QcM {m : Int} {q r : Nat} (hq : q < 4) (hr : r < 64) (hm : 0 ≤ m ∧ m < 8388608) (hlt : m * 2 ^ r * 2 ^ (64 * q) < 115792089237316195423570985008687907853269984665640564039457584007913129639936) :
  ∃ a b c d, Q7O q (Q1W .u64 m (r : Int)) (Q1H .u64 m (64 - (r : Int))) = [a, b, c, d] ∧ r64' a ∧ r64' b ∧ r64' c ∧ r64' d ∧ w4 a b c d = m * 2 ^ r * 2 ^ (64 * q) := by
 have h1 := Qas m (j := r) (by omega)
 have h2 := Q4e (x := m) (j := 64 - r) (by omega)
 rw [show (((64 - r : Nat)) : Int) = 64 - (r : Int) by omega] at h2
 have e : m / 2 ^ (64 - r) = m * 2 ^ r / 18446744073709551616 := by
  have h3 := Int.mul_ediv_mul_of_pos_left m (b := 2 ^ r) ((2 : Int) ^ (64 - r)) (Int.pow_pos (by decide))
  rw [← Int.pow_add, show 64 - r + r = 64 by omega] at h3
  rw [← h3]
  rfl
 rw [h1, h2, e]
 have hX : 0 ≤ m * 2 ^ r := Int.mul_nonneg hm.1 (Int.le_of_lt (Int.pow_pos (by decide)))
 have hmr : m / 2 ^ (64 - r) = m * 2 ^ r / 18446744073709551616 := e
 generalize m * 2 ^ r = X at *
 have : q = 0 ∨ q = 1 ∨ q = 2 ∨ q = 3 := by omega
 have two0 : (2 : Int) ^ (64 * 0) = 1 := rfl
 have two1 : (2 : Int) ^ (64 * 1) = 18446744073709551616 := rfl
 have two2 : (2 : Int) ^ (64 * 2) = 340282366920938463463374607431768211456 := rfl
 have two3 : (2 : Int) ^ (64 * 3) = 6277101735386680763835789423207666416102355444464034512896 := rfl
 have hs : X / 18446744073709551616 ≤ m := by rw [← hmr]; exact Int.ediv_le_self _ hm.1
 rcases this with rfl | rfl | rfl | rfl
 ·rw [two0] at *
  exact ⟨_, _, _, _, rfl, by unfold r64'; omega, by unfold r64'; omega, by unfold r64'; omega, by unfold r64'; omega, by unfold w4; omega⟩
 ·rw [two1] at *
  exact ⟨_, _, _, _, rfl, by unfold r64'; omega, by unfold r64'; omega, by unfold r64'; omega, by unfold r64'; omega, by unfold w4; omega⟩
 ·rw [two2] at *
  exact ⟨_, _, _, _, rfl, by unfold r64'; omega, by unfold r64'; omega, by unfold r64'; omega, by unfold r64'; omega, by unfold w4; omega⟩
 ·rw [two3] at *
  exact ⟨_, _, _, _, rfl, by unfold r64'; omega, by unfold r64'; omega, by unfold r64'; omega, by unfold r64'; omega, by unfold w4; omega⟩
def isW (w : List Int) (n : Int) : Prop := ∃ a b c d, w = [a, b, c, d] ∧ r64' a ∧ r64' b ∧ r64' c ∧ r64' d ∧ w4 a b c d = n
theorem Q8N (n : Nat) : (256 : Int) ^ n = 2 ^ (8 * n) := (pow8 n).symm
theorem Q88 {k s : Nat} {m : Int} (hk : 10 ≤ k) (hs : s < 256) (h : 0 ≤ m ∧ m < 8388608) (hlt : tVal s m < 115792089237316195423570985008687907853269984665640564039457584007913129639936) (h4 : s ≤ 34) :
  ∃ w, Q0O k [m, 0, 0, 0] ((s : Int) - 3) = some (w, ()) ∧ isW w (tVal s m) := by
 unfold Q0O Q0O.c
 dsimp only
 by_cases c : s < 3
 ·rw [QI (by omega), i64_in (n := 0 - ((s : Int) - 3)) (by omega), i64_in (n := (0 - ((s : Int) - 3)) * 8) (by omega), QcF hk (by omega) (by unfold r64'; omega)]
  refine ⟨_, rfl, _, _, _, _, rfl, ?_⟩
  have h1 := Q4e (x := m) (j := 8 * (3 - s)) (by omega)
  rw [show ((8 * (3 - s) : Nat) : Int) = (0 - ((s : Int) - 3)) * 8 by omega, ← Q8N] at h1
  rw [h1]
  unfold tVal
  rw [if_pos (by omega)]
  have : s = 0 ∨ s = 1 ∨ s = 2 := by omega
  unfold r64' w4
  rcases this with rfl | rfl | rfl <;> simp <;> omega
 ·rw [Q1c (by omega), i64_in (n := ((s : Int) - 3) * 8) (by omega)]
  have e : ((s : Int) - 3) * 8 = 64 * (((s - 3) / 8 : Nat) : Int) + ((8 * ((s - 3) % 8) : Nat) : Int) := by omega
  have hv : tVal s m = m * 2 ^ (8 * ((s - 3) % 8)) * 2 ^ (64 * ((s - 3) / 8)) := by
   unfold tVal
   have : (if s ≤ 3 then m / 256 ^ (3 - s) else m * 256 ^ (s - 3)) = m * 256 ^ (s - 3) := by
    split
    ·have : s = 3 := by omega
     subst this
     simp
    ·rfl
   rw [this, Q8N, Int.mul_assoc, ← Int.pow_add]
   congr 2
   omega
  rw [hv] at hlt
  rw [e]
  obtain ⟨o, h1⟩ := Qd8 (q := (s - 3) / 8) (r := ((8 * ((s - 3) % 8) : Nat) : Int)) hk (by omega) (by omega) h
  rw [h1]
  refine ⟨_, rfl, ?_⟩
  obtain ⟨a, b, c, d, g1, g2⟩ := QcM (q := (s - 3) / 8) (r := 8 * ((s - 3) % 8)) (by omega) (by omega) h hlt
  exact ⟨a, b, c, d, g1, by rw [hv]; exact g2⟩
theorem QaB (k : Nat) {w : List Int} {n : Int} (h : isW w n) : Q1j k w = some (decide (n = 0), ()) := by
 obtain ⟨a, b, c, d, rfl, h1, h2, h3, h4, h5⟩ := h
 unfold Q1j Q1j.c
 dsimp only
 refine congrArg (fun x => some (x, ())) (decide_eq_decide.2 ?_)
 show [a, b, c, d] = [0, 0, 0, 0] ↔ _
 unfold r64' at *
 unfold w4 at h5
 constructor
 ·intro e
  cases e
  omega
 ·intro e
  have e1 : a = 0 := by omega
  have e2 : b = 0 := by omega
  have e3 : c = 0 := by omega
  have e4 : d = 0 := by omega
  rw [e1, e2, e3, e4]
theorem Q4f (b : Nat) : ((2 ^ b : Nat) : Int) = (2 : Int) ^ b := by push_cast; rfl
theorem Q9m {i j : Nat} (h : i ≤ j) : (2 : Int) ^ i ≤ 2 ^ j := by
 have := Nat.pow_le_pow_right (show 0 < 2 by decide) h
 rw [← Q4f, ← Q4f]
 omega
theorem Q5o {k : Nat} (hk : 50 ≤ k) {bits : Int} (hb : 0 ≤ bits ∧ bits ≤ 4294967295) :
  ∃ w ok, Q1h k bits = some (w, ok, ()) ∧ (ok = true → isW w (tVal (tS bits) (tM bits))) ∧ (ok = false → tLim < tVal (tS bits) (tM bits)) := by
 unfold Q1h Q1h.c
 dsimp only
 rw [QeG hb, Qes hb]
 have hs : tS bits < 256 := by unfold tS; omega
 have hm : 0 ≤ tM bits ∧ tM bits < 8388608 := by unfold tM; omega
 generalize tS bits = s at *
 generalize tM bits = m at *
 rw [i64_in (n := (s : Int)) (by omega), u64_in (by omega)]
 have hf : Q1s k m = some ([m, 0, 0, 0], ()) := rfl
 rw [hf]
 simp only [Option.bind_some]
 rw [i64_in (n := (s : Int) - 3) (by omega)]
 by_cases c : s ≤ 3
 ·rw [QI (by omega)]
  have hlt : tVal s m < 115792089237316195423570985008687907853269984665640564039457584007913129639936 := by
   unfold tVal
   rw [if_pos c]
   have := Int.ediv_le_self ((256 : Int) ^ (3 - s)) hm.1
   omega
  obtain ⟨w, h1, h2⟩ := Q88 (k := k) (by omega) hs hm hlt (by omega)
  rw [h1]
  exact ⟨_, _, rfl, fun _ => h2, by intro h; cases h⟩
 ·rw [Q1c (by omega)]
  have hw : isW [m, 0, 0, 0] m := ⟨m, 0, 0, 0, rfl, by unfold r64'; omega, by unfold r64'; omega, by unfold r64'; omega, by unfold r64'; omega, by unfold w4; omega⟩
  rw [QaB k hw]
  simp only [Option.bind_some]
  by_cases c2 : m = 0
  ·rw [QI c2]
   refine ⟨_, _, rfl, fun _ => ?_, by intro h; cases h⟩
   have : tVal s m = m := by
    unfold tVal
    rw [if_neg c, c2, Int.zero_mul]
   rw [this]
   exact hw
  ·rw [Q1c c2]
   obtain ⟨b, h1, h2, h3, h4⟩ := Qak (k := k) (by omega) hm
   obtain ⟨h5, h6⟩ := h3 (by omega)
   rw [h1]
   simp only [Option.bind_some]
   rw [i64_in (n := ((s : Int) - 3) * 8) (by omega), i64_in (by omega)]
   have hv : tVal s m = m * 2 ^ (8 * (s - 3)) := by
    unfold tVal
    rw [if_neg c, Q8N]
   have hp : (0 : Int) < 2 ^ (8 * (s - 3)) := Int.pow_pos (by decide)
   by_cases c3 : (b : Int) + ((s : Int) - 3) * 8 > 256
   ·rw [QI c3]
    refine ⟨_, _, rfl, (by intro h; cases h), fun _ => ?_⟩
    rw [hv]
    have g1 : ((2 ^ (b - 1) : Nat) : Int) ≤ m := by omega
    rw [Q4f] at g1
    have g2 := Int.mul_le_mul_of_nonneg_right g1 (Int.le_of_lt hp)
    rw [← Int.pow_add] at g2
    have g3 := Q9m (i := 256) (j := b - 1 + 8 * (s - 3)) (by omega)
    have g4 : tLim < (2 : Int) ^ 256 := by decide
    omega
   ·rw [Q1c c3]
    have hlt : tVal s m < 115792089237316195423570985008687907853269984665640564039457584007913129639936 := by
     rw [hv]
     have g1 : m < ((2 ^ b : Nat) : Int) := by omega
     rw [Q4f] at g1
     have g2 := Int.mul_lt_mul_of_pos_right g1 hp
     rw [← Int.pow_add] at g2
     have g3 := Q9m (i := b + 8 * (s - 3)) (j := 256) (by omega)
     have g4 : (2 : Int) ^ 256 = 115792089237316195423570985008687907853269984665640564039457584007913129639936 := by decide
     omega
    obtain ⟨w, h7, h8⟩ := Q88 (k := k) (by omega) hs hm hlt (by omega)
    rw [h7]
    exact ⟨_, _, rfl, fun _ => h8, by intro h; cases h⟩
end Go.Am
set_option linter.unusedSimpArgs false
namespace Go.Am
open Go
def Q6c (bits : Int) : Prop := Q0S .and .u32 bits 8388608 = 0 ∧ tVal (tS bits) (tM bits) ≠ 0 ∧ tVal (tS bits) (tM bits) ≤ tLim
instance (bits : Int) : Decidable (Q6c bits) := by unfold Q6c; infer_instance
theorem Qce : tVal (tS 545259519) (tM 545259519) = tLim := by decide
theorem QcP {k : Nat} (hk : 50 ≤ k) : ∃ w, Q16 k = some (w, ()) ∧ isW w tLim := by
 obtain ⟨w, ok, h1, h2, h3⟩ := Q5o hk (bits := 545259519) (by decide)
 rw [Qce] at h2 h3
 unfold Q16 Q16.c
 rw [h1]
 refine ⟨w, rfl, h2 ?_⟩
 cases ok with
 | true => rfl
 | false => exact absurd (h3 rfl) (Int.lt_irrefl _)
theorem Q8k {k : Nat} (hk : 50 ≤ k) : ∃ a, Q0m k = some (a, ()) ∧ a.length = 40 ∧ Q1v a ∧ leI a = tLim := by
 obtain ⟨w, ok, h1, h2, h3⟩ := Q6l hk (bits := 545259519) (by decide)
 rw [Qce] at h2 h3
 unfold Q0m Q0m.c
 rw [h1]
 refine ⟨w, rfl, h2 ?_⟩
 cases ok with
 | true => rfl
 | false => exact absurd (h3 rfl) (Int.lt_irrefl _)
theorem Qew {k : Nat} (hk : 10 ≤ k) {v w : List Int} {n m : Int} (h : isW v n) (g : isW w m) : ∃ r, Q0V k v w = some (r, ()) ∧ (r ≤ 0 ↔ n ≤ m) := by
 obtain ⟨a, b, c, d, rfl, h1, h2, h3, h4, h5⟩ := h
 obtain ⟨a', b', c', d', rfl, g1, g2, g3, g4, g5⟩ := g
 rw [← h5, ← g5]
 exact QaE hk h1 h2 h3 h4 g1 g2 g3 g4
theorem Q6w {k : Nat} (hk : 50 ≤ k) {bits : Int} (hb : 0 ≤ bits ∧ bits ≤ 4294967295) :
  (Q6c bits ∧ ∃ w, Q0U k bits = some (w, 0, ()) ∧ isW w (tVal (tS bits) (tM bits))) ∨ (¬ Q6c bits ∧ ∃ w, Q0U k bits = some (w, 50, ())) := by
 obtain ⟨w, ok, h1, h2, h3⟩ := Q5o hk hb
 unfold Q0U Q0U.c Q6c
 rw [h1]
 simp only [Option.bind_some]
 cases ok with
 | false =>
  rw [Bool.not_false, cond_true]
  exact .inr ⟨fun h => absurd (h3 rfl) (by omega), _, rfl⟩
 | true =>
  rw [Bool.not_true, cond_false]
  have h2 := h2 rfl
  by_cases c : Q0S .and .u32 bits 8388608 = 0
  ·have c' := c
   rw [c, bne_self_eq_false, cond_false, QaB k h2]
   simp only [Option.bind_some]
   by_cases c2 : tVal (tS bits) (tM bits) = 0
   ·rw [QI c2]
    exact .inr ⟨fun h => h.2.1 c2, _, rfl⟩
   ·rw [Q1c c2]
    obtain ⟨l, h4, h5⟩ := QcP hk
    rw [h4]
    simp only [Option.bind_some]
    obtain ⟨r, h6, h7⟩ := Qew (k := k) (by omega) h2 h5
    rw [h6]
    simp only [Option.bind_some]
    by_cases c3 : r ≤ 0
    ·rw [Q1c (by omega)]
     exact .inl ⟨⟨by trivial, c2, h7.1 c3⟩, w, rfl, h2⟩
    ·rw [QI (by omega)]
     exact .inr ⟨fun h => c3 (h7.2 h.2.2), _, rfl⟩
  ·rw [Q19 (by rw [bne_iff_ne]; exact c)]
   exact .inr ⟨fun h => c h.1, _, rfl⟩
theorem Q5Q : ∀ {a : List Int}, Q1v a → (a = List.replicate a.length 0 ↔ leI a = 0)
 | [], _ => by simp [leI]
 | x :: l, h => by
  have h1 := h x (by simp)
  have h0 : Q1v l := fun y hy => h y (by simp [hy])
  have h2 := Q5Q h0
  have h3 := (Q2Q h0).1
  show x :: l = 0 :: List.replicate l.length 0 ↔ x + 256 * leI l = 0
  rw [List.cons.injEq, h2]
  omega
theorem Q7t {k : Nat} (hk : 50 ≤ k) {bits : Int} (hb : 0 ≤ bits ∧ bits ≤ 4294967295) :
  (Q6c bits ∧ ∃ a, Q0a k bits = some (a, true, ()) ∧ a.length = 40 ∧ Q1v a ∧ leI a = tVal (tS bits) (tM bits)) ∨ (¬ Q6c bits ∧ ∃ w, Q0a k bits = some (w, false, ())) := by
 obtain ⟨w, ok, h1, h2, h3⟩ := Q6l hk hb
 unfold Q0a Q0a.c Q6c
 rw [h1]
 simp only [Option.bind_some]
 cases ok with
 | false =>
  rw [Bool.not_false, cond_true]
  exact .inr ⟨fun h => absurd (h3 rfl) (by omega), _, rfl⟩
 | true =>
  rw [Bool.not_true, cond_false]
  have h2 := h2 rfl
  by_cases c : Q0S .and .u32 bits 8388608 = 0
  ·have c' := c
   rw [c, bne_self_eq_false, cond_false]
   have hz : Q0y k w = some (decide (tVal (tS bits) (tM bits) = 0), ()) := by
    unfold Q0y Q0y.c
    dsimp only
    refine congrArg (fun x => some (x, ())) (decide_eq_decide.2 ?_)
    rw [← h2.2.2, ← Q5Q h2.2.1, h2.1]
   rw [hz]
   simp only [Option.bind_some]
   by_cases c2 : tVal (tS bits) (tM bits) = 0
   ·rw [QI c2]
    exact .inr ⟨fun h => h.2.1 c2, _, rfl⟩
   ·rw [Q1c c2]
    obtain ⟨l, h4, h5⟩ := Q8k hk
    rw [h4]
    simp only [Option.bind_some]
    rw [Q5v hk ⟨h5.1, h5.2.1⟩ ⟨h2.1, h2.2.1⟩, h5.2.2, h2.2.2]
    simp only [Option.bind_some]
    by_cases c3 : tLim < tVal (tS bits) (tM bits)
    ·rw [QI c3]
     exact .inr ⟨fun h => absurd c3 (by omega), _, rfl⟩
    ·rw [Q1c c3]
     exact .inl ⟨⟨by trivial, c2, by omega⟩, w, rfl, h2⟩
  ·rw [Q19 (by rw [bne_iff_ne]; exact c)]
   exact .inr ⟨fun h => c h.1, _, rfl⟩
def Q6D (id : List Int) (bits : Int) : Bool := decide (Q6c bits ∧ leI id ≤ tVal (tS bits) (tM bits))
theorem Q7w {k : Nat} (hk : 50 ≤ k) {id : List Int} (hi : isH id) {bits : Int} (hb : 0 ≤ bits ∧ bits ≤ 4294967295) : Q17 k id bits = some (Q6D id bits, ()) := by
 unfold Q17 Q17.c Q6D
 rcases Q6w hk hb with ⟨h1, w, h2, h3⟩ | ⟨h1, w, h2⟩
 ·rw [h2]
  simp only [Option.bind_some]
  rw [Q19 (by rfl)]
  obtain ⟨a, b, c, d, e1, e2⟩ := Qbf hk hi
  rw [e1]
  simp only [Option.bind_some]
  obtain ⟨r, h6, h7⟩ := Qew (k := k) (by omega) (v := [a, b, c, d]) (n := leI id) ⟨a, b, c, d, rfl, e2⟩ h3
  rw [h6]
  simp only [Option.bind_some]
  refine congrArg (fun x => some (x, ())) (decide_eq_decide.2 ?_)
  rw [h7]
  exact ⟨fun h => ⟨h1, h⟩, fun h => h.2⟩
 ·rw [h2]
  simp only [Option.bind_some]
  rw [Q3V (by rfl), decide_eq_false fun h => h1 h.1]
theorem Q82 {k : Nat} (hk : 50 ≤ k) {id : List Int} (hi : isH id) {bits : Int} (hb : 0 ≤ bits ∧ bits ≤ 4294967295) : Q0n k id bits = some (Q6D id bits, ()) := by
 unfold Q0n Q0n.c Q6D
 rcases Q7t hk hb with ⟨h1, w, h2, h3⟩ | ⟨h1, w, h2⟩
 ·rw [h2]
  simp only [Option.bind_some]
  rw [cond_true, QaJ hk hi]
  simp only [Option.bind_some]
  have hz : (id ++ List.replicate 8 0).length = 40 := by rw [List.length_append, hi.1]; rfl
  rw [Q5v hk ⟨h3.1, h3.2.1⟩ ⟨hz, fun x hx => by
   rcases List.mem_append.1 hx with g | g
   ·exact hi.2 x g
   ·have := List.eq_of_mem_replicate g
    omega⟩, QcT, h3.2.2]
  simp only [Option.bind_some]
  refine congrArg (fun x => some (x, ())) ?_
  by_cases c : tVal (tS bits) (tM bits) < leI id
  ·rw [decide_eq_true c, decide_eq_false (by omega)]
   rfl
  ·rw [decide_eq_false c, decide_eq_true ⟨h1, by omega⟩]
   rfl
 ·rw [h2]
  simp only [Option.bind_some]
  rw [cond_false, decide_eq_false fun h => h1 h.1]
end Go.Am
set_option linter.unusedSimpArgs false
namespace Go.Am
open Go
theorem QaU (h : THd) : isH (hidS h) := ⟨Q4L _, fun x hx => by have := Qcb _ x hx; omega⟩
theorem Q87 {k : Nat} (hk : 300 ≤ k) {h : THd} (hh : HdOK h) : Q0Y k h = some (Q6D (hidS h) h.2.2.2.2.1, ()) := by
 unfold Q0Y Q0Y.c
 show (Q1p k h).bind _ = _
 rw [Q76 hk hh]
 simp only [Option.bind_some]
 rw [Q7w (by omega) (QaU h) hh.bits]
 rfl
theorem Q8J {k : Nat} (hk : 300 ≤ k) {h : THd} (hh : HdOK h) : Q0i k h = some (Q6D (hidS h) h.2.2.2.2.1, ()) := by
 unfold Q0i Q0i.c
 show (Q0z k h).bind _ = _
 rw [Q78 hk hh]
 simp only [Option.bind_some]
 rw [Q82 (by omega) (QaU h) hh.bits]
 rfl
theorem Q7v {k : Nat} (hk : k = 140737488355328) (haw : Q0e k = some (true, ())) {h : THd} (hh : HdOK h) {s : ByteArray} (hs : s.size ≤ 140737488351232) (a : Int) :
  QS k h s a = some (true, ()) := by
 have hk3 : 300 ≤ k := by omega
 have hl := Q34 hh
 clear hk
 unfold QS QS.c
 show (Q18 k h).bind _ = _
 rw [Q5l (by omega) hh]
 simp only [Option.bind_some]
 rw [Q3T (by omega) hs a]
 simp only [Option.bind_some]
 rw [Q5P (by omega) hs a]
 simp only [Option.bind_some]
 rw [Q19 (Q1J (by rw [Q0N]; omega))]
 have e : (⟨List.toArray [120]⟩ : ByteArray) ++ bytesOf (Q2l h) = bytesOf ([120] ++ Q2l h) := by
  rw [← Q1g]
  rfl
 rw [e, Q3T (by omega) (by rw [Q0N, List.length_append]; simp only [List.length_cons, List.length_nil]; omega) 1, Qdv hh]
 simp only [Option.bind_some]
 show (Q1p k h).bind _ = _
 rw [Q76 hk3 hh]
 simp only [Option.bind_some]
 rw [haw]
 simp only [Option.bind_some, cond_true]
 have hd : ∀ g : THd, Q08 k g = some (g, ()) := fun g => rfl
 show (Q08 k h).bind _ = _
 rw [hd]
 simp only [Option.bind_some]
 show (Q03 k h).bind _ = _
 rw [Q5s (by omega) hh]
 simp only [Option.bind_some, Q7S, cond_true]
 show (Q08 k (thS s a).1).bind _ = _
 rw [hd]
 simp only [Option.bind_some]
 simp only [beq_self_eq_true, decide_true, Bool.and_true, cond_true]
 show (Q0z k h).bind _ = _
 rw [Q78 hk3 hh]
 simp only [Option.bind_some, decide_true, cond_true]
 show (Q0Y k h).bind _ = _
 rw [Q87 hk3 hh]
 simp only [Option.bind_some]
 show (Q0i k h).bind _ = _
 rw [Q8J hk3 hh]
 simp only [Option.bind_some, beq_self_eq_true]
end Go.Am
namespace Go.Am
open Go
theorem Qeo : Q0e 140737488355328 = some (true, ()) := by kernel_rfl
end Go.Am
namespace Go.Am
open Go
abbrev inTy : Ty := .pair (.pair (.arr 32 (.int .u8)) (.pair (.int .u32) .unit)) (.pair .str (.pair (.int .u32) .unit))
abbrev Qet : Ty := .pair (.int .u64) (.pair .str .unit)
abbrev txTy : Ty := .pair (.int .u32) (.pair (.sl inTy) (.pair (.sl Qet) (.pair (.int .u32) .unit)))
theorem Qa4 {N : Nat} {l : List Int} (h : WF N (.arr 32 (.int .u8)) l) : l.length = 32 ∧ Q1v l :=
 ⟨h.1, Qd3 (p := fun x => 0 ≤ x ∧ x < 256) fun i hi => by
  have := Qff (h.2 i (by have := h.1; omega))
  have e : l.getD i (Ty.zero (.int .u8)) = l.getD i 0 := rfl
  rw [e] at this
  omega⟩
theorem Q4S {N : Nat} {x : Int} (h : WF N (.int .u32) x) : u32R x := QeM h
theorem Qe6 {N : Nat} {x : TIn} (h : WF N inTy x) : InOK x := ⟨Qa4 h.1.1, Q4S (N := N) h.1.2.1, Q4S (N := N) h.2.2.1⟩
theorem Qdl {N : Nat} {x : TOut} (h : WF N Qet x) : QeC x := Qf4 h.1
theorem Qfl {N : Nat} (hN : N ≤ 140737488355328) {t : TTx} (h : WF N txTy t) : TxOK t where
 v := Q4S (N := N) h.1
 tm := Q4S (N := N) h.2.2.2.1
 ins := fun i hi => Qe6 (h.2.1.2 i hi)
 outs := fun i hi => Qdl (h.2.2.1.2 i hi)
 nin := Nat.le_trans h.2.1.1 hN
 nout := Nat.le_trans h.2.2.1.1 hN
end Go.Am
