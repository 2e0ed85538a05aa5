/- A part of a proof: a machine of abstract values that tells what functions of the program compute, and the plain facts on them. -/
import Derived.Test.YtpcjmcpghhmidaaAm12
import Derived.Test.YtpcjmcpghhmidaaAm11
import Derived.KernelRfl
import Derived.Test.YtpcjmcpghhmidaaAm10
set_option linter.unusedVariables false
set_option linter.unusedSimpArgs false
set_option linter.unnecessarySimpa false
set_option linter.unusedSectionVars false
namespace Go.Am
abbrev Qhe : Ty := (.arr 32 (.int .u8))
abbrev Qhd : Type := (List (Int × (ByteArray × Unit)))
abbrev Qhc : Ty := (.sl (.pair (.int .u64) (.pair .str .unit)))
abbrev Qhb : Type := (List ((List Int) × (Int × (ByteArray × (Int × Unit)))))
abbrev Qha : Type := (List (((List Int) × (Int × Unit)) × (ByteArray × (Int × Unit))))
abbrev Qh9 : Ty := (.sl (.pair  Qhe  (.pair (.int .u32) (.pair .str (.pair (.int .u32) .unit)))))
abbrev Qh8 : Ty := (.sl (.pair (.pair  Qhe  (.pair (.int .u32) .unit)) (.pair .str (.pair (.int .u32) .unit))))
abbrev Qh7 : Type := (Int × ( Qhb  × ( Qhd  × (Int × Unit))))
abbrev Qh6 : Type := ( Qh7  × Unit)
abbrev Qh5 : Type := (Int × ( Qha  × ( Qhd  × (Int × Unit))))
abbrev Qh4 : Type := (ByteArray ×  Qh7  × Unit)
abbrev Qh3 : Ty := (.pair (.int .u32) (.pair  Qh9  (.pair  Qhc  (.pair (.int .u32) .unit))))
abbrev Qh2 : Ty := (.pair (.int .u32) (.pair  Qh8  (.pair  Qhc  (.pair (.int .u32) .unit))))
end Go.Am
namespace Go.Am
open Go
structure RdA (x : Tk) (A R : List Int) : Prop where
 ok : TkOK x
 err : x.2.2.2.1 = 0
 left : tkL x = A ++ R
 room : (x.2.2.1 - x.2.1) + A.length ≤ 4096
theorem RdA.at_ {x : Tk} {A R : List Int} (h : RdA x A R) : x.2.2.1 = (x.1.size : Int) - A.length - R.length := by
 have h1 := Q2u h.ok
 rw [h.left, List.length_append] at h1
 omega
theorem Q6r {x : Tk} (h : TkOK x) {n : Nat} (he : (QC x (n : Int)).1.2.2.2.1 = 0) : tkL (QC x (n : Int)).1 = (tkL x).drop n ∧ QB (QC x (n : Int)).2 = (tkL x).take n := by
 obtain ⟨z0, z1, z2, z3, z4⟩ := Q2b h (n := (n : Int)) (by omega) he
 obtain ⟨h1, h2, h3, h4⟩ := h
 constructor
 ·rw [z1]
  show List.drop (x.2.2.1 + (n : Int)).toNat (QB x.1) = _
  rw [List.drop_drop, show (x.2.2.1 + (n : Int)).toNat = x.2.2.1.toNat + n by omega]
 ·rw [z4]
  rfl
theorem Q64 {x : Tk} {A1 A2 R : List Int} {n : Nat} (h : RdA x (A1 ++ A2) R) (hn : A1.length = n) : RdA (QC x (n : Int)).1 A2 R ∧ (QC x (n : Int)).1.1 = x.1 ∧ QB (QC x (n : Int)).2 = A1 := by
 obtain ⟨ok, err, left, room⟩ := h
 have hl := Q2u ok
 rw [left] at hl
 simp only [List.length_append] at hl room
 have he : (QC x (n : Int)).1 = (x.1, x.2.1, x.2.2.1 + (n : Int), x.2.2.2.1, ()) := by
  unfold QC
  rw [if_neg (by simpa using err), if_neg (by omega), if_neg (by omega)]
 have he0 : (QC x (n : Int)).1.2.2.2.1 = 0 := by rw [he]; exact err
 obtain ⟨s1, s2⟩ := Q6r ok he0
 have k := Q0H ok (n := (n : Int)) (by omega)
 refine ⟨⟨k.1, he0, ?_, ?_⟩, k.2.1, ?_⟩
 ·rw [s1, left, List.append_assoc, ← hn, List.drop_left]
 ·rw [he]
  dsimp only
  omega
 ·rw [s2, left, List.append_assoc, ← hn, List.take_left]
theorem Q91 {x : Tk} {A2 R : List Int} {v : Int} {n : Nat} (h : RdA x (lowI v n ++ A2) R) (hv : 0 ≤ v ∧ v < 256 ^ n) : RdA (Q08 x (n : Int)).1 A2 R ∧ (Q08 x (n : Int)).1.1 = x.1 ∧ (Q08 x (n : Int)).2 = v := by
 obtain ⟨h1, h2, h3⟩ := Q64 h (Q0B v n)
 refine ⟨h1, h2, ?_⟩
 unfold Q08
 dsimp only
 rw [h3, Q6J, Int.emod_eq_of_lt hv.1 hv.2]
theorem Qas (v : Int) (hv : 0 ≤ v ∧ v ≤ 18446744073709551615) : ∃ b l, Q17 v = b :: l ∧ l.length = cm b ∧ (if cm b = 0 then b else leI l) = v ∧ Q1d v = 1 + (cm b : Int) := by
 unfold Q17 Q1d
 by_cases h1 : v < 253
 ·rw [if_pos h1, if_pos h1]
  refine ⟨v, [], ?_, ?_⟩
  ·simp only [lowI]
   rw [show v % 256 = v by omega]
  ·have : cm v = 0 := by unfold cm; rw [if_neg (by omega), if_neg (by omega), if_neg (by omega)]
   rw [this]
   exact ⟨rfl, by simp, by simp⟩
 ·rw [if_neg h1, if_neg h1]
  by_cases h2 : v < 65536
  ·rw [if_pos h2, if_pos h2]
   refine ⟨253, lowI v 2, rfl, Q0B v 2, ?_, by unfold cm; simp⟩
   rw [if_neg (by unfold cm; simp), Q6J, Int.emod_eq_of_lt hv.1 (by omega)]
  ·rw [if_neg h2, if_neg h2]
   by_cases h3 : v < 4294967296
   ·rw [if_pos h3, if_pos h3]
    refine ⟨254, lowI v 4, rfl, Q0B v 4, ?_, by unfold cm; simp⟩
    rw [if_neg (by unfold cm; simp), Q6J, Int.emod_eq_of_lt hv.1 (by omega)]
   ·rw [if_neg h3, if_neg h3]
    refine ⟨255, lowI v 8, rfl, Q0B v 8, ?_, by unfold cm; simp⟩
    rw [if_neg (by unfold cm; simp), Q6J, Int.emod_eq_of_lt hv.1 (by omega)]
theorem Q9c {x : Tk} {A2 R : List Int} {v most e : Int} (h : RdA x (Q17 v ++ A2) R) (hv : 0 ≤ v ∧ v ≤ most) (hm : most ≤ 4096) : RdA (QN x most e).1 A2 R ∧ (QN x most e).1.1 = x.1 ∧ (QN x most e).2 = v := by
 obtain ⟨b, l, hb, hl, hval, hlong⟩ := Qas v (by omega)
 have hL : tkL x = b :: (l ++ A2 ++ R) := by rw [h.left, hb]; simp
 have hh : (tkL x).headD 0 = b := by rw [hL]; rfl
 have hlen : (Q17 v).length = 1 + cm b := by rw [hb, List.length_cons, hl]; omega
 obtain ⟨h1, h2, h3⟩ := Q64 (n := 1 + cm b) h hlen
 have hV : tkV x = v := by
  unfold tkV
  rw [hh, ← hval]
  by_cases c : cm b = 0
  ·rw [if_pos c, if_pos c]
  ·rw [if_neg c, if_neg c]
   congr 1
   rw [hL, List.drop_succ_cons, List.drop_zero, List.append_assoc, ← hl, List.take_left]
 have e1 : QN x most e = ((QC x ((1 + cm b : Nat) : Int)).1, v) := by
  unfold QN
  rw [if_neg (by simpa using h.err)]
  dsimp only
  rw [hh, show 1 + (cm b : Int) = ((1 + cm b : Nat) : Int) by omega, if_neg (by simpa using h1.err), hV, if_neg (by rw [hlong]; simp), if_neg (by omega)]
 rw [e1]
 exact ⟨h1, h2, rfl⟩
theorem QdX {x : Tk} {A2 R : List Int} {s : ByteArray} (h : RdA x (Q2X s ++ A2) R) (hs : s.size ≤ 520) :
  RdA (QC (QN x 520 100).1 (QN x 520 100).2).1 A2 R ∧ (QC (QN x 520 100).1 (QN x 520 100).2).1.1 = x.1 ∧ (QC (QN x 520 100).1 (QN x 520 100).2).2 = s := by
 unfold Q2X at h
 rw [List.append_assoc] at h
 obtain ⟨h1, h2, h3⟩ := Q9c (most := 520) (e := 100) h ⟨by omega, by omega⟩ (by omega)
 rw [h3]
 obtain ⟨h4, h5, h6⟩ := Q64 (n := s.size) h1 (Q0i s)
 exact ⟨h4, h5.trans h2, Q54 h6⟩
theorem Qg3 {x : Tk} {A2 R : List Int} {i : TIn} (h : RdA x (Q1k i ++ A2) R) (hi : InOK i) (hs : i.2.1.size ≤ 520) : RdA (Q1B x).1 A2 R ∧ (Q1B x).1.1 = x.1 ∧ (Q1B x).2 = i := by
 obtain ⟨⟨hash, idx, u⟩, key, sq, u'⟩ := i
 obtain ⟨⟨q1, q2⟩, q3, q4⟩ := hi
 dsimp only at q1 q2 q3 q4 hs
 have e256 : (256 : Int) ^ 4 = 4294967296 := by decide
 unfold Q1k at h
 dsimp only at h
 rw [List.take_of_length_le (by omega)] at h
 simp only [List.append_assoc] at h
 obtain ⟨a1, a2, a3⟩ := Q64 (n := 32) h q1
 obtain ⟨b1, b2, b3⟩ := Q91 (n := 4) a1 ⟨q3.1, by rw [e256]; have := q3.2; omega⟩
 obtain ⟨c1, c2, c3⟩ := QdX b1 hs
 obtain ⟨d1, d2, d3⟩ := Q91 (n := 4) c1 ⟨q4.1, by rw [e256]; have := q4.2; omega⟩
 refine ⟨d1, d2.trans (c2.trans (b2.trans a2)), ?_⟩
 have hz : (QC x ((32 : Nat) : Int)).2.size = 32 := by rw [← Q0i, a3]; exact q1
 have hh : Q3p (QC x 32).2 = hash := by
  unfold Q3p
  rw [if_pos (show (QC x 32).2.size = 32 from hz)]
  exact a3
 unfold Q1B
 dsimp only
 rw [hh]
 exact Prod.ext (Prod.ext rfl (Prod.ext b3 rfl)) (Prod.ext c3 (Prod.ext d3 rfl))
theorem QfM {x : Tk} {A2 R : List Int} {i : TOut} (h : RdA x (Q1b i ++ A2) R) (hi : Q5y i) (hs : i.2.1.size ≤ 520) : RdA (Q1s x).1 A2 R ∧ (Q1s x).1.1 = x.1 ∧ (Q1s x).2 = i := by
 obtain ⟨v, s, u⟩ := i
 obtain ⟨q1, q2⟩ := hi
 dsimp only at q1 q2 hs
 have e256 : (256 : Int) ^ 8 = 18446744073709551616 := by decide
 unfold Q1b at h
 dsimp only at h
 simp only [List.append_assoc] at h
 obtain ⟨b1, b2, b3⟩ := Q91 (n := 8) h ⟨q1, by rw [e256]; omega⟩
 obtain ⟨c1, c2, c3⟩ := QdX b1 hs
 refine ⟨c1, c2.trans b2, ?_⟩
 unfold Q1s
 dsimp only
 exact Prod.ext b3 (Prod.ext c3 rfl)
theorem Q8x {α : Type} {f : Tk → Tk × α} {enc : α → List Int} {p : α → Prop} (hf : ∀ {x : Tk} {A2 R : List Int} {i : α}, RdA x (enc i ++ A2) R → p i → RdA (f x).1 A2 R ∧ (f x).1.1 = x.1 ∧ (f x).2 = i) :
  ∀ (l2 l1 : List α) {x : Tk} {A2 R : List Int}, RdA x ((l2.map enc).flatten ++ A2) R → (∀ i ∈ l2, p i) → RdA (Q0R f l2.length x l1).1 A2 R ∧ (Q0R f l2.length x l1).1.1 = x.1 ∧ (Q0R f l2.length x l1).2 = l1 ++ l2
 | [], l1, x, A2, R, h, _ => ⟨h, rfl, by simp [Q0R]⟩
 | i :: l2, l1, x, A2, R, h, hp => by
  simp only [List.map_cons, List.flatten_cons, List.append_assoc] at h
  obtain ⟨h1, h2, h3⟩ := hf h (hp i (by simp))
  obtain ⟨g1, g2, g3⟩ := Q8x hf l2 (l1 ++ [i]) h1 fun j hj => hp j (by simp [hj])
  have e : Q0R f (i :: l2).length x l1 = Q0R f l2.length (f x).1 (l1 ++ [i]) := by
   show Q0R f (l2.length + 1) x l1 = _
   conv => lhs; unfold Q0R
   rw [if_neg (by simpa using h.err), h3]
  rw [e]
  exact ⟨g1, g2.trans h2, by rw [g3, List.append_assoc]; rfl⟩
theorem Qbn {α : Type} {p : α → Prop} {l : List α} {d : α} (h : ∀ i, i < l.length → p (l.getD i d)) : ∀ x ∈ l, p x := by
 intro x hx
 obtain ⟨i, hi, rfl⟩ := List.getElem_of_mem hx
 have := h i hi
 rwa [List.getD_eq_getElem?_getD, List.getElem?_eq_getElem hi] at this
theorem Q6e {α : Type} {p : α → Prop} {l : List α} {d : α} (h : ∀ x ∈ l, p x) : ∀ i, i < l.length → p (l.getD i d) := by
 intro i hi
 rw [List.getD_eq_getElem?_getD, List.getElem?_eq_getElem hi]
 exact h _ (List.getElem_mem hi)
theorem QfW {t : TTx} (ht : TxOK t) (hs : scOK t) (hl : (encL t).length ≤ 4096) {a r : ByteArray} (ha : a.size + r.size ≤ 4611686018427383808) :
  Q12 (a ++ bytesOf (encL t) ++ r) (a.size : Int) = (t, (a.size : Int) + (encL t).length, 0) := by
 obtain ⟨v, ins, outs, tm, u⟩ := t
 obtain ⟨hv, htm, hi, ho, hni, hno⟩ := id ht
 dsimp only at hv htm hi ho hni hno
 have hin := Qau ht
 have hT : QB (a ++ bytesOf (encL (v, ins, outs, tm, u)) ++ r) = QB a ++ (encL (v, ins, outs, tm, u) ++ QB r) := by
  rw [Q3F, Q3F, Q1D hin, List.append_assoc]
 have hsz : (a ++ bytesOf (encL (v, ins, outs, tm, u)) ++ r).size = a.size + (encL (v, ins, outs, tm, u)).length + r.size := by
  rw [ByteArray.size_append, ByteArray.size_append, Q0A]
 have hE : encL (v, ins, outs, tm, u) = lowI v 4 ++ (Q17 (ins.length : Int) ++ ((ins.map Q1k).flatten ++ (Q17 (outs.length : Int) ++ ((outs.map Q1b).flatten ++ (lowI tm 4 ++ []))))) := by
  unfold encL Q5Q Q4q
  rw [Q7W, Q7W]
  simp only [List.append_assoc, List.append_nil]
 have e256 : (256 : Int) ^ 4 = 4294967296 := by decide
 have hx : RdA (a ++ bytesOf (encL (v, ins, outs, tm, u)) ++ r, (a.size : Int), (a.size : Int), 0, ()) (lowI v 4 ++ (Q17 (ins.length : Int) ++ ((ins.map Q1k).flatten ++ (Q17 (outs.length : Int) ++ ((outs.map Q1b).flatten ++ (lowI tm 4 ++ [])))))) (QB r) := by
  refine ⟨⟨by dsimp only; omega, by dsimp only; omega, by dsimp only; omega, by dsimp only; omega⟩, rfl, ?_, ?_⟩
  ·rw [← hE]
   show List.drop (a.size : Int).toNat (QB _) = _
   rw [hT, show (a.size : Int).toNat = (QB a).length by rw [Q0i]; omega, List.drop_left]
  ·rw [← hE]
   dsimp only
   omega
 have hlen := Q3l (v, ins, outs, tm, u)
 dsimp only at hlen
 have hci : ins.length ≤ 4096 := by
  have := Qcn (f := Q1k) (d := dIn) (l := ins) (m := 1) (fun x => by unfold Q1k; simp only [List.length_append, Q0B]; omega) ins.length
  omega
 have hco : outs.length ≤ 4096 := by
  have := Qcn (f := Q1b) (d := dOut) (l := outs) (m := 1) (fun x => by unfold Q1b; simp only [List.length_append, Q0B]; omega) outs.length
  omega
 obtain ⟨a1, a2, a3⟩ := Q91 (n := 4) hx ⟨hv.1, by rw [e256]; have := hv.2; omega⟩
 obtain ⟨b1, b2, b3⟩ := Q9c (most := 4096) (e := 5) a1 ⟨by omega, by omega⟩ (by omega)
 obtain ⟨c1, c2, c3⟩ := Q8x (f := Q1B) (p := fun i => InOK i ∧ i.2.1.size ≤ 520) (fun h hp => Qg3 h hp.1 hp.2) ins [] b1 (Qbn fun i h => ⟨hi i h, hs.1 i h⟩)
 obtain ⟨d1, d2, d3⟩ := Q9c (most := 4096) (e := 5) c1 ⟨by omega, by omega⟩ (by omega)
 obtain ⟨e1, e2, e3⟩ := Q8x (f := Q1s) (p := fun i => Q5y i ∧ i.2.1.size ≤ 520) (fun h hp => QfM h hp.1 hp.2) outs [] d1 (Qbn fun i h => ⟨ho i h, hs.2 i h⟩)
 obtain ⟨f1, f2, f3⟩ := Q91 (n := 4) e1 ⟨htm.1, by rw [e256]; have := htm.2; omega⟩
 have hat := f1.at_
 have htxt := f2.trans (e2.trans (d2.trans (c2.trans (b2.trans a2))))
 unfold Q12
 rw [if_neg (by omega)]
 dsimp only
 have b3' : (QN (Q08 (a ++ bytesOf (encL (v, ins, outs, tm, u)) ++ r, (a.size : Int), (a.size : Int), 0, ()) 4).1 4096 5).2.toNat = ins.length := by
  have : (QN (Q08 (a ++ bytesOf (encL (v, ins, outs, tm, u)) ++ r, (a.size : Int), (a.size : Int), 0, ()) ((4 : Nat) : Int)).1 4096 5).2.toNat = ins.length := by rw [b3]; omega
  exact this
 rw [b3']
 have d3' : (QN (Q0R Q1B ins.length (QN (Q08 (a ++ bytesOf (encL (v, ins, outs, tm, u)) ++ r, (a.size : Int), (a.size : Int), 0, ()) 4).1 4096 5).1 []).1 4096 5).2.toNat = outs.length := by
  have : (QN (Q0R Q1B ins.length (QN (Q08 (a ++ bytesOf (encL (v, ins, outs, tm, u)) ++ r, (a.size : Int), (a.size : Int), 0, ()) ((4 : Nat) : Int)).1 4096 5).1 []).1 4096 5).2.toNat = outs.length := by rw [d3]; omega
  exact this
 rw [d3']
 have f1' := f1.err
 rw [if_neg (by simpa using f1')]
 rw [htxt] at hat
 refine Prod.ext (Prod.ext a3 (Prod.ext (c3.trans (List.nil_append _)) (Prod.ext (e3.trans (List.nil_append _)) (Prod.ext f3 rfl)))) (Prod.ext ?_ rfl)
 refine hat.trans ?_
 dsimp only
 rw [hsz, List.length_nil, Q0i]
 omega
theorem Q3T {x : Tk} (h : TkOK x) {n : Nat} (he : (Q08 x (n : Int)).1.2.2.2.1 = 0) : x.2.2.2.1 = 0 ∧ tkL x = lowI (Q08 x (n : Int)).2 n ++ tkL (Q08 x (n : Int)).1 ∧ (Q08 x (n : Int)).1.2.2.1 - (Q08 x (n : Int)).1.2.1 ≤ 4096 ∧ (Q08 x (n : Int)).1.1 = x.1 := by
 obtain ⟨z0, z1, z2, z3, z4⟩ := Q2b h (n := (n : Int)) (by omega) he
 obtain ⟨s1, s2⟩ := Q6r h he
 have hl := Q2u h
 refine ⟨z0, ?_, ?_, (Q0H h (by omega)).2.1⟩
 ·have hlen : (QB (QC x (n : Int)).2).length = n := by rw [s2, List.length_take]; omega
  have := Qbf (Q2a (QC x (n : Int)).2)
  rw [hlen] at this
  unfold Q08
  dsimp only
  rw [this, s2, s1, List.take_append_drop]
 ·unfold Q08
  dsimp only
  rw [z1]
  dsimp only
  omega
theorem Q68 {x : Tk} (h : TkOK x) {n : Nat} (he : (QC x (n : Int)).1.2.2.2.1 = 0) : x.2.2.2.1 = 0 ∧ tkL x = QB (QC x (n : Int)).2 ++ tkL (QC x (n : Int)).1 ∧ (QC x (n : Int)).2.size = n := by
 obtain ⟨z0, z1, z2, z3, z4⟩ := Q2b h (n := (n : Int)) (by omega) he
 obtain ⟨s1, s2⟩ := Q6r h he
 have hl := Q2u h
 have hlen : (QB (QC x (n : Int)).2).length = n := by rw [s2, List.length_take]; omega
 exact ⟨z0, by rw [s2, s1, List.take_append_drop], by rw [← Q0i]; exact hlen⟩
theorem Q4k {x : Tk} (h : TkOK x) {most e : Int} (he0 : e ≠ 0) (he : (QN x most e).1.2.2.2.1 = 0) : x.2.2.2.1 = 0 ∧ tkL x = Q17 (QN x most e).2 ++ tkL (QN x most e).1 ∧ 0 ≤ (QN x most e).2 ∧ (QN x most e).2 ≤ most := by
 have hr := Q4c (x := x)
 unfold QN at he ⊢
 by_cases c0 : x.2.2.2.1 ≠ 0
 ·rw [if_pos c0] at he; exact absurd he c0
 ·rw [if_neg c0] at he ⊢
  dsimp only at he ⊢
  by_cases c1 : (QC x (1 + (cm ((tkL x).headD 0) : Int))).1.2.2.2.1 ≠ 0
  ·rw [if_pos c1] at he; exact absurd he c1
  ·rw [if_neg c1] at he ⊢
   have c1' : (QC x (1 + (cm ((tkL x).headD 0) : Int))).1.2.2.2.1 = 0 := by simpa using c1
   by_cases c2 : Q1d (tkV x) ≠ 1 + (cm ((tkL x).headD 0) : Int)
   ·rw [if_pos c2] at he; simp at he
   ·rw [if_neg c2] at he ⊢
    by_cases c3 : tkV x > most
    ·rw [if_pos c3] at he; exact absurd he he0
    ·rw [if_neg c3]
     refine ⟨by simpa using c0, ?_, hr.1, by dsimp only; omega⟩
     dsimp only
     obtain ⟨b, l, g1, g2, g3⟩ := QaM h c1'
     have hh : (tkL x).headD 0 = b := by rw [g1]; rfl
     rw [hh] at g2 c2 c1'
     rw [hh]
     obtain ⟨s1, s2⟩ := Q6r h (n := 1 + cm b) (by rw [Int.natCast_add]; exact c1')
     rw [Int.natCast_add] at s1
     have e1 : ((1 : Nat) : Int) = 1 := rfl
     rw [e1] at s1
     rw [s1]
     have hV : tkV x = if cm b = 0 then b else leI (l.take (cm b)) := by unfold tkV; rw [g1]; rfl
     have hc : Q17 (tkV x) = (tkL x).take (1 + cm b) := by
      rw [g1, Nat.add_comm 1, List.take_succ_cons]
      have c2' : Q1d (tkV x) = 1 + (cm b : Int) := by simpa using c2
      by_cases c : cm b = 0
      ·rw [if_pos c] at hV
       rw [hV, c] at c2'
       rw [hV, c, List.take_zero]
       have : b < 253 := by
        unfold Q1d at c2'
        by_cases c5 : b < 253
        ·exact c5
        ·rw [if_neg c5] at c2'
         by_cases c6 : b < 65536
         ·rw [if_pos c6] at c2'; simp at c2'
         ·omega
       unfold Q17
       rw [if_pos this]
       simp only [lowI]
       rw [show b % 256 = b by omega]
      ·rw [if_neg c] at hV
       have hlt : (l.take (cm b)).length = cm b := by rw [List.length_take]; omega
       have hin : Q1j (l.take (cm b)) := fun y hy => Qa8 x y (by rw [g1]; exact List.mem_cons_of_mem _ (List.mem_of_mem_take hy))
       have hlow := Qbf hin
       rw [hlt, ← hV] at hlow
       have hb : (b = 253 ∧ cm b = 2) ∨ (b = 254 ∧ cm b = 4) ∨ (b = 255 ∧ cm b = 8) := by
        unfold cm at c ⊢
        by_cases e1 : b = 253
        ·exact .inl ⟨e1, by rw [if_pos e1]⟩
        ·rw [if_neg e1] at c ⊢
         by_cases e2 : b = 254
         ·exact .inr (.inl ⟨e2, by rw [if_pos e2]⟩)
         ·rw [if_neg e2] at c ⊢
          by_cases e3 : b = 255
          ·exact .inr (.inr ⟨e3, by rw [if_pos e3]⟩)
          ·rw [if_neg e3] at c; exact absurd rfl c
       rw [← hlow]
       unfold Q1d at c2'
       unfold Q17
       rcases hb with ⟨e1, e2⟩ | ⟨e1, e2⟩ | ⟨e1, e2⟩ <;> rw [e2] at c2' ⊢ <;> rw [e1]
       ·have n1 : ¬ tkV x < 253 := fun h => by rw [if_pos h] at c2'; simp at c2'
        rw [if_neg n1] at c2' ⊢
        have n2 : tkV x < 65536 := Classical.byContradiction fun h => by rw [if_neg h] at c2'; split at c2' <;> simp at c2'
        rw [if_pos n2]
       ·have n1 : ¬ tkV x < 253 := fun h => by rw [if_pos h] at c2'; simp at c2'
        rw [if_neg n1] at c2' ⊢
        have n2 : ¬ tkV x < 65536 := fun h => by rw [if_pos h] at c2'; simp at c2'
        rw [if_neg n2] at c2' ⊢
        have n3 : tkV x < 4294967296 := Classical.byContradiction fun h => by rw [if_neg h] at c2'; simp at c2'
        rw [if_pos n3]
       ·have n1 : ¬ tkV x < 253 := fun h => by rw [if_pos h] at c2'; simp at c2'
        rw [if_neg n1] at c2' ⊢
        have n2 : ¬ tkV x < 65536 := fun h => by rw [if_pos h] at c2'; simp at c2'
        rw [if_neg n2] at c2' ⊢
        have n3 : ¬ tkV x < 4294967296 := fun h => by rw [if_pos h] at c2'; simp at c2'
        rw [if_neg n3]
     rw [hc, List.take_append_drop]
theorem Qbb {x : Tk} (h : TkOK x) (he : (QC (QN x 520 100).1 (QN x 520 100).2).1.2.2.2.1 = 0) :
  x.2.2.2.1 = 0 ∧ tkL x = Q2X (QC (QN x 520 100).1 (QN x 520 100).2).2 ++ tkL (QC (QN x 520 100).1 (QN x 520 100).2).1 ∧ (QC (QN x 520 100).1 (QN x 520 100).2).2.size ≤ 520 := by
 have h2 := (Q11 h 520 100).1
 have hv := Q13 (x := x) 520 100 (by omega)
 obtain ⟨n, hn⟩ := Int.eq_ofNat_of_zero_le hv.1
 have he' := he
 rw [hn] at he' ⊢
 obtain ⟨b1, b2, b3⟩ := Q68 h2 he'
 obtain ⟨c1, c2, c3, c4⟩ := Q4k h (by decide) b1
 refine ⟨c1, ?_, by omega⟩
 rw [c2, hn, b2, ← List.append_assoc]
 unfold Q2X
 rw [b3]
theorem Qcm {x : Tk} (h : TkOK x) (he : (Q1B x).1.2.2.2.1 = 0) : x.2.2.2.1 = 0 ∧ (InOK (Q1B x).2 ∧ (Q1B x).2.2.1.size ≤ 520) ∧ tkL x = Q1k (Q1B x).2 ++ tkL (Q1B x).1 := by
 unfold Q1B at he ⊢
 dsimp only at he ⊢
 have k1 := (Q0H h (n := 32) (by omega)).1
 have k2 := Q2j k1 (n := 4) (by omega)
 have k3 := (Q11 k2 520 100).1
 have k4 := (Q0H k3 (n := (QN (Q08 (QC x 32).1 4).1 520 100).2) (Q13 520 100 (by omega)).1).1
 obtain ⟨a1, a2, _, _⟩ := Q3T (n := 4) k4 he
 obtain ⟨b1, b2, b3⟩ := Qbb k2 a1
 obtain ⟨c1, c2, _, _⟩ := Q3T (n := 4) k1 b1
 obtain ⟨d1, d2, d3⟩ := Q68 (n := 32) h c1
 have e256 : (256 : Int) ^ 4 = 4294967296 := by decide
 have r1 := Q2R k1 (n := 4)
 have r2 := Q2R k4 (n := 4)
 rw [e256] at r1 r2
 have hh : Q3p (QC x 32).2 = QB (QC x 32).2 := by unfold Q3p; rw [if_pos (show (QC x 32).2.size = 32 from d3)]
 refine ⟨d1, ⟨⟨⟨?_, ?_⟩, ⟨r1.1, ?_⟩, ⟨r2.1, ?_⟩⟩, b3⟩, ?_⟩
 ·rw [hh, Q0i]; exact d3
 ·rw [hh]; exact Q2a _
 ·have := r1.2
  show (Q08 (QC x 32).1 ((4 : Nat) : Int)).2 ≤ _
  omega
 ·have := r2.2
  show (Q08 (QC (QN (Q08 (QC x 32).1 4).1 520 100).1 (QN (Q08 (QC x 32).1 4).1 520 100).2).1 ((4 : Nat) : Int)).2 ≤ _
  omega
 ·have d2' : tkL x = QB (QC x 32).2 ++ tkL (QC x 32).1 := d2
  have c2' : tkL (QC x 32).1 = lowI (Q08 (QC x 32).1 4).2 4 ++ tkL (Q08 (QC x 32).1 4).1 := c2
  have a2' : tkL (QC (QN (Q08 (QC x 32).1 4).1 520 100).1 (QN (Q08 (QC x 32).1 4).1 520 100).2).1 = lowI (Q08 (QC (QN (Q08 (QC x 32).1 4).1 520 100).1 (QN (Q08 (QC x 32).1 4).1 520 100).2).1 4).2 4 ++ tkL (Q08 (QC (QN (Q08 (QC x 32).1 4).1 520 100).1 (QN (Q08 (QC x 32).1 4).1 520 100).2).1 4).1 := a2
  rw [d2', c2', b2, a2', hh]
  unfold Q1k
  dsimp only
  rw [List.take_of_length_le (by rw [Q0i]; have : (QC x 32).2.size = 32 := d3; omega)]
  simp only [List.append_assoc]
theorem QaS {x : Tk} (h : TkOK x) (he : (Q1s x).1.2.2.2.1 = 0) : x.2.2.2.1 = 0 ∧ (Q5y (Q1s x).2 ∧ (Q1s x).2.2.1.size ≤ 520) ∧ tkL x = Q1b (Q1s x).2 ++ tkL (Q1s x).1 := by
 unfold Q1s at he ⊢
 dsimp only at he ⊢
 have k2 := Q2j h (n := 8) (by omega)
 obtain ⟨b1, b2, b3⟩ := Qbb k2 he
 obtain ⟨c1, c2, _, _⟩ := Q3T (n := 8) h b1
 have e256 : (256 : Int) ^ 8 = 18446744073709551616 := by decide
 have r1 := Q2R h (n := 8)
 rw [e256] at r1
 have c2' : tkL x = lowI (Q08 x 8).2 8 ++ tkL (Q08 x 8).1 := c2
 refine ⟨c1, ⟨⟨r1.1, ?_⟩, b3⟩, ?_⟩
 ·have := r1.2
  show (Q08 x ((8 : Nat) : Int)).2 ≤ _
  omega
 ·rw [c2', b2]
  unfold Q1b
  simp only [List.append_assoc]
theorem Q5M {α : Type} {f : Tk → Tk × α} {enc : α → List Int} {p : α → Prop} (hok : ∀ x, TkOK x → TkOK (f x).1) (hf : ∀ {x : Tk}, TkOK x → (f x).1.2.2.2.1 = 0 → x.2.2.2.1 = 0 ∧ p (f x).2 ∧ tkL x = enc (f x).2 ++ tkL (f x).1) :
  ∀ (n : Nat) (l : List α) {x : Tk}, TkOK x → (Q0R f n x l).1.2.2.2.1 = 0 → x.2.2.2.1 = 0 ∧ ∃ l2, (Q0R f n x l).2 = l ++ l2 ∧ l2.length = n ∧ (∀ y ∈ l2, p y) ∧ tkL x = (l2.map enc).flatten ++ tkL (Q0R f n x l).1
 | 0, l, x, _, he => ⟨he, [], by simp [Q0R], rfl, fun y hy => by simp at hy, by simp [Q0R]⟩
 | n + 1, l, x, hx, he => by
  unfold Q0R at he ⊢
  by_cases c : x.2.2.2.1 ≠ 0
  ·rw [if_pos c] at he; exact absurd he c
  ·rw [if_neg c] at he ⊢
   obtain ⟨g0, l2, g1, g2, g3, g4⟩ := Q5M hok hf n (l ++ [(f x).2]) (hok x hx) he
   obtain ⟨f1, f2, f3⟩ := hf hx g0
   refine ⟨f1, (f x).2 :: l2, by rw [g1, List.append_assoc]; rfl, by rw [List.length_cons, g2], ?_, ?_⟩
   ·intro y hy
    rcases List.mem_cons.1 hy with rfl | hy
    ·exact f2
    ·exact g3 y hy
   ·rw [f3, g4, List.map_cons, List.flatten_cons, List.append_assoc]
theorem Qg8 {s : ByteArray} (hs : s.size ≤ 4611686018427387904) (he : (decS s).2 = 0) : TxOK (decS s).1 ∧ encS (decS s).1 = (s, 0) := by
 unfold decS at he ⊢
 by_cases c1 : (Q12 s 0).2.2 ≠ 0
 ·rw [if_pos c1] at he; exact absurd he c1
 ·rw [if_neg c1] at he ⊢
  by_cases c2 : (Q12 s 0).2.1 ≠ (s.size : Int)
  ·rw [if_pos c2] at he; simp at he
  ·rw [if_neg c2]
   dsimp only
   have c1' : (Q12 s 0).2.2 = 0 := by simpa using c1
   have c2' : (Q12 s 0).2.1 = (s.size : Int) := by simpa using c2
   clear c1 c2 he
   unfold Q12 at c1' c2' ⊢
   rw [if_neg (by omega)] at c1' c2' ⊢
   dsimp only at c1' c2' ⊢
   have hx : TkOK (s, 0, 0, 0, ()) := ⟨hs, by dsimp only; omega, by dsimp only; omega, by dsimp only; omega⟩
   have k1 := Q2j hx (n := 4) (by omega)
   have k2 := (Q11 k1 4096 5).1
   have hv2 := Q13 (x := (Q08 (s, 0, 0, 0, ()) 4).1) 4096 5 (by omega)
   obtain ⟨n, hn⟩ := Int.eq_ofNat_of_zero_le hv2.1
   have k3 := Q2n (fun x h => Q2v h) n [] k2
   rw [show (QN (Q08 (s, 0, 0, 0, ()) 4).1 4096 5).2.toNat = n by omega] at c1' c2' ⊢
   have P1 := Q5M (f := Q1B) (enc := Q1k) (p := fun i => InOK i ∧ i.2.1.size ≤ 520) (fun x h => Q2v h) (fun h he => Qcm h he) n [] k2
   have t3 := (Q11 k1 4096 5).2.1
   have tl := Q2n (fun x h => Q2v h) n [] k2
   generalize hIs : Q0R Q1B n (QN (Q08 (s, 0, 0, 0, ()) 4).1 4096 5).1 [] = is at *
   have k4 := (Q11 k3 4096 5).1
   have hv4 := Q13 (x := is.1) 4096 5 (by omega)
   obtain ⟨n2, hn2⟩ := Int.eq_ofNat_of_zero_le hv4.1
   rw [show (QN is.1 4096 5).2.toNat = n2 by omega] at c1' c2' ⊢
   have k5 := Q2n (fun x h => Q2o h) n2 [] k4
   have P2 := Q5M (f := Q1s) (enc := Q1b) (p := fun i => Q5y i ∧ i.2.1.size ≤ 520) (fun x h => Q2o h) (fun h he => QaS h he) n2 [] k4
   generalize hOs : Q0R Q1s n2 (QN is.1 4096 5).1 [] = os at *
   have hc : (Q08 os.1 4).1.2.2.2.1 = 0 := by
    by_cases c : (Q08 os.1 4).1.2.2.2.1 ≠ 0
    ·rw [if_pos c] at c1'; exact c1'
    ·simpa using c
   rw [if_neg (by simpa using hc)] at c2' ⊢
   dsimp only at c2' ⊢
   obtain ⟨a1, a2, a3, a4⟩ := Q3T (n := 4) k5 hc
   obtain ⟨b1, l2, b2, b3, b4, b5⟩ := P2 a1
   obtain ⟨d1, d2, d3, d4⟩ := Q4k k3 (by decide) b1
   obtain ⟨e1, l1, e2, e3, e4, e5⟩ := P1 d1
   obtain ⟨f1, f2, f3, f4⟩ := Q4k k1 (by decide) e1
   obtain ⟨g1, g2, _, _⟩ := Q3T (n := 4) hx f1
   rw [List.nil_append] at b2 e2
   have e256 : (256 : Int) ^ 4 = 4294967296 := by decide
   have r1 := Q2R hx (n := 4)
   have r2 := Q2R k5 (n := 4)
   rw [e256] at r1 r2
   have k6 := Q2j k5 (n := 4) (by omega)
   have hend : tkL (Q08 os.1 4).1 = [] := by
    have h1 := Q2u k6
    have h2 : (Q08 os.1 4).1.2.2.1 = (s.size : Int) := c2'
    have h3 := k6.2.2.2
    apply List.eq_nil_of_length_eq_zero
    have q1 : (Q08 os.1 4).1.1 = os.1.1 := (Q0H k5 (n := 4) (by omega)).2.1
    by_cases hlt : (Q08 os.1 4).1.1.size ≤ s.size
    ·omega
    ·exfalso
     have e : ∀ (n : Nat) (x : Tk) (l : List TIn), TkOK x → (Q0R Q1B n x l).1.1 = x.1 := by
      intro n
      induction n with
      | zero => intro x l _; rfl
      | succ n ih =>
       intro x l hx
       unfold Q0R
       split
       ·rfl
       ·rw [ih _ _ (Q2v hx)]
        unfold Q1B
        dsimp only
        have g1 := Q0H hx (n := 32) (by omega)
        have g2 := Q0H g1.1 (n := 4) (by omega)
        have g3 := Q11 (x := (Q08 (QC x 32).1 4).1) g2.1 520 100
        have g4 := Q0H g3.1 (n := (QN (Q08 (QC x 32).1 4).1 520 100).2) (Q13 520 100 (by omega)).1
        have g5 := Q0H g4.1 (n := 4) (by omega)
        exact g5.2.1.trans (g4.2.1.trans (g3.2.1.trans (g2.2.1.trans g1.2.1)))
     have e2' : ∀ (n : Nat) (x : Tk) (l : List TOut), TkOK x → (Q0R Q1s n x l).1.1 = x.1 := by
      intro n
      induction n with
      | zero => intro x l _; rfl
      | succ n ih =>
       intro x l hx
       unfold Q0R
       split
       ·rfl
       ·rw [ih _ _ (Q2o hx)]
        unfold Q1s
        dsimp only
        have g2 := Q0H hx (n := 8) (by omega)
        have g3 := Q11 (x := (Q08 x 8).1) g2.1 520 100
        have g4 := Q0H g3.1 (n := (QN (Q08 x 8).1 520 100).2) (Q13 520 100 (by omega)).1
        exact g4.2.1.trans (g3.2.1.trans g2.2.1)
     have w1 := e n (QN (Q08 (s, 0, 0, 0, ()) 4).1 4096 5).1 [] k2
     rw [hIs] at w1
     have w2 := e2' n2 (QN is.1 4096 5).1 [] k4
     rw [hOs] at w2
     have w3 : (Q08 (s, 0, 0, 0, ()) 4).1.1 = s := (Q0H hx (n := 4) (by omega)).2.1
     rw [q1, w2, (Q11 k3 4096 5).2.1, w1, t3, w3] at hlt
     omega
   have hroom : (Q08 os.1 4).1.2.2.1 - (Q08 os.1 4).1.2.1 ≤ 4096 := a3
   have hOK : TxOK ((Q08 (s, 0, 0, 0, ()) 4).2, is.2, os.2, (Q08 os.1 4).2, ()) := by
    refine ⟨⟨r1.1, ?_⟩, ⟨r2.1, ?_⟩, ?_, ?_, ?_, ?_⟩
    ·have := r1.2
     show (Q08 (s, 0, 0, 0, ()) ((4 : Nat) : Int)).2 ≤ _
     omega
    ·have := r2.2
     show (Q08 os.1 ((4 : Nat) : Int)).2 ≤ _
     omega
    ·dsimp only; rw [e2]; exact Q6e fun y hy => (e4 y hy).1
    ·dsimp only; rw [b2]; exact Q6e fun y hy => (b4 y hy).1
    ·dsimp only; rw [e2]; omega
    ·dsimp only; rw [b2]; omega
   have hall : QB s = encL ((Q08 (s, 0, 0, 0, ()) 4).2, is.2, os.2, (Q08 os.1 4).2, ()) := by
    have g2' : tkL (s, 0, 0, 0, ()) = lowI (Q08 (s, 0, 0, 0, ()) 4).2 4 ++ tkL (Q08 (s, 0, 0, 0, ()) 4).1 := g2
    have a2' : tkL os.1 = lowI (Q08 os.1 4).2 4 ++ tkL (Q08 os.1 4).1 := a2
    rw [f2, e5, d2, b5, a2', hend, List.append_nil] at g2'
    have : QB s = tkL (s, 0, 0, 0, ()) := rfl
    rw [this, g2']
    unfold encL Q5Q Q4q
    rw [Q7W, Q7W]
    dsimp only
    rw [hn, hn2, e2, b2, e3, b3]
    simp only [List.append_assoc]
   refine ⟨hOK, ?_⟩
   unfold encS
   have hsc : scOK ((Q08 (s, 0, 0, 0, ()) 4).2, is.2, os.2, (Q08 os.1 4).2, ()) := by
    refine ⟨?_, ?_⟩
    ·dsimp only; rw [e2]; exact Q6e fun y hy => (e4 y hy).2
    ·dsimp only; rw [b2]; exact Q6e fun y hy => (b4 y hy).2
   rw [if_pos hsc, ← hall, Q0i, if_neg, Q2i]
   have fr : ∀ {y : Tk}, TkOK y → (QC y 4).1.2.1 = y.2.1 := fun h => (Q0H h (by omega)).2.2
   have ein : ∀ (n : Nat) (x : Tk) (l : List TIn), TkOK x → (Q0R Q1B n x l).1.2.1 = x.2.1 := by
    intro n
    induction n with
    | zero => intro x l _; rfl
    | succ n ih =>
     intro x l hx
     unfold Q0R
     split
     ·rfl
     ·rw [ih _ _ (Q2v hx)]
      unfold Q1B
      dsimp only
      have g1 := Q0H hx (n := 32) (by omega)
      have g2 := Q0H g1.1 (n := 4) (by omega)
      have g3 := Q11 (x := (Q08 (QC x 32).1 4).1) g2.1 520 100
      have g4 := Q0H g3.1 (n := (QN (Q08 (QC x 32).1 4).1 520 100).2) (Q13 520 100 (by omega)).1
      have g5 := Q0H g4.1 (n := 4) (by omega)
      exact g5.2.2.trans (g4.2.2.trans (g3.2.2.trans (g2.2.2.trans g1.2.2)))
   have eout : ∀ (n : Nat) (x : Tk) (l : List TOut), TkOK x → (Q0R Q1s n x l).1.2.1 = x.2.1 := by
    intro n
    induction n with
    | zero => intro x l _; rfl
    | succ n ih =>
     intro x l hx
     unfold Q0R
     split
     ·rfl
     ·rw [ih _ _ (Q2o hx)]
      unfold Q1s
      dsimp only
      have g2 := Q0H hx (n := 8) (by omega)
      have g3 := Q11 (x := (Q08 x 8).1) g2.1 520 100
      have g4 := Q0H g3.1 (n := (QN (Q08 x 8).1 520 100).2) (Q13 520 100 (by omega)).1
      exact g4.2.2.trans (g3.2.2.trans g2.2.2)
   have w1 := ein n (QN (Q08 (s, 0, 0, 0, ()) 4).1 4096 5).1 [] k2
   rw [hIs] at w1
   have w2 := eout n2 (QN is.1 4096 5).1 [] k4
   rw [hOs] at w2
   have w3 : (Q08 (s, 0, 0, 0, ()) 4).1.2.1 = 0 := (Q0H hx (n := 4) (by omega)).2.2
   have w4 : (Q08 os.1 4).1.2.1 = os.1.2.1 := (Q0H k5 (n := 4) (by omega)).2.2
   rw [w4, w2, (Q11 k3 4096 5).2.2, w1, (Q11 k1 4096 5).2.2, w3] at hroom
   omega
end Go.Am
namespace Go.Am
open Go Go.Proofs
set_option maxRecDepth 100000
abbrev Qc.l0.σ : Type := Qha × Qha × Int × Int × Unit
abbrev Qc.l0.τ : Type := (Bool × Unit) ⊕ (Unit)
def Qc.l0.r (k : Nat) {ρ : Type} (x : Qc.l0.σ) (kn : Qc.l0.σ → Option ρ) (ke : Qc.l0.τ → Option ρ) : Option ρ :=
 bif (decide (x.2.2.2.1 < x.2.2.1)) then (bif (decide (((0 : Int) ≤ x.2.2.2.1) ∧ (x.2.2.2.1 < (((List.length x.1) : Nat) : Int)))) then (bif (decide (((0 : Int) ≤ x.2.2.2.1) ∧ (x.2.2.2.1 < (((List.length x.2.1) : Nat) : Int)))) then (bif (!(((decide ((List.getD x.1 (Int.toNat x.2.2.2.1) (((List.replicate 32 (0 : Int)), ((0 : Int), ())), (ByteArray.empty, ((0 : Int), ())))).1.1 = (List.getD x.2.1 (Int.toNat x.2.2.2.1) (((List.replicate 32 (0 : Int)), ((0 : Int), ())), (ByteArray.empty, ((0 : Int), ())))).1.1)) && (((List.getD x.1 (Int.toNat x.2.2.2.1) (((List.replicate 32 (0 : Int)), ((0 : Int), ())), (ByteArray.empty, ((0 : Int), ())))).1.2.1 == (List.getD x.2.1 (Int.toNat x.2.2.2.1) (((List.replicate 32 (0 : Int)), ((0 : Int), ())), (ByteArray.empty, ((0 : Int), ())))).1.2.1) && true)) && ((Q25 (List.getD x.1 (Int.toNat x.2.2.2.1) (((List.replicate 32 (0 : Int)), ((0 : Int), ())), (ByteArray.empty, ((0 : Int), ())))).2.1 (List.getD x.2.1 (Int.toNat x.2.2.2.1) (((List.replicate 32 (0 : Int)), ((0 : Int), ())), (ByteArray.empty, ((0 : Int), ())))).2.1) && (((List.getD x.1 (Int.toNat x.2.2.2.1) (((List.replicate 32 (0 : Int)), ((0 : Int), ())), (ByteArray.empty, ((0 : Int), ())))).2.2.1 == (List.getD x.2.1 (Int.toNat x.2.2.2.1) (((List.replicate 32 (0 : Int)), ((0 : Int), ())), (ByteArray.empty, ((0 : Int), ())))).2.2.1) && true)))) then (ke (.inl (false, ()))) else (let v3 : Int := (IntKind.wrap IntKind.i64 (x.2.2.2.1 + (1 : Int)))
 kn (x.1, (x.2.1, (x.2.2.1, (v3, ())))))) else (none)) else (none)) else (ke (.inr ()))
def Qc.l0 (k : Nat) : Nat → Qc.l0.σ → Option Qc.l0.τ := Q0Q (Qc.l0.r k)
def Qc.l0.T : StT := ⟨.dat Qh8 :: .dat Qh8 :: us 10 ++ .dat (.int .i64) :: .dat (.int .i64) :: us 12, []⟩
def Qc.l0.os : List Out := [⟨.ret, [.mask [4], .auto 0], ⟨us 4 ++ .dat .bool :: us 21, []⟩⟩, ⟨(.exit 0), [.mask [], .auto 0], ⟨us 26, []⟩⟩]
def Qc.c (k : Nat) {ρ : Type} (s1 : Qha) (s2 : Qha) (K : Bool × Unit → Option ρ) : Option ρ :=
 let v0 : Int := (((List.length s1) : Nat) : Int)
 let v1 : Int := (((List.length s2) : Nat) : Int)
 bif (v0 != v1) then (K (false, ())) else (let v2 : Int := (((List.length s1) : Nat) : Int)
 (Qc.l0 k k (s1, (s2, (v2, ((0 : Int), ()))))).bind fun t4 => (match t4 with | .inl t5 => (K (t5.1, ())) | .inr (t6) => (K (true, ()))))
def Qc (k : Nat) (s1 : Qha) (s2 : Qha) : Option (Bool × Unit) := Qc.c k s1 s2 some
def Qc.tin : List Ty := [Qh8, Qh8]
def Qc.tout : List Ty := [.bool]
def Qc.sem (k : Nat) : QY := Q04 Qc.tin Qc.tout fun x => Qc k x.1 x.2.1
noncomputable def Qc.ctx (k : Nat) : Ctx := ⟨Try.prog, gam []⟩
theorem Qc.gok (k : Nat) : ∀ f, QG Try.prog f ((Qc.ctx k).Γ f) := Q0e
theorem Qc.l0.round (k : Nat) : Q0L (Qc.ctx k) (QP (Func.code Try.f83) [1, 1, 0, 1, 0, 0]) (.nil) Qc.l0.T [.mask [0, 1, 12, 13], .auto 0] Qc.l0.os (Qc.l0.r k) := by
 intro ρ x kn ke; kernel_rfl
theorem Qc.l0.ok (k : Nat) : StOK 0 Try.prog (.loop (QP (Func.code Try.f83) [1, 1, 0, 1, 0, 0])) (Qx Qc.l0.T Qc.l0.os (Qc.l0 k k)) :=
 Q0M (C := Qc.ctx k) (Qc.gok k) Try.mix Q3.nil (by kernel_rfl) (by kernel_rfl) (by kernel_rfl) (Qc.l0.round k) k
def Qc.ann (k : Nat) : Ann := .node [] none (.nil) (.node [] none (.nil) (.node [] none (.node [] none (.nil) (.node [] none (.node [] (some (Qx Qc.l0.T Qc.l0.os (Qc.l0 k k))) .nil .nil) (.nil))) (.nil)))
theorem Qc.body (k : Nat) : Q0K (Qc.ctx k) Try.f83 (Func.code Try.f83) (Qc.ann k) Qc.tin Qc.tout (fun x K => Qc.c k x.1 x.2.1 K) := by
 intro ρ x K; kernel_rfl
theorem Qc.sem_ok (k : Nat) : QG Try.prog 83 (Qc.sem k) :=
 QT (C := Qc.ctx k) (Qc.gok k) Try.mix (c := Func.code Try.f83) (ann := Qc.ann k) (tin := Qc.tin) (tout := Qc.tout) (fun x K => Qc.c k x.1 x.2.1 K) Try.func83 (by kernel_rfl) (by kernel_rfl) (Q3.seq Q3.nil (Q3.seq Q3.nil (Q3.seq (Q3.seq Q3.nil (Q3.block (Q3.loop (by kernel_rfl) (Qc.l0.ok k)))) Q3.nil))) (Qc.body k)
abbrev Qa.l0.σ : Type := Qhd × Qhd × Int × Int × Unit
abbrev Qa.l0.τ : Type := (Bool × Unit) ⊕ (Unit)
def Qa.l0.r (k : Nat) {ρ : Type} (x : Qa.l0.σ) (kn : Qa.l0.σ → Option ρ) (ke : Qa.l0.τ → Option ρ) : Option ρ :=
 bif (decide (x.2.2.2.1 < x.2.2.1)) then (bif (decide (((0 : Int) ≤ x.2.2.2.1) ∧ (x.2.2.2.1 < (((List.length x.1) : Nat) : Int)))) then (bif (decide (((0 : Int) ≤ x.2.2.2.1) ∧ (x.2.2.2.1 < (((List.length x.2.1) : Nat) : Int)))) then (bif (!(((List.getD x.1 (Int.toNat x.2.2.2.1) ((0 : Int), (ByteArray.empty, ()))).1 == (List.getD x.2.1 (Int.toNat x.2.2.2.1) ((0 : Int), (ByteArray.empty, ()))).1) && ((Q25 (List.getD x.1 (Int.toNat x.2.2.2.1) ((0 : Int), (ByteArray.empty, ()))).2.1 (List.getD x.2.1 (Int.toNat x.2.2.2.1) ((0 : Int), (ByteArray.empty, ()))).2.1) && true))) then (ke (.inl (false, ()))) else (let v3 : Int := (IntKind.wrap IntKind.i64 (x.2.2.2.1 + (1 : Int)))
 kn (x.1, (x.2.1, (x.2.2.1, (v3, ())))))) else (none)) else (none)) else (ke (.inr ()))
def Qa.l0 (k : Nat) : Nat → Qa.l0.σ → Option Qa.l0.τ := Q0Q (Qa.l0.r k)
def Qa.l0.T : StT := ⟨.dat Qhc :: .dat Qhc :: us 10 ++ .dat (.int .i64) :: .dat (.int .i64) :: us 12, []⟩
def Qa.l0.os : List Out := [⟨.ret, [.mask [4], .auto 0], ⟨us 4 ++ .dat .bool :: us 21, []⟩⟩, ⟨(.exit 0), [.mask [], .auto 0], ⟨us 26, []⟩⟩]
def Qa.c (k : Nat) {ρ : Type} (s1 : Qhd) (s2 : Qhd) (K : Bool × Unit → Option ρ) : Option ρ :=
 let v0 : Int := (((List.length s1) : Nat) : Int)
 let v1 : Int := (((List.length s2) : Nat) : Int)
 bif (v0 != v1) then (K (false, ())) else (let v2 : Int := (((List.length s1) : Nat) : Int)
 (Qa.l0 k k (s1, (s2, (v2, ((0 : Int), ()))))).bind fun t4 => (match t4 with | .inl t5 => (K (t5.1, ())) | .inr (t6) => (K (true, ()))))
def Qa (k : Nat) (s1 : Qhd) (s2 : Qhd) : Option (Bool × Unit) := Qa.c k s1 s2 some
def Qa.tin : List Ty := [Qhc, Qhc]
def Qa.tout : List Ty := [.bool]
def Qa.sem (k : Nat) : QY := Q04 Qa.tin Qa.tout fun x => Qa k x.1 x.2.1
noncomputable def Qa.ctx (k : Nat) : Ctx := ⟨Try.prog, gam []⟩
theorem Qa.gok (k : Nat) : ∀ f, QG Try.prog f ((Qa.ctx k).Γ f) := Q0e
theorem Qa.l0.round (k : Nat) : Q0L (Qa.ctx k) (QP (Func.code Try.f84) [1, 1, 0, 1, 0, 0]) (.nil) Qa.l0.T [.mask [0, 1, 12, 13], .auto 0] Qa.l0.os (Qa.l0.r k) := by
 intro ρ x kn ke; kernel_rfl
theorem Qa.l0.ok (k : Nat) : StOK 0 Try.prog (.loop (QP (Func.code Try.f84) [1, 1, 0, 1, 0, 0])) (Qx Qa.l0.T Qa.l0.os (Qa.l0 k k)) :=
 Q0M (C := Qa.ctx k) (Qa.gok k) Try.mix Q3.nil (by kernel_rfl) (by kernel_rfl) (by kernel_rfl) (Qa.l0.round k) k
def Qa.ann (k : Nat) : Ann := .node [] none (.nil) (.node [] none (.nil) (.node [] none (.node [] none (.nil) (.node [] none (.node [] (some (Qx Qa.l0.T Qa.l0.os (Qa.l0 k k))) .nil .nil) (.nil))) (.nil)))
theorem Qa.body (k : Nat) : Q0K (Qa.ctx k) Try.f84 (Func.code Try.f84) (Qa.ann k) Qa.tin Qa.tout (fun x K => Qa.c k x.1 x.2.1 K) := by
 intro ρ x K; kernel_rfl
theorem Qa.sem_ok (k : Nat) : QG Try.prog 84 (Qa.sem k) :=
 QT (C := Qa.ctx k) (Qa.gok k) Try.mix (c := Func.code Try.f84) (ann := Qa.ann k) (tin := Qa.tin) (tout := Qa.tout) (fun x K => Qa.c k x.1 x.2.1 K) Try.func84 (by kernel_rfl) (by kernel_rfl) (Q3.seq Q3.nil (Q3.seq Q3.nil (Q3.seq (Q3.seq Q3.nil (Q3.block (Q3.loop (by kernel_rfl) (Qa.l0.ok k)))) Q3.nil))) (Qa.body k)
def Q1l.c (k : Nat) {ρ : Type} (a : Qh5) (b : Qh5) (K : Bool × Unit → Option ρ) : Option ρ :=
 let v0 : Int := a.1
 let v1 : Int := b.1
 bif (v0 == v1) then (let v2 : Int := a.2.2.2.1
 let v3 : Int := b.2.2.2.1
 bif (v2 == v3) then (let v4 : Qha := a.2.1
 let v5 : Qha := b.2.1
 (Qc k v4 v5).bind fun t6 => bif t6.1 then (let v7 : Qhd := a.2.2.1
 let v8 : Qhd := b.2.2.1
 (Qa k v7 v8).bind fun t9 => K (t9.1, ())) else (K (false, ()))) else (K (false, ()))) else (K (false, ()))
def Q1l (k : Nat) (a : Qh5) (b : Qh5) : Option (Bool × Unit) := Q1l.c k a b some
def Q1l.tin : List Ty := [Qh2, Qh2]
def Q1l.tout : List Ty := [.bool]
def Q1l.sem (k : Nat) : QY := Q04 Q1l.tin Q1l.tout fun x => Q1l k x.1 x.2.1
noncomputable def Q1l.ctx (k : Nat) : Ctx := ⟨Try.prog, gam [(83, (Qc.sem k)), (84, (Qa.sem k))]⟩
theorem Q1l.gok (k : Nat) : ∀ f, QG Try.prog f ((Q1l.ctx k).Γ f) := (Qq (Qc.sem_ok k) (Qq (Qa.sem_ok k) Q0e))
def Q1l.ann (k : Nat) : Ann := .nil
theorem Q1l.body (k : Nat) : Q0K (Q1l.ctx k) Try.f33 (Func.code Try.f33) (Q1l.ann k) Q1l.tin Q1l.tout (fun x K => Q1l.c k x.1 x.2.1 K) := by
 intro ρ x K; kernel_rfl
theorem Q1l.sem_ok (k : Nat) : QG Try.prog 33 (Q1l.sem k) :=
 QT (C := Q1l.ctx k) (Q1l.gok k) Try.mix (c := Func.code Try.f33) (ann := Q1l.ann k) (tin := Q1l.tin) (tout := Q1l.tout) (fun x K => Q1l.c k x.1 x.2.1 K) Try.func33 (by kernel_rfl) (by kernel_rfl) Q3.nil (Q1l.body k)
abbrev Qs.p0.σ : Type := ByteArray × ByteArray × ByteArray × Int × Qh5 × Unit
abbrev Qs.p0.τ : Type := (Bool × Unit) ⊕ (ByteArray × ByteArray × Int × Qh5 × Unit)
def Qs.p0.r (k : Nat) {ρ : Type} (x : Qs.p0.σ) (K : Qs.p0.τ → Option ρ) : Option ρ :=
 bif (x.2.2.2.1 == (0 : Int)) then (bif (Nat.ble ((ByteArray.size x.1) + (ByteArray.size x.2.2.1)) 9223372036854775807) then (let v4 : ByteArray := (x.1 ++ x.2.2.1)
 bif (Nat.ble ((ByteArray.size v4) + (ByteArray.size x.2.1)) 9223372036854775807) then (let v5 : ByteArray := (v4 ++ x.2.1)
 let v6 : Int := (((ByteArray.size x.1) : Nat) : Int)
 (Qn k v5 v6).bind fun t7 => let v8 : Int := t7.2.1
 let v9 : Int := t7.2.2.1
 bif (v9 != (0 : Int)) then (K (.inl (false, ()))) else (let v10 : Int := (((ByteArray.size x.1) : Nat) : Int)
 let v11 : Int := (((ByteArray.size x.2.2.1) : Nat) : Int)
 let v12 : Int := (IntKind.wrap IntKind.i64 (v10 + v11))
 bif (v8 != v12) then (K (.inl (false, ()))) else ((Q1l k (t7.1.1, (t7.1.2.1, (t7.1.2.2.1, (t7.1.2.2.2.1, ())))) (x.2.2.2.2.1.1, (x.2.2.2.2.1.2.1, (x.2.2.2.2.1.2.2.1, (x.2.2.2.2.1.2.2.2.1, ()))))).bind fun t13 => bif (!t13.1) then (K (.inl (false, ()))) else (K (.inr (x.2.1, (x.2.2.1, (x.2.2.2.1, ((x.2.2.2.2.1.1, (x.2.2.2.2.1.2.1, (x.2.2.2.2.1.2.2.1, (x.2.2.2.2.1.2.2.2.1, ())))), ()))))))))) else (none)) else (none)) else (K (.inr (x.2.1, (x.2.2.1, (x.2.2.2.1, ((x.2.2.2.2.1.1, (x.2.2.2.2.1.2.1, (x.2.2.2.2.1.2.2.1, (x.2.2.2.2.1.2.2.2.1, ())))), ()))))))
def Qs.p0 (k : Nat) (x : Qs.p0.σ) : Option Qs.p0.τ := Qs.p0.r k x some
def Qs.p0.T : StT := ⟨us 1 ++ .dat .str :: .dat .str :: .ptr 0 [] :: us 3 ++ .dat .str :: .dat (.int .i64) :: us 76, [.dat Qh2]⟩
def Qs.p0.os : List Out := [⟨.ret, [.mask [6], .auto 0], ⟨us 6 ++ .dat .bool :: us 78, []⟩⟩, ⟨.normal, [.mask [2, 3, 7, 8], .auto 0], ⟨us 2 ++ .dat .str :: .ptr 0 [] :: us 3 ++ .dat .str :: .dat (.int .i64) :: us 76, [.dat Qh2]⟩⟩]
def Qs.c (k : Nat) {ρ : Type} (t : Qh5) (ahead : ByteArray) (s : ByteArray) (K : Bool × Unit → Option ρ) : Option ρ :=
 (QJ k ).bind fun t0 => bif (!t0.1) then (K (false, ())) else ((Qh k (t.1, (t.2.1, (t.2.2.1, (t.2.2.2.1, ()))))).bind fun t1 => let v2 : ByteArray := t1.1
 let v3 : Int := t1.2.1
 (Qs.p0 k (ahead, (s, (v2, (v3, ((t.1, (t.2.1, (t.2.2.1, (t.2.2.2.1, ())))), ())))))).bind fun t14 => (match t14 with | .inl t15 => (K (t15.1, ())) | .inr (t16) => ((Q0N k t16.1).bind fun t17 => let v18 : Int := t17.2.1
 bif (v18 != (0 : Int)) then (K (true, ())) else ((Qh k (t17.1.1, (t17.1.2.1, (t17.1.2.2.1, (t17.1.2.2.2.1, ()))))).bind fun t19 => let v20 : ByteArray := t19.1
 let v21 : Int := t19.2.1
 bif (v21 == (0 : Int)) then (bif (Q25 v20 t16.1) then (bif (t16.2.2.1 != (0 : Int)) then (K (true, ())) else ((Q1l k (t17.1.1, (t17.1.2.1, (t17.1.2.2.1, (t17.1.2.2.2.1, ())))) (t16.2.2.2.1.1, (t16.2.2.2.1.2.1, (t16.2.2.2.1.2.2.1, (t16.2.2.2.1.2.2.2.1, ()))))).bind fun t22 => K ((t22.1 == (Q25 t16.2.1 t16.1)), ()))) else (K (false, ()))) else (K (false, ()))))))
def Qs (k : Nat) (t : Qh5) (ahead : ByteArray) (s : ByteArray) : Option (Bool × Unit) := Qs.c k t ahead s some
def Qs.tin : List Ty := [Qh2, .str, .str]
def Qs.tout : List Ty := [.bool]
def Qs.sem (k : Nat) : QY := Q04 Qs.tin Qs.tout fun x => Qs k x.1 x.2.1 x.2.2.1
noncomputable def Qs.ctx (k : Nat) : Ctx := ⟨Try.prog, gam [(21, (QJ.sem k)), (32, (Qh.sem k)), (19, (Qn.sem k)), (33, (Q1l.sem k)), (24, (Q0N.sem k))]⟩
theorem Qs.gok (k : Nat) : ∀ f, QG Try.prog f ((Qs.ctx k).Γ f) := (Qq (QJ.sem_ok k) (Qq (Qh.sem_ok k) (Qq (Qn.sem_ok k) (Qq (Q1l.sem_ok k) (Qq (Q0N.sem_ok k) Q0e)))))
theorem Qs.p0.is (k : Nat) : Q1E (Qs.ctx k) (QP (Func.code Try.f7) [1, 1, 1, 0]) (.nil) Qs.p0.T Qs.p0.os (Qs.p0.r k) := by
 intro ρ x K; kernel_rfl
theorem Qs.p0.ok (k : Nat) : StOK 0 Try.prog (QP (Func.code Try.f7) [1, 1, 1, 0]) (Qx Qs.p0.T Qs.p0.os (Qs.p0 k)) :=
 Q1r (C := Qs.ctx k) (T := Qs.p0.T) (os := Qs.p0.os) (Qs.gok k) Try.mix (fun x K => Qs.p0.r k x K) Q3.nil (by kernel_rfl) (by kernel_rfl) (Qs.p0.is k)
def Qs.ann (k : Nat) : Ann := .node [] none (.nil) (.node [] none (.nil) (.node [] none (.nil) (.node [] none (.node [.mask [1, 2, 3, 7, 8], .auto 0] (some (Qx Qs.p0.T Qs.p0.os (Qs.p0 k))) .nil .nil) (.nil))))
theorem Qs.body (k : Nat) : Q0K (Qs.ctx k) Try.f7 (Func.code Try.f7) (Qs.ann k) Qs.tin Qs.tout (fun x K => Qs.c k x.1 x.2.1 x.2.2.1 K) := by
 intro ρ x K; kernel_rfl
theorem Qs.sem_ok (k : Nat) : QG Try.prog 7 (Qs.sem k) :=
 QT (C := Qs.ctx k) (Qs.gok k) Try.mix (c := Func.code Try.f7) (ann := Qs.ann k) (tin := Qs.tin) (tout := Qs.tout) (fun x K => Qs.c k x.1 x.2.1 x.2.2.1 K) Try.func7 (by kernel_rfl) (by kernel_rfl) (Q3.seq Q3.nil (Q3.seq Q3.nil (Q3.seq Q3.nil (Q3.seq (Q3.loop (by kernel_rfl) (Qs.p0.ok k)) Q3.nil)))) (Qs.body k)
end Go.Am
namespace Go.Am
open Go Go.Proofs
set_option maxRecDepth 100000
def Q0U.c (k : Nat) {ρ : Type} (s : ByteArray) (K : (List Int) × Unit → Option ρ) : Option ρ :=
 (Q18 k s).bind fun t0 => let v1 : ByteArray := (bytesOf (List.take 32 (List.drop 0 t0.1)))
 (Q18 k v1).bind fun t2 => K (t2.1, ())
def Q0U (k : Nat) (s : ByteArray) : Option ((List Int) × Unit) := Q0U.c k s some
def Q0U.tin : List Ty := [.str]
def Q0U.tout : List Ty := [Qhe]
def Q0U.sem (k : Nat) : QY := Q04 Q0U.tin Q0U.tout fun x => Q0U k x.1
noncomputable def Q0U.ctx (k : Nat) : Ctx := ⟨Try.prog, gam [(96, (Q18.sem k))]⟩
theorem Q0U.gok (k : Nat) : ∀ f, QG Try.prog f ((Q0U.ctx k).Γ f) := (Qq (Q18.sem_ok k) Q0e)
def Q0U.ann (k : Nat) : Ann := .nil
theorem Q0U.body (k : Nat) : Q0K (Q0U.ctx k) Try.f89 (Func.code Try.f89) (Q0U.ann k) Q0U.tin Q0U.tout (fun x K => Q0U.c k x.1 K) := by
 intro ρ x K; kernel_rfl
theorem Q0U.sem_ok (k : Nat) : QG Try.prog 89 (Q0U.sem k) :=
 QT (C := Q0U.ctx k) (Q0U.gok k) Try.mix (c := Func.code Try.f89) (ann := Q0U.ann k) (tin := Q0U.tin) (tout := Q0U.tout) (fun x K => Q0U.c k x.1 K) Try.func89 (by kernel_rfl) (by kernel_rfl) Q3.nil (Q0U.body k)
def Q1K.c (k : Nat) {ρ : Type} (t : Qh5) (K : (List Int) × Int × Unit → Option ρ) : Option ρ :=
 (Qh k (t.1, (t.2.1, (t.2.2.1, (t.2.2.2.1, ()))))).bind fun t0 => let v1 : ByteArray := t0.1
 let v2 : Int := t0.2.1
 bif (v2 != (0 : Int)) then (let v3 : (List Int) := (List.replicate 32 (0 : Int))
 K (v3, (v2, ()))) else ((Q0U k v1).bind fun t4 => K (t4.1, ((0 : Int), ())))
def Q1K (k : Nat) (t : Qh5) : Option ((List Int) × Int × Unit) := Q1K.c k t some
def Q1K.tin : List Ty := [Qh2]
def Q1K.tout : List Ty := [Qhe, (.int .i64)]
def Q1K.sem (k : Nat) : QY := Q04 Q1K.tin Q1K.tout fun x => Q1K k x.1
noncomputable def Q1K.ctx (k : Nat) : Ctx := ⟨Try.prog, gam [(32, (Qh.sem k)), (89, (Q0U.sem k))]⟩
theorem Q1K.gok (k : Nat) : ∀ f, QG Try.prog f ((Q1K.ctx k).Γ f) := (Qq (Qh.sem_ok k) (Qq (Q0U.sem_ok k) Q0e))
def Q1K.ann (k : Nat) : Ann := .nil
theorem Q1K.body (k : Nat) : Q0K (Q1K.ctx k) Try.f44 (Func.code Try.f44) (Q1K.ann k) Q1K.tin Q1K.tout (fun x K => Q1K.c k x.1 K) := by
 intro ρ x K; kernel_rfl
theorem Q1K.sem_ok (k : Nat) : QG Try.prog 44 (Q1K.sem k) :=
 QT (C := Q1K.ctx k) (Q1K.gok k) Try.mix (c := Func.code Try.f44) (ann := Q1K.ann k) (tin := Q1K.tin) (tout := Q1K.tout) (fun x K => Q1K.c k x.1 K) Try.func44 (by kernel_rfl) (by kernel_rfl) Q3.nil (Q1K.body k)
abbrev Q8.l0.σ : Type := ByteArray × Qhb × Int × Int × Qh7 × Unit
abbrev Q8.l0.τ : Type := Qh4 
def Q8.l0.r (k : Nat) {ρ : Type} (x : Q8.l0.σ) (kn : Q8.l0.σ → Option ρ) (ke : Q8.l0.τ → Option ρ) : Option ρ :=
 bif (decide (x.2.2.2.1 < x.2.2.1)) then (bif (decide (((0 : Int) ≤ x.2.2.2.1) ∧ (x.2.2.2.1 < (((List.length x.2.1) : Nat) : Int)))) then (let v8 : ByteArray := (bytesOf (List.take 32 (List.drop 0 (List.getD x.2.1 (Int.toNat x.2.2.2.1) ((List.replicate 32 (0 : Int)), ((0 : Int), (ByteArray.empty, ((0 : Int), ()))))).1)))
 let v9 : Int := (List.getD x.2.1 (Int.toNat x.2.2.2.1) ((List.replicate 32 (0 : Int)), ((0 : Int), (ByteArray.empty, ((0 : Int), ()))))).2.1
 (Qo k (IntKind.wrap IntKind.u64 v9) (4 : Int)).bind fun t10 => bif (Nat.ble ((ByteArray.size v8) + (ByteArray.size t10.1)) 9223372036854775807) then (let v11 : ByteArray := (v8 ++ t10.1)
 let v12 : ByteArray := (List.getD x.2.1 (Int.toNat x.2.2.2.1) ((List.replicate 32 (0 : Int)), ((0 : Int), (ByteArray.empty, ((0 : Int), ()))))).2.2.1
 (QS k (IntKind.wrap IntKind.u64 (((ByteArray.size v12) : Nat) : Int))).bind fun t13 => bif (Nat.ble ((ByteArray.size v11) + (ByteArray.size t13.1)) 9223372036854775807) then (let v14 : ByteArray := (v11 ++ t13.1)
 let v15 : ByteArray := (List.getD x.2.1 (Int.toNat x.2.2.2.1) ((List.replicate 32 (0 : Int)), ((0 : Int), (ByteArray.empty, ((0 : Int), ()))))).2.2.1
 bif (Nat.ble ((ByteArray.size v14) + (ByteArray.size v15)) 9223372036854775807) then (let v16 : ByteArray := (v14 ++ v15)
 let v17 : Int := (List.getD x.2.1 (Int.toNat x.2.2.2.1) ((List.replicate 32 (0 : Int)), ((0 : Int), (ByteArray.empty, ((0 : Int), ()))))).2.2.2.1
 (Qo k (IntKind.wrap IntKind.u64 v17) (4 : Int)).bind fun t18 => bif (Nat.ble ((ByteArray.size v16) + (ByteArray.size t18.1)) 9223372036854775807) then (let v19 : ByteArray := (v16 ++ t18.1)
 bif (Nat.ble ((ByteArray.size x.1) + (ByteArray.size v19)) 9223372036854775807) then (let v20 : ByteArray := (x.1 ++ v19)
 let v21 : Int := (IntKind.wrap IntKind.i64 (x.2.2.2.1 + (1 : Int)))
 kn (v20, (x.2.1, (x.2.2.1, (v21, ((x.2.2.2.2.1.1, (x.2.2.2.2.1.2.1, (x.2.2.2.2.1.2.2.1, (x.2.2.2.2.1.2.2.2.1, ())))), ())))))) else (none)) else (none)) else (none)) else (none)) else (none)) else (none)) else (ke (x.1, ((x.2.2.2.2.1.1, (x.2.2.2.2.1.2.1, (x.2.2.2.2.1.2.2.1, (x.2.2.2.2.1.2.2.2.1, ())))), ())))
def Q8.l0 (k : Nat) : Nat → Q8.l0.σ → Option Q8.l0.τ := Q0Q (Q8.l0.r k)
def Q8.l0.T : StT := ⟨us 1 ++ .ptr 0 [] :: us 1 ++ .dat .str :: us 15 ++ .dat Qh9 :: .dat (.int .i64) :: .dat (.int .i64) :: us 63, [.dat Qh3]⟩
def Q8.l0.os : List Out := [⟨(.exit 0), [.mask [1, 3], .auto 0], ⟨us 1 ++ .ptr 0 [] :: us 1 ++ .dat .str :: us 81, [.dat Qh3]⟩⟩]
abbrev Q8.l1.σ : Type := ByteArray × Qhd × Int × Int × Qh7 × Unit
abbrev Q8.l1.τ : Type := Qh4 
def Q8.l1.r (k : Nat) {ρ : Type} (x : Q8.l1.σ) (kn : Q8.l1.σ → Option ρ) (ke : Q8.l1.τ → Option ρ) : Option ρ :=
 bif (decide (x.2.2.2.1 < x.2.2.1)) then (bif (decide (((0 : Int) ≤ x.2.2.2.1) ∧ (x.2.2.2.1 < (((List.length x.2.1) : Nat) : Int)))) then (let v29 : Int := (List.getD x.2.1 (Int.toNat x.2.2.2.1) ((0 : Int), (ByteArray.empty, ()))).1
 (Qo k v29 (8 : Int)).bind fun t30 => let v31 : ByteArray := (List.getD x.2.1 (Int.toNat x.2.2.2.1) ((0 : Int), (ByteArray.empty, ()))).2.1
 (QS k (IntKind.wrap IntKind.u64 (((ByteArray.size v31) : Nat) : Int))).bind fun t32 => bif (Nat.ble ((ByteArray.size t30.1) + (ByteArray.size t32.1)) 9223372036854775807) then (let v33 : ByteArray := (t30.1 ++ t32.1)
 let v34 : ByteArray := (List.getD x.2.1 (Int.toNat x.2.2.2.1) ((0 : Int), (ByteArray.empty, ()))).2.1
 bif (Nat.ble ((ByteArray.size v33) + (ByteArray.size v34)) 9223372036854775807) then (let v35 : ByteArray := (v33 ++ v34)
 bif (Nat.ble ((ByteArray.size x.1) + (ByteArray.size v35)) 9223372036854775807) then (let v36 : ByteArray := (x.1 ++ v35)
 let v37 : Int := (IntKind.wrap IntKind.i64 (x.2.2.2.1 + (1 : Int)))
 kn (v36, (x.2.1, (x.2.2.1, (v37, ((x.2.2.2.2.1.1, (x.2.2.2.2.1.2.1, (x.2.2.2.2.1.2.2.1, (x.2.2.2.2.1.2.2.2.1, ())))), ())))))) else (none)) else (none)) else (none)) else (none)) else (ke (x.1, ((x.2.2.2.2.1.1, (x.2.2.2.2.1.2.1, (x.2.2.2.2.1.2.2.1, (x.2.2.2.2.1.2.2.2.1, ())))), ())))
def Q8.l1 (k : Nat) : Nat → Q8.l1.σ → Option Q8.l1.τ := Q0Q (Q8.l1.r k)
def Q8.l1.T : StT := ⟨us 1 ++ .ptr 0 [] :: us 1 ++ .dat .str :: us 54 ++ .dat Qhc :: .dat (.int .i64) :: .dat (.int .i64) :: us 24, [.dat Qh3]⟩
def Q8.l1.os : List Out := [⟨(.exit 2), [.mask [1, 3], .auto 0], ⟨us 1 ++ .ptr 0 [] :: us 1 ++ .dat .str :: us 81, [.dat Qh3]⟩⟩]
def Q8.c (k : Nat) {ρ : Type} (t : Qh7) (K : ByteArray × Unit → Option ρ) : Option ρ :=
 let v0 : Int := t.1
 (Qo k (IntKind.wrap IntKind.u64 v0) (4 : Int)).bind fun t1 => let v2 : Qhb := t.2.1
 let v3 : Int := (((List.length v2) : Nat) : Int)
 (QS k (IntKind.wrap IntKind.u64 v3)).bind fun t4 => bif (Nat.ble ((ByteArray.size t1.1) + (ByteArray.size t4.1)) 9223372036854775807) then (let v5 : ByteArray := (t1.1 ++ t4.1)
 let v6 : Qhb := t.2.1
 let v7 : Int := (((List.length v6) : Nat) : Int)
 (Q8.l0 k k (v5, (v6, (v7, ((0 : Int), ((t.1, (t.2.1, (t.2.2.1, (t.2.2.2.1, ())))), ())))))).bind fun t22 => let v23 : Qhd := t22.2.1.2.2.1
 let v24 : Int := (((List.length v23) : Nat) : Int)
 (QS k (IntKind.wrap IntKind.u64 v24)).bind fun t25 => bif (Nat.ble ((ByteArray.size t22.1) + (ByteArray.size t25.1)) 9223372036854775807) then (let v26 : ByteArray := (t22.1 ++ t25.1)
 let v27 : Qhd := t22.2.1.2.2.1
 let v28 : Int := (((List.length v27) : Nat) : Int)
 (Q8.l1 k k (v26, (v27, (v28, ((0 : Int), ((t22.2.1.1, (t22.2.1.2.1, (t22.2.1.2.2.1, (t22.2.1.2.2.2.1, ())))), ())))))).bind fun t38 => let v39 : Int := t38.2.1.2.2.2.1
 (Qo k (IntKind.wrap IntKind.u64 v39) (4 : Int)).bind fun t40 => bif (Nat.ble ((ByteArray.size t38.1) + (ByteArray.size t40.1)) 9223372036854775807) then (let v41 : ByteArray := (t38.1 ++ t40.1)
 K (v41, ())) else (none)) else (none)) else (none)
def Q8 (k : Nat) (t : Qh7) : Option (ByteArray × Unit) := Q8.c k t some
def Q8.tin : List Ty := [Qh3]
def Q8.tout : List Ty := [.str]
def Q8.sem (k : Nat) : QY := Q04 Q8.tin Q8.tout fun x => Q8 k x.1
noncomputable def Q8.ctx (k : Nat) : Ctx := ⟨Try.prog, gam [(92, (Qo.sem k)), (93, (QS.sem k))]⟩
theorem Q8.gok (k : Nat) : ∀ f, QG Try.prog f ((Q8.ctx k).Γ f) := (Qq (Qo.sem_ok k) (Qq (QS.sem_ok k) Q0e))
theorem Q8.l0.round (k : Nat) : Q0L (Q8.ctx k) (QP (Func.code Try.f46) [1, 1, 0, 1, 0, 0]) (.nil) Q8.l0.T [.mask [1, 3, 19, 20, 21], .auto 0] Q8.l0.os (Q8.l0.r k) := by
 intro ρ x kn ke; kernel_rfl
theorem Q8.l0.ok (k : Nat) : StOK 0 Try.prog (.loop (QP (Func.code Try.f46) [1, 1, 0, 1, 0, 0])) (Qx Q8.l0.T Q8.l0.os (Q8.l0 k k)) :=
 Q0M (C := Q8.ctx k) (Q8.gok k) Try.mix Q3.nil (by kernel_rfl) (by kernel_rfl) (by kernel_rfl) (Q8.l0.round k) k
theorem Q8.l1.round (k : Nat) : Q0L (Q8.ctx k) (QP (Func.code Try.f46) [1, 1, 1, 1, 0, 1, 0, 0]) (.nil) Q8.l1.T [.mask [1, 3, 58, 59, 60], .auto 0] Q8.l1.os (Q8.l1.r k) := by
 intro ρ x kn ke; kernel_rfl
theorem Q8.l1.ok (k : Nat) : StOK 0 Try.prog (.loop (QP (Func.code Try.f46) [1, 1, 1, 1, 0, 1, 0, 0])) (Qx Q8.l1.T Q8.l1.os (Q8.l1 k k)) :=
 Q0M (C := Q8.ctx k) (Q8.gok k) Try.mix Q3.nil (by kernel_rfl) (by kernel_rfl) (by kernel_rfl) (Q8.l1.round k) k
def Q8.ann (k : Nat) : Ann := .node [] none (.nil) (.node [] none (.nil) (.node [] none (.node [] none (.nil) (.node [] none (.node [.mask [1, 3, 19, 20, 21], .auto 0] (some (Qx Q8.l0.T Q8.l0.os (Q8.l0 k k))) .nil .nil) (.nil))) (.node [] none (.nil) (.node [] none (.node [] none (.nil) (.node [] none (.node [.mask [1, 3, 58, 59, 60], .auto 0] (some (Qx Q8.l1.T Q8.l1.os (Q8.l1 k k))) .nil .nil) (.nil))) (.nil)))))
theorem Q8.body (k : Nat) : Q0K (Q8.ctx k) Try.f46 (Func.code Try.f46) (Q8.ann k) Q8.tin Q8.tout (fun x K => Q8.c k x.1 K) := by
 intro ρ x K; kernel_rfl
theorem Q8.sem_ok (k : Nat) : QG Try.prog 46 (Q8.sem k) :=
 QT (C := Q8.ctx k) (Q8.gok k) Try.mix (c := Func.code Try.f46) (ann := Q8.ann k) (tin := Q8.tin) (tout := Q8.tout) (fun x K => Q8.c k x.1 K) Try.func46 (by kernel_rfl) (by kernel_rfl) (Q3.seq Q3.nil (Q3.seq Q3.nil (Q3.seq (Q3.seq Q3.nil (Q3.block (Q3.loop (by kernel_rfl) (Q8.l0.ok k)))) (Q3.seq Q3.nil (Q3.seq (Q3.seq Q3.nil (Q3.block (Q3.loop (by kernel_rfl) (Q8.l1.ok k)))) Q3.nil))))) (Q8.body k)
abbrev Q9.l0.σ : Type := Qhb × Int × Int × Qh7 × Unit
abbrev Q9.l0.τ : Type := (Int × Unit) ⊕ Qh6 
def Q9.l0.r (k : Nat) {ρ : Type} (x : Q9.l0.σ) (kn : Q9.l0.σ → Option ρ) (ke : Q9.l0.τ → Option ρ) : Option ρ :=
 bif (decide (x.2.2.1 < x.2.1)) then (bif (decide (((0 : Int) ≤ x.2.2.1) ∧ (x.2.2.1 < (((List.length x.1) : Nat) : Int)))) then (let v2 : ByteArray := (List.getD x.1 (Int.toNat x.2.2.1) ((List.replicate 32 (0 : Int)), ((0 : Int), (ByteArray.empty, ((0 : Int), ()))))).2.2.1
 bif (decide ((((ByteArray.size v2) : Nat) : Int) > (520 : Int))) then (ke (.inl ((100 : Int), ()))) else (let v3 : Int := (IntKind.wrap IntKind.i64 (x.2.2.1 + (1 : Int)))
 kn (x.1, (x.2.1, (v3, ((x.2.2.2.1.1, (x.2.2.2.1.2.1, (x.2.2.2.1.2.2.1, (x.2.2.2.1.2.2.2.1, ())))), ())))))) else (none)) else (ke (.inr ((x.2.2.2.1.1, (x.2.2.2.1.2.1, (x.2.2.2.1.2.2.1, (x.2.2.2.1.2.2.2.1, ())))), ())))
def Q9.l0 (k : Nat) : Nat → Q9.l0.σ → Option Q9.l0.τ := Q0Q (Q9.l0.r k)
def Q9.l0.T : StT := ⟨us 1 ++ .ptr 0 [] :: us 6 ++ .dat Qh9 :: .dat (.int .i64) :: .dat (.int .i64) :: us 24, [.dat Qh3]⟩
def Q9.l0.os : List Out := [⟨.ret, [.mask [2], .auto 0], ⟨us 2 ++ .dat (.int .i64) :: us 32, []⟩⟩, ⟨(.exit 0), [.mask [1], .auto 0], ⟨us 1 ++ .ptr 0 [] :: us 33, [.dat Qh3]⟩⟩]
abbrev Q9.l1.σ : Type := Qhd × Int × Int × Qh7 × Unit
abbrev Q9.l1.τ : Type := (Int × Unit) ⊕ Qh6 
def Q9.l1.r (k : Nat) {ρ : Type} (x : Q9.l1.σ) (kn : Q9.l1.σ → Option ρ) (ke : Q9.l1.τ → Option ρ) : Option ρ :=
 bif (decide (x.2.2.1 < x.2.1)) then (bif (decide (((0 : Int) ≤ x.2.2.1) ∧ (x.2.2.1 < (((List.length x.1) : Nat) : Int)))) then (let v9 : ByteArray := (List.getD x.1 (Int.toNat x.2.2.1) ((0 : Int), (ByteArray.empty, ()))).2.1
 bif (decide ((((ByteArray.size v9) : Nat) : Int) > (520 : Int))) then (ke (.inl ((100 : Int), ()))) else (let v10 : Int := (IntKind.wrap IntKind.i64 (x.2.2.1 + (1 : Int)))
 kn (x.1, (x.2.1, (v10, ((x.2.2.2.1.1, (x.2.2.2.1.2.1, (x.2.2.2.1.2.2.1, (x.2.2.2.1.2.2.2.1, ())))), ())))))) else (none)) else (ke (.inr ((x.2.2.2.1.1, (x.2.2.2.1.2.1, (x.2.2.2.1.2.2.1, (x.2.2.2.1.2.2.2.1, ())))), ())))
def Q9.l1 (k : Nat) : Nat → Q9.l1.σ → Option Q9.l1.τ := Q0Q (Q9.l1.r k)
def Q9.l1.T : StT := ⟨us 1 ++ .ptr 0 [] :: us 18 ++ .dat Qhc :: .dat (.int .i64) :: .dat (.int .i64) :: us 12, [.dat Qh3]⟩
def Q9.l1.os : List Out := [⟨.ret, [.mask [2], .auto 0], ⟨us 2 ++ .dat (.int .i64) :: us 32, []⟩⟩, ⟨(.exit 2), [.mask [1], .auto 0], ⟨us 1 ++ .ptr 0 [] :: us 33, [.dat Qh3]⟩⟩]
def Q9.c (k : Nat) {ρ : Type} (t : Qh7) (K : Int × Unit → Option ρ) : Option ρ :=
 let v0 : Qhb := t.2.1
 let v1 : Int := (((List.length v0) : Nat) : Int)
 (Q9.l0 k k (v0, (v1, ((0 : Int), ((t.1, (t.2.1, (t.2.2.1, (t.2.2.2.1, ())))), ()))))).bind fun t4 => (match t4 with | .inl t5 => (K (t5.1, ())) | .inr (t6) => (let v7 : Qhd := t6.1.2.2.1
 let v8 : Int := (((List.length v7) : Nat) : Int)
 (Q9.l1 k k (v7, (v8, ((0 : Int), ((t6.1.1, (t6.1.2.1, (t6.1.2.2.1, (t6.1.2.2.2.1, ())))), ()))))).bind fun t11 => (match t11 with | .inl t12 => (K (t12.1, ())) | .inr (t13) => ((Q8 k (t13.1.1, (t13.1.2.1, (t13.1.2.2.1, (t13.1.2.2.2.1, ()))))).bind fun t14 => let v15 : Int := (((ByteArray.size t14.1) : Nat) : Int)
 bif (decide (v15 > (4096 : Int))) then (K ((101 : Int), ())) else (K ((0 : Int), ()))))))
def Q9 (k : Nat) (t : Qh7) : Option (Int × Unit) := Q9.c k t some
def Q9.tin : List Ty := [Qh3]
def Q9.tout : List Ty := [(.int .i64)]
def Q9.sem (k : Nat) : QY := Q04 Q9.tin Q9.tout fun x => Q9 k x.1
noncomputable def Q9.ctx (k : Nat) : Ctx := ⟨Try.prog, gam [(46, (Q8.sem k))]⟩
theorem Q9.gok (k : Nat) : ∀ f, QG Try.prog f ((Q9.ctx k).Γ f) := (Qq (Q8.sem_ok k) Q0e)
theorem Q9.l0.round (k : Nat) : Q0L (Q9.ctx k) (QP (Func.code Try.f47) [1, 0, 1, 0, 0]) (.nil) Q9.l0.T [.mask [1, 8, 9, 10], .auto 0] Q9.l0.os (Q9.l0.r k) := by
 intro ρ x kn ke; kernel_rfl
theorem Q9.l0.ok (k : Nat) : StOK 0 Try.prog (.loop (QP (Func.code Try.f47) [1, 0, 1, 0, 0])) (Qx Q9.l0.T Q9.l0.os (Q9.l0 k k)) :=
 Q0M (C := Q9.ctx k) (Q9.gok k) Try.mix Q3.nil (by kernel_rfl) (by kernel_rfl) (by kernel_rfl) (Q9.l0.round k) k
theorem Q9.l1.round (k : Nat) : Q0L (Q9.ctx k) (QP (Func.code Try.f47) [1, 1, 0, 1, 0, 0]) (.nil) Q9.l1.T [.mask [1, 20, 21, 22], .auto 0] Q9.l1.os (Q9.l1.r k) := by
 intro ρ x kn ke; kernel_rfl
theorem Q9.l1.ok (k : Nat) : StOK 0 Try.prog (.loop (QP (Func.code Try.f47) [1, 1, 0, 1, 0, 0])) (Qx Q9.l1.T Q9.l1.os (Q9.l1 k k)) :=
 Q0M (C := Q9.ctx k) (Q9.gok k) Try.mix Q3.nil (by kernel_rfl) (by kernel_rfl) (by kernel_rfl) (Q9.l1.round k) k
def Q9.ann (k : Nat) : Ann := .node [] none (.nil) (.node [] none (.node [] none (.nil) (.node [] none (.node [.mask [1, 8, 9, 10], .auto 0] (some (Qx Q9.l0.T Q9.l0.os (Q9.l0 k k))) .nil .nil) (.nil))) (.node [] none (.node [] none (.nil) (.node [] none (.node [.mask [1, 20, 21, 22], .auto 0] (some (Qx Q9.l1.T Q9.l1.os (Q9.l1 k k))) .nil .nil) (.nil))) (.nil)))
theorem Q9.body (k : Nat) : Q0K (Q9.ctx k) Try.f47 (Func.code Try.f47) (Q9.ann k) Q9.tin Q9.tout (fun x K => Q9.c k x.1 K) := by
 intro ρ x K; kernel_rfl
theorem Q9.sem_ok (k : Nat) : QG Try.prog 47 (Q9.sem k) :=
 QT (C := Q9.ctx k) (Q9.gok k) Try.mix (c := Func.code Try.f47) (ann := Q9.ann k) (tin := Q9.tin) (tout := Q9.tout) (fun x K => Q9.c k x.1 K) Try.func47 (by kernel_rfl) (by kernel_rfl) (Q3.seq Q3.nil (Q3.seq (Q3.seq Q3.nil (Q3.block (Q3.loop (by kernel_rfl) (Q9.l0.ok k)))) (Q3.seq (Q3.seq Q3.nil (Q3.block (Q3.loop (by kernel_rfl) (Q9.l1.ok k)))) Q3.nil))) (Q9.body k)
def Q06.c (k : Nat) {ρ : Type} (s : ByteArray) (K : (List Int) × Unit → Option ρ) : Option ρ :=
 (Qd k s).bind fun t0 => let v1 : ByteArray := (bytesOf (List.take 32 (List.drop 0 t0.1)))
 (Qd k v1).bind fun t2 => K (t2.1, ())
def Q06 (k : Nat) (s : ByteArray) : Option ((List Int) × Unit) := Q06.c k s some
def Q06.tin : List Ty := [.str]
def Q06.tout : List Ty := [Qhe]
def Q06.sem (k : Nat) : QY := Q04 Q06.tin Q06.tout fun x => Q06 k x.1
noncomputable def Q06.ctx (k : Nat) : Ctx := ⟨Try.prog, gam [(94, (Qd.sem k))]⟩
theorem Q06.gok (k : Nat) : ∀ f, QG Try.prog f ((Q06.ctx k).Γ f) := (Qq (Qd.sem_ok k) Q0e)
def Q06.ann (k : Nat) : Ann := .nil
theorem Q06.body (k : Nat) : Q0K (Q06.ctx k) Try.f54 (Func.code Try.f54) (Q06.ann k) Q06.tin Q06.tout (fun x K => Q06.c k x.1 K) := by
 intro ρ x K; kernel_rfl
theorem Q06.sem_ok (k : Nat) : QG Try.prog 54 (Q06.sem k) :=
 QT (C := Q06.ctx k) (Q06.gok k) Try.mix (c := Func.code Try.f54) (ann := Q06.ann k) (tin := Q06.tin) (tout := Q06.tout) (fun x K => Q06.c k x.1 K) Try.func54 (by kernel_rfl) (by kernel_rfl) Q3.nil (Q06.body k)
def Q0q.c (k : Nat) {ρ : Type} (t : Qh7) (K : (List Int) × Bool × Unit → Option ρ) : Option ρ :=
 (Q9 k (t.1, (t.2.1, (t.2.2.1, (t.2.2.2.1, ()))))).bind fun t0 => bif (t0.1 != (0 : Int)) then (let v1 : (List Int) := (List.replicate 32 (0 : Int))
 K (v1, (false, ()))) else ((Q8 k (t.1, (t.2.1, (t.2.2.1, (t.2.2.2.1, ()))))).bind fun t2 => (Q06 k t2.1).bind fun t3 => K (t3.1, (true, ())))
def Q0q (k : Nat) (t : Qh7) : Option ((List Int) × Bool × Unit) := Q0q.c k t some
def Q0q.tin : List Ty := [Qh3]
def Q0q.tout : List Ty := [Qhe, .bool]
def Q0q.sem (k : Nat) : QY := Q04 Q0q.tin Q0q.tout fun x => Q0q k x.1
noncomputable def Q0q.ctx (k : Nat) : Ctx := ⟨Try.prog, gam [(47, (Q9.sem k)), (46, (Q8.sem k)), (54, (Q06.sem k))]⟩
theorem Q0q.gok (k : Nat) : ∀ f, QG Try.prog f ((Q0q.ctx k).Γ f) := (Qq (Q9.sem_ok k) (Qq (Q8.sem_ok k) (Qq (Q06.sem_ok k) Q0e)))
def Q0q.ann (k : Nat) : Ann := .nil
theorem Q0q.body (k : Nat) : Q0K (Q0q.ctx k) Try.f48 (Func.code Try.f48) (Q0q.ann k) Q0q.tin Q0q.tout (fun x K => Q0q.c k x.1 K) := by
 intro ρ x K; kernel_rfl
theorem Q0q.sem_ok (k : Nat) : QG Try.prog 48 (Q0q.sem k) :=
 QT (C := Q0q.ctx k) (Q0q.gok k) Try.mix (c := Func.code Try.f48) (ann := Q0q.ann k) (tin := Q0q.tin) (tout := Q0q.tout) (fun x K => Q0q.c k x.1 K) Try.func48 (by kernel_rfl) (by kernel_rfl) Q3.nil (Q0q.body k)
abbrev Qj.p0.σ : Type := ByteArray × Int × Int × Qh5 × (List Int) × Qh7 × Unit
abbrev Qj.p0.τ : Type := (Bool × Unit) ⊕ (ByteArray × Int × (List Int) × Qh7 × Unit)
def Qj.p0.r (k : Nat) {ρ : Type} (x : Qj.p0.σ) (K : Qj.p0.τ → Option ρ) : Option ρ :=
 (QJ k ).bind fun t7 => bif (!t7.1) then (K (.inl (false, ()))) else ((Q0a k (x.2.2.2.1.1, (x.2.2.2.1.2.1, (x.2.2.2.1.2.2.1, (x.2.2.2.1.2.2.2.1, ()))))).bind fun t8 => (Q8 k (x.2.2.2.2.2.1.1, (x.2.2.2.2.2.1.2.1, (x.2.2.2.2.2.1.2.2.1, (x.2.2.2.2.2.1.2.2.2.1, ()))))).bind fun t9 => let v10 : Int := (((ByteArray.size t9.1) : Nat) : Int)
 bif (t8.1 != v10) then (K (.inl (false, ()))) else ((Q9 k (x.2.2.2.2.2.1.1, (x.2.2.2.2.2.1.2.1, (x.2.2.2.2.2.1.2.2.1, (x.2.2.2.2.2.1.2.2.2.1, ()))))).bind fun t11 => bif (x.2.1 != t11.1) then (K (.inl (false, ()))) else (bif (x.2.2.1 != x.2.1) then (K (.inl (false, ()))) else (K (.inr (x.1, (x.2.1, (x.2.2.2.2.1, ((x.2.2.2.2.2.1.1, (x.2.2.2.2.2.1.2.1, (x.2.2.2.2.2.1.2.2.1, (x.2.2.2.2.2.1.2.2.2.1, ())))), ())))))))))
def Qj.p0 (k : Nat) (x : Qj.p0.σ) : Option Qj.p0.τ := Qj.p0.r k x some
def Qj.p0.T : StT := ⟨us 1 ++ .ptr 0 [] :: us 1 ++ .dat .str :: .dat (.int .i64) :: .ptr 1 [] :: .dat (.int .i64) :: .ptr 2 [] :: us 61, [.dat Qh2, .dat Qhe, .dat Qh3]⟩
def Qj.p0.os : List Out := [⟨.ret, [.mask [2], .auto 0], ⟨us 2 ++ .dat .bool :: us 66, []⟩⟩, ⟨.normal, [.mask [3, 4, 5, 7], .auto 0], ⟨us 3 ++ .dat .str :: .dat (.int .i64) :: .ptr 0 [] :: us 1 ++ .ptr 1 [] :: us 61, [.dat Qhe, .dat Qh3]⟩⟩]
def Qj.c (k : Nat) {ρ : Type} (t : Qh5) (K : Bool × Unit → Option ρ) : Option ρ :=
 (Qh k (t.1, (t.2.1, (t.2.2.1, (t.2.2.2.1, ()))))).bind fun t0 => let v1 : ByteArray := t0.1
 let v2 : Int := t0.2.1
 (Q1K k (t.1, (t.2.1, (t.2.2.1, (t.2.2.2.1, ()))))).bind fun t3 => let v4 : (List Int) := t3.1
 let v5 : Int := t3.2.1
 (Q6 k (t.1, (t.2.1, (t.2.2.1, (t.2.2.2.1, ()))))).bind fun t6 => (Qj.p0 k (v1, (v2, (v5, ((t.1, (t.2.1, (t.2.2.1, (t.2.2.2.1, ())))), (v4, ((t6.1.1, (t6.1.2.1, (t6.1.2.2.1, (t6.1.2.2.2.1, ())))), ()))))))).bind fun t12 => (match t12 with | .inl t13 => (K (t13.1, ())) | .inr (t14) => (bif (t14.2.1 != (0 : Int)) then (bif (Q25 t14.1 (⟨(List.toArray [])⟩ : ByteArray)) then (let v15 : (List Int) := t14.2.2.1
 let v16 : (List Int) := (List.replicate 32 (0 : Int))
 K ((decide (v15 = v16)), ())) else (K (false, ()))) else ((Q0q k (t14.2.2.2.1.1, (t14.2.2.2.1.2.1, (t14.2.2.2.1.2.2.1, (t14.2.2.2.1.2.2.2.1, ()))))).bind fun t17 => let v18 : (List Int) := t17.1
 (Q8 k (t14.2.2.2.1.1, (t14.2.2.2.1.2.1, (t14.2.2.2.1.2.2.1, (t14.2.2.2.1.2.2.2.1, ()))))).bind fun t19 => bif (Q25 t14.1 t19.1) then (bif t17.2.1 then (let v20 : (List Int) := t14.2.2.1
 K ((decide (v20 = v18)), ())) else (K (false, ()))) else (K (false, ())))))
def Qj (k : Nat) (t : Qh5) : Option (Bool × Unit) := Qj.c k t some
def Qj.tin : List Ty := [Qh2]
def Qj.tout : List Ty := [.bool]
def Qj.sem (k : Nat) : QY := Q04 Qj.tin Qj.tout fun x => Qj k x.1
noncomputable def Qj.ctx (k : Nat) : Ctx := ⟨Try.prog, gam [(32, (Qh.sem k)), (44, (Q1K.sem k)), (23, (Q6.sem k)), (21, (QJ.sem k)), (45, (Q0a.sem k)), (46, (Q8.sem k)), (47, (Q9.sem k)), (48, (Q0q.sem k))]⟩
theorem Qj.gok (k : Nat) : ∀ f, QG Try.prog f ((Qj.ctx k).Γ f) := (Qq (Qh.sem_ok k) (Qq (Q1K.sem_ok k) (Qq (Q6.sem_ok k) (Qq (QJ.sem_ok k) (Qq (Q0a.sem_ok k) (Qq (Q8.sem_ok k) (Qq (Q9.sem_ok k) (Qq (Q0q.sem_ok k) Q0e))))))))
theorem Qj.p0.is (k : Nat) : Q1E (Qj.ctx k) (QP (Func.code Try.f10) [1, 1, 1, 1, 0]) (.nil) Qj.p0.T Qj.p0.os (Qj.p0.r k) := by
 intro ρ x K; kernel_rfl
theorem Qj.p0.ok (k : Nat) : StOK 0 Try.prog (QP (Func.code Try.f10) [1, 1, 1, 1, 0]) (Qx Qj.p0.T Qj.p0.os (Qj.p0 k)) :=
 Q1r (C := Qj.ctx k) (T := Qj.p0.T) (os := Qj.p0.os) (Qj.gok k) Try.mix (fun x K => Qj.p0.r k x K) Q3.nil (by kernel_rfl) (by kernel_rfl) (Qj.p0.is k)
def Qj.ann (k : Nat) : Ann := .node [] none (.nil) (.node [] none (.nil) (.node [] none (.nil) (.node [] none (.nil) (.node [] none (.node [.mask [1, 3, 4, 5, 6, 7], .auto 0] (some (Qx Qj.p0.T Qj.p0.os (Qj.p0 k))) .nil .nil) (.nil)))))
theorem Qj.body (k : Nat) : Q0K (Qj.ctx k) Try.f10 (Func.code Try.f10) (Qj.ann k) Qj.tin Qj.tout (fun x K => Qj.c k x.1 K) := by
 intro ρ x K; kernel_rfl
theorem Qj.sem_ok (k : Nat) : QG Try.prog 10 (Qj.sem k) :=
 QT (C := Qj.ctx k) (Qj.gok k) Try.mix (c := Func.code Try.f10) (ann := Qj.ann k) (tin := Qj.tin) (tout := Qj.tout) (fun x K => Qj.c k x.1 K) Try.func10 (by kernel_rfl) (by kernel_rfl) (Q3.seq Q3.nil (Q3.seq Q3.nil (Q3.seq Q3.nil (Q3.seq Q3.nil (Q3.seq (Q3.loop (by kernel_rfl) (Qj.p0.ok k)) Q3.nil))))) (Qj.body k)
end Go.Am
namespace Go.Am
open Go
theorem Q7G (a : List Int) : (sumL a).length = 32 := Q90 _
theorem Qf9 (a : List Int) : Q1z 0 255 (sumL a) := Qc1 _
theorem Q9p (a : List Int) : QB (bytesOf ((((sumL a).drop 0).take 32))) = sumL a := by
 rw [List.drop_zero, List.take_of_length_le (by rw [Q7G]; omega)]
 exact Q1D fun x hx => by have := Qf9 a x hx; omega
theorem Q6A (a : List Int) : (bytesOf ((((sumL a).drop 0).take 32))).size = 32 := by
 rw [Q0A]; simp [Q7G]
theorem Qag {k : Nat} (hk : 128 < k) {s : ByteArray} (hs : s.size ≤ 140737488354000) (hf : s.size / 64 + 1 < k) : Q0U k s = some (sumL (sumL (QB s)), ()) := by
 unfold Q0U Q0U.c
 rw [Q86 hk hs hf]
 simp only [Option.bind_some]
 rw [Q86 hk (by rw [Q6A]; omega) (by rw [Q6A]; omega), Q9p]
 rfl
theorem Qah {k : Nat} (hk : 128 < k) {s : ByteArray} (hs : s.size ≤ 140737488354000) (hf : s.size / 64 + 2 < k) : Q06 k s = some (sumL (sumL (QB s)), ()) := by
 unfold Q06 Q06.c
 rw [Q8M hk hs hf]
 simp only [Option.bind_some]
 rw [Q8M hk (by rw [Q6A]; omega) (by rw [Q6A]; omega), Q9p]
 rfl
end Go.Am
namespace Go.Am
open Go
theorem Q2W {l : List TIn} {i : Nat} (h : i < l.length) : (l.map gIn).getD i dR = gIn (l.getD i dIn) := by
 rw [List.getD_eq_getElem?_getD, List.getD_eq_getElem?_getD, List.getElem?_map, List.getElem?_eq_getElem h]
 rfl
theorem Q34 {k : Nat} {t : TTx} (ht : TxOK t) (hb : (encL t).length ≤ 4611686018427387904) (hk : t.2.1.length + t.2.2.1.length + 20 ≤ k) : Q8 k (gTx t) = some (bytesOf (encL t), ()) := by
 obtain ⟨v, ins, outs, tm, u⟩ := t
 obtain ⟨hv, htm, hi, ho, hni, hno⟩ := ht
 dsimp only at hv htm hi ho hni hno hk
 have hlen := Q3l (v, ins, outs, tm, u)
 dsimp only at hlen
 have hv1 := hv.1
 have hv2 := hv.2
 have ht1 := htm.1
 have ht2 := htm.2
 unfold Q8 Q8.c
 show (Qo k (IntKind.u64.wrap v) ((4 : Nat) : Int)).bind _ = _
 rw [u64_in (n := v) (by omega), Q1P (by omega) v (by omega) 4 (by omega)]
 simp only [Option.bind_some]
 rw [show (gTx (v, ins, outs, tm, u)).2.1 = ins.map gIn from rfl, List.length_map, u64_in (n := (ins.length : Int)) (by omega), Q2s (by omega) _ (by omega)]
 simp only [Option.bind_some]
 rw [QR (Q1p (by rw [Q0A, Q0A, Q0B]; omega)), Q0W]
 generalize hP : lowI v 4 ++ Q17 (ins.length : Int) = P
 have hPl : P.length = 4 + (Q17 (ins.length : Int)).length := by rw [← hP, List.length_append, Q0B]
 have l0 : Q8.l0 k k (bytesOf P, ins.map gIn, (ins.length : Int), (0 : Int), (v, ins.map gIn, outs, tm, ()), ()) = some (bytesOf (P ++ cat Q1k dIn ins ins.length), (v, ins.map gIn, outs, tm, ()), ()) := by
  have := Q0V (r := Q8.l0.r k) (fun i => (bytesOf (P ++ cat Q1k dIn ins i), ins.map gIn, (ins.length : Int), (i : Int), (v, ins.map gIn, outs, tm, ()), ())) ins.length
   (bytesOf (P ++ cat Q1k dIn ins ins.length), (v, ins.map gIn, outs, tm, ()), ()) ?_ ?_ (fuel := k) (by omega)
  ·rw [cat, List.append_nil] at this
   exact this
  ·intro i h kn ke
   simp only [Q8.l0.r]
   have m := Q2V Q1k dIn ins (i := i + 1) (n := ins.length) (by omega)
   rw [cat, List.length_append] at m
   have ok := hi i h
   have e := Q38 ok
   have e2 := Q1v ((ins.getD i dIn).2.1.size : Int)
   have e3 := Q1Y ((ins.getD i dIn).2.1.size : Int)
   rw [Qy (by omega), Qy (by rw [List.length_map]; omega), show (i : Int).toNat = i by omega, Q4H, Q2W h]
   generalize hx : ins.getD i dIn = y at m ok e e2 e3 ⊢
   obtain ⟨⟨hash, idx, u0⟩, key, sq, u1⟩ := y
   obtain ⟨⟨q1, q2⟩, q3, q4⟩ := ok
   dsimp only [gIn] at q1 q2 q3 q4 e e2 e3 ⊢
   have a1 := q3.1
   have a2 := q3.2
   have a3 := q4.1
   have a4 := q4.2
   have hs : (bytesOf (P ++ cat Q1k dIn ins i)).size = P.length + (cat Q1k dIn ins i).length := by rw [Q0A, List.length_append]
   have ht32 : (hash.take 32).length = 32 := by rw [List.length_take]; omega
   rw [List.drop_zero, u64_in (n := idx) (by omega), show (4 : Int) = ((4 : Nat) : Int) from rfl, Q1P (by omega) idx (by omega) 4 (by omega)]
   simp only [Option.bind_some]
   rw [QR (Q1p (by rw [Q0A, Q0A, Q0B, ht32]; omega)), Q0W, u64_in (n := (key.size : Int)) (by omega), Q2s (by omega) _ (by omega)]
   simp only [Option.bind_some]
   rw [QR (Q1p (by rw [Q0A, Q0A, List.length_append, Q0B, ht32]; omega)), Q0W]
   rw [QR (Q1p (by rw [Q0A, List.length_append, List.length_append, Q0B, ht32]; omega)), show key = bytesOf (QB key) from (Q2i key).symm, Q0W, u64_in (n := sq) (by omega), Q1P (by omega) sq (by omega) 4 (by omega)]
   simp only [Option.bind_some, Q2i]
   have hz := Q0i key
   rw [QR (Q1p (by simp only [Q0A, List.length_append, Q0B, ht32]; omega)), Q0W]
   rw [QR (Q1p (by simp only [Q0A, List.length_append, Q0B, ht32]; omega)), Q0W, i64_in (by omega)]
   have e4 : P ++ cat Q1k dIn ins i ++ (hash.take 32 ++ lowI idx 4 ++ Q17 (key.size : Int) ++ QB key ++ lowI sq 4) = P ++ cat Q1k dIn ins (i + 1) := by
    rw [cat, hx]
    unfold Q1k Q2X
    simp only [List.append_assoc]
   rw [e4]
   rfl
  ·intro kn ke
   simp only [Q8.l0.r]
   rw [Q0I (by omega)]
 show (Q8.l0 k k (bytesOf P, ins.map gIn, (ins.length : Int), (0 : Int), (v, ins.map gIn, outs, tm, ()), ())).bind _ = _
 rw [l0]
 simp only [Option.bind_some]
 rw [u64_in (n := (outs.length : Int)) (by omega), Q2s (by omega) _ (by omega)]
 simp only [Option.bind_some]
 rw [QR (Q1p (by simp only [Q0A, List.length_append]; omega)), Q0W]
 generalize hQ : P ++ cat Q1k dIn ins ins.length ++ Q17 (outs.length : Int) = Q
 have hQl : Q.length = P.length + (cat Q1k dIn ins ins.length).length + (Q17 (outs.length : Int)).length := by rw [← hQ, List.length_append, List.length_append]
 have l1 : Q8.l1 k k (bytesOf Q, outs, (outs.length : Int), (0 : Int), (v, ins.map gIn, outs, tm, ()), ()) = some (bytesOf (Q ++ cat Q1b dOut outs outs.length), (v, ins.map gIn, outs, tm, ()), ()) := by
  have := Q0V (r := Q8.l1.r k) (fun i => (bytesOf (Q ++ cat Q1b dOut outs i), outs, (outs.length : Int), (i : Int), (v, ins.map gIn, outs, tm, ()), ())) outs.length
   (bytesOf (Q ++ cat Q1b dOut outs outs.length), (v, ins.map gIn, outs, tm, ()), ()) ?_ ?_ (fuel := k) (by omega)
  ·rw [cat, List.append_nil] at this
   exact this
  ·intro i h kn ke
   simp only [Q8.l1.r]
   have m := Q2V Q1b dOut outs (i := i + 1) (n := outs.length) (by omega)
   rw [cat, List.length_append] at m
   have ok := ho i h
   have e := Q2G (outs.getD i dOut)
   have e2 := Q1v ((outs.getD i dOut).2.1.size : Int)
   have e3 := Q1Y ((outs.getD i dOut).2.1.size : Int)
   rw [Qy (by omega), Qy (by omega), show (i : Int).toNat = i by omega, Q2Z]
   generalize hx : outs.getD i dOut = y at m ok e e2 e3 ⊢
   obtain ⟨val, lock, u1⟩ := y
   obtain ⟨q1, q2⟩ := ok
   dsimp only at q1 q2 e e2 e3 ⊢
   have hs : (bytesOf (Q ++ cat Q1b dOut outs i)).size = Q.length + (cat Q1b dOut outs i).length := by rw [Q0A, List.length_append]
   have hz := Q0i lock
   rw [show (8 : Int) = ((8 : Nat) : Int) from rfl, Q1P (by omega) val (by omega) 8 (by omega)]
   simp only [Option.bind_some]
   rw [u64_in (n := (lock.size : Int)) (by omega), Q2s (by omega) _ (by omega)]
   simp only [Option.bind_some]
   rw [QR (Q1p (by simp only [Q0A, Q0B]; omega)), Q0W]
   rw [QR (Q1p (by simp only [Q0A, List.length_append, Q0B]; omega)), show lock = bytesOf (QB lock) from (Q2i lock).symm, Q0W]
   simp only [Q2i]
   rw [QR (Q1p (by simp only [Q0A, List.length_append, Q0B]; omega)), Q0W, i64_in (by omega)]
   have e4 : Q ++ cat Q1b dOut outs i ++ (lowI val 8 ++ Q17 (lock.size : Int) ++ QB lock) = Q ++ cat Q1b dOut outs (i + 1) := by
    rw [cat, hx]
    unfold Q1b Q2X
    simp only [List.append_assoc]
   rw [e4]
   rfl
  ·intro kn ke
   simp only [Q8.l1.r]
   rw [Q0I (by omega)]
 show (Q8.l1 k k (bytesOf Q, outs, (outs.length : Int), (0 : Int), (v, ins.map gIn, outs, tm, ()), ())).bind _ = _
 rw [l1]
 simp only [Option.bind_some]
 rw [u64_in (n := tm) (by omega), show (4 : Int) = ((4 : Nat) : Int) from rfl, Q1P (by omega) tm (by omega) 4 (by omega)]
 simp only [Option.bind_some]
 rw [QR (Q1p (by simp only [Q0A, List.length_append, Q0B]; omega)), Q0W]
 have e5 : Q ++ cat Q1b dOut outs outs.length ++ lowI tm 4 = encL (v, ins, outs, tm, u) := by rw [← hQ, ← hP]; rfl
 rw [e5]
theorem Q43 {k : Nat} {t : TTx} (ht : TxOK t) (hk : t.2.1.length + t.2.2.1.length + 20 ≤ k) : Q9 k (gTx t) = some ((encS t).2, ()) := by
 obtain ⟨v, ins, outs, tm, u⟩ := t
 have ht' := ht
 obtain ⟨hv, htm, hi, ho, hni, hno⟩ := ht'
 dsimp only at hv htm hi ho hni hno hk
 unfold Q9 Q9.c
 have l0 : Q9.l0 k k (ins.map gIn, (ins.length : Int), (0 : Int), (v, ins.map gIn, outs, tm, ()), ()) = some (if ∀ i, i < ins.length → decide ((ins.getD i dIn).2.1.size ≤ 520) = true then .inr ((v, ins.map gIn, outs, tm, ()), ()) else .inl (100, ())) := by
  refine Q23 (r := Q9.l0.r k) (fun i => (ins.map gIn, (ins.length : Int), (i : Int), (v, ins.map gIn, outs, tm, ()), ())) ins.length _ _ (fun i => decide ((ins.getD i dIn).2.1.size ≤ 520)) ?_ ?_ ?_ (by omega)
  ·intro i h hp kn ke
   simp only [Q9.l0.r]
   have hq := of_decide_eq_true hp
   rw [Qy (by omega), Qy (by rw [List.length_map]; omega), show (i : Int).toNat = i by omega, Q4H, Q2W h]
   rw [Q0I (show ¬ ((((gIn (ins.getD i dIn)).2.2.1.size : Nat) : Int) > 520) by show ¬ (((ins.getD i dIn).2.1.size : Nat) : Int) > 520; omega), i64_in (by omega)]
   rfl
  ·intro i h hp kn ke
   simp only [Q9.l0.r]
   have hq := of_decide_eq_false hp
   rw [Qy (by omega), Qy (by rw [List.length_map]; omega), show (i : Int).toNat = i by omega, Q4H, Q2W h]
   rw [Qy (show ((((gIn (ins.getD i dIn)).2.2.1.size : Nat) : Int) > 520) by show (((ins.getD i dIn).2.1.size : Nat) : Int) > 520; omega)]
  ·intro kn ke
   simp only [Q9.l0.r]
   rw [Q0I (by omega)]
 rw [show (gTx (v, ins, outs, tm, u)).2.1 = ins.map gIn from rfl]
 dsimp only
 rw [List.length_map]
 show (Q9.l0 k k (ins.map gIn, (ins.length : Int), (0 : Int), (v, ins.map gIn, outs, tm, ()), ())).bind _ = _
 rw [l0]
 simp only [Option.bind_some]
 by_cases c1 : ∀ i, i < ins.length → decide ((ins.getD i dIn).2.1.size ≤ 520) = true
 case neg =>
  rw [if_neg c1]
  have : ¬ scOK (v, ins, outs, tm, u) := fun h => c1 fun i hi => decide_eq_true (h.1 i hi)
  unfold encS
  rw [if_neg this]
 rw [if_pos c1]
 dsimp only
 have l1 : Q9.l1 k k (outs, (outs.length : Int), (0 : Int), (v, ins.map gIn, outs, tm, ()), ()) = some (if ∀ i, i < outs.length → decide ((outs.getD i dOut).2.1.size ≤ 520) = true then .inr ((v, ins.map gIn, outs, tm, ()), ()) else .inl (100, ())) := by
  refine Q23 (r := Q9.l1.r k) (fun i => (outs, (outs.length : Int), (i : Int), (v, ins.map gIn, outs, tm, ()), ())) outs.length _ _ (fun i => decide ((outs.getD i dOut).2.1.size ≤ 520)) ?_ ?_ ?_ (by omega)
  ·intro i h hp kn ke
   simp only [Q9.l1.r]
   have hq := of_decide_eq_true hp
   rw [Q2Z, Qy (by omega), Qy (by omega), show (i : Int).toNat = i by omega, Q0I (by omega), i64_in (by omega)]
   rfl
  ·intro i h hp kn ke
   simp only [Q9.l1.r]
   have hq := of_decide_eq_false hp
   rw [Q2Z, Qy (by omega), Qy (by omega), show (i : Int).toNat = i by omega, Qy (by omega)]
  ·intro kn ke
   simp only [Q9.l1.r]
   rw [Q0I (by omega)]
 rw [l1]
 simp only [Option.bind_some]
 by_cases c2 : ∀ i, i < outs.length → decide ((outs.getD i dOut).2.1.size ≤ 520) = true
 case neg =>
  rw [if_neg c2]
  have : ¬ scOK (v, ins, outs, tm, u) := fun h => c2 fun i hi => decide_eq_true (h.2 i hi)
  unfold encS
  rw [if_neg this]
 rw [if_pos c2]
 dsimp only
 have hs : scOK (v, ins, outs, tm, u) := ⟨fun i h => of_decide_eq_true (c1 i h), fun i h => of_decide_eq_true (c2 i h)⟩
 have hbd := Q8H ht hs
 show (Q8 k (gTx (v, ins, outs, tm, u))).bind _ = _
 rw [Q34 ht hbd hk]
 simp only [Option.bind_some]
 unfold encS
 rw [if_pos hs, Q0A]
 by_cases c3 : (encL (v, ins, outs, tm, u)).length > 4096
 ·rw [Qy (by omega), if_pos c3]
 ·rw [Q0I (by omega), if_neg c3]
def idS (t : TTx) : List Int := if (encS t).2 ≠ 0 then List.replicate 32 0 else sumL (sumL (encL t))
theorem QfE (t : TTx) : (encS t).1.size ≤ 4096 := by
 unfold encS
 split
 ·split
  ·exact Nat.zero_le _
  ·rw [Q0A]; omega
 ·exact Nat.zero_le _
theorem Q8R {t : TTx} (h : (encS t).2 = 0) : scOK t ∧ (encL t).length ≤ 4096 ∧ (encS t).1 = bytesOf (encL t) := by
 unfold encS at h ⊢
 by_cases c : scOK t
 ·rw [if_pos c] at h ⊢
  by_cases c2 : (encL t).length > 4096
  ·rw [if_pos c2] at h; simp at h
  ·rw [if_neg c2]
   exact ⟨c, by omega, rfl⟩
 ·rw [if_neg c] at h; simp at h
theorem QdS {t : TTx} (h : (encS t).2 ≠ 0) : (encS t).1 = eb := by
 unfold encS at h ⊢
 by_cases c : scOK t
 ·rw [if_pos c] at h ⊢
  by_cases c2 : (encL t).length > 4096
  ·rw [if_pos c2]
  ·rw [if_neg c2] at h; exact absurd rfl h
 ·rw [if_neg c]
theorem Qer {k : Nat} {t : TTx} (ht : TxOK t) (hk : t.2.1.length + t.2.2.1.length + 300 ≤ k) : Q1K k t = some (idS t, (encS t).2, ()) := by
 unfold Q1K Q1K.c
 show (Qh k t).bind _ = _
 rw [Q3v ht (by omega)]
 simp only [Option.bind_some]
 unfold idS
 by_cases c : (encS t).2 ≠ 0
 ·rw [QR (by simpa using c), if_pos c]
 ·have c' : (encS t).2 = 0 := by simpa using c
  obtain ⟨_, h2, h3⟩ := Q8R c'
  rw [Q0v (by simpa using c), if_neg c, h3, Qag (by omega) (by rw [Q0A]; omega) (by rw [Q0A]; omega), Q1D (Qau ht), c']
  rfl
theorem Qb9 {k : Nat} {t : TTx} (ht : TxOK t) (hk : t.2.1.length + t.2.2.1.length + 300 ≤ k) : Q0q k (gTx t) = some (idS t, decide ((encS t).2 = 0), ()) := by
 unfold Q0q Q0q.c
 show (Q9 k (gTx t)).bind _ = _
 rw [Q43 ht (by omega)]
 simp only [Option.bind_some]
 unfold idS
 by_cases c : (encS t).2 ≠ 0
 ·rw [QR (by simpa using c), if_pos c, decide_eq_false c]
 ·have c' : (encS t).2 = 0 := by simpa using c
  obtain ⟨_, h2, h3⟩ := Q8R c'
  rw [Q0v (by simpa using c), if_neg c]
  show (Q8 k (gTx t)).bind _ = _
  rw [Q34 ht (by omega) (by omega)]
  simp only [Option.bind_some]
  rw [Qah (by omega) (by rw [Q0A]; omega) (by rw [Q0A]; omega), Q1D (Qau ht), decide_eq_true c']
  rfl
theorem QeK {t : TTx} (ht : TxOK t) (hb : (encL t).length ≤ 4611686018427387904) (h1 : t.2.1.length ≤ 1048576) (h2 : t.2.2.1.length ≤ 1048576) : Qj 3000000 t = some (true, ()) := by
 unfold Qj Qj.c
 generalize hk : 3000000 = k
 show (Qh k t).bind _ = _
 rw [Q3v ht (by omega)]
 simp only [Option.bind_some]
 show (Q1K k t).bind _ = _
 rw [Qer ht (by omega)]
 simp only [Option.bind_some]
 show (Q6 k t).bind _ = _
 rw [Q67 (by omega) (by omega) (by omega)]
 simp only [Option.bind_some]
 have hp : Qj.p0 k ((encS t).1, (encS t).2, (encS t).2, t, idS t, gTx t, ()) = some (.inr ((encS t).1, (encS t).2, idS t, gTx t, ())) := by
  unfold Qj.p0
  simp only [Qj.p0.r]
  rw [Qae (by omega)]
  simp only [Option.bind_some, Bool.not_true, cond_false]
  show (Q0a k t).bind _ = _
  rw [Q99 ht hb (by omega)]
  simp only [Option.bind_some]
  show (Q8 k (gTx t)).bind _ = _
  rw [Q34 ht hb (by omega)]
  simp only [Option.bind_some]
  rw [Q0A, bne_self_eq_false, cond_false]
  show (Q9 k (gTx t)).bind _ = _
  rw [Q43 ht (by omega)]
  simp only [Option.bind_some, bne_self_eq_false, cond_false]
 show (Qj.p0 k ((encS t).1, (encS t).2, (encS t).2, t, idS t, gTx t, ())).bind _ = _
 rw [hp]
 simp only [Option.bind_some]
 by_cases c : (encS t).2 ≠ 0
 ·rw [QR (by simpa using c), QdS c, Q4j, cond_true]
  unfold idS
  rw [if_pos c, decide_eq_true rfl]
 ·have c' : (encS t).2 = 0 := by simpa using c
  obtain ⟨_, h2, h3⟩ := Q8R c'
  rw [Q0v (by simpa using c)]
  show (Q0q k (gTx t)).bind _ = _
  rw [Qb9 ht (by omega)]
  simp only [Option.bind_some]
  show (Q8 k (gTx t)).bind _ = _
  rw [Q34 ht hb (by omega), h3]
  simp only [Option.bind_some]
  rw [Q4j, cond_true, decide_eq_true c', cond_true, decide_true]
end Go.Am
