/- A part of a proof: a machine of abstract values that tells what functions of the program compute, and the plain facts on them. -/
import Derived.Test.YtpcjmcpghhmidaaAm10
import Derived.Test.YtpcjmcpghhmidaaAm9
import Derived.KernelRfl
import Derived.Test.YtpcjmcpghhmidaaAm8
set_option linter.unusedVariables false
set_option linter.unusedSimpArgs false
set_option linter.unnecessarySimpa false
set_option linter.unusedSectionVars false
/- What is told is read back; what is read is told again. -/
namespace Go.Am
open Go

/-- A reader before the bytes A, behind which R stands. -/
structure RdA (x : Tk) (A R : List Int) : Prop where
  ok : TkOK x
  err : x.2.2.2.1 = 0
  left : tkL x = A ++ R
  room : (x.2.2.1 - x.2.1) + A.length ≤ 4096

theorem RdA.at_ {x : Tk} {A R : List Int} (h : RdA x A R) : x.2.2.1 = (x.1.size : Int) - A.length - R.length := by
  have h1 := tkL_length h.ok
  rw [h.left, List.length_append] at h1
  omega

theorem tkL_step {x : Tk} (h : TkOK x) {n : Nat} (he : (tkBytes x (n : Int)).1.2.2.2.1 = 0) : tkL (tkBytes x (n : Int)).1 = (tkL x).drop n ∧ ofBytes (tkBytes x (n : Int)).2 = (tkL x).take n := by
  obtain ⟨z0, z1, z2, z3, z4⟩ := tkBytes_fine h (n := (n : Int)) (by omega) he
  obtain ⟨h1, h2, h3, h4⟩ := h
  constructor
  · rw [z1]
    show List.drop (x.2.2.1 + (n : Int)).toNat (ofBytes x.1) = _
    rw [List.drop_drop, show (x.2.2.1 + (n : Int)).toNat = x.2.2.1.toNat + n by omega]
  · rw [z4]
    rfl

theorem rd_bytes {x : Tk} {A1 A2 R : List Int} {n : Nat} (h : RdA x (A1 ++ A2) R) (hn : A1.length = n) : RdA (tkBytes x (n : Int)).1 A2 R ∧ (tkBytes x (n : Int)).1.1 = x.1 ∧ ofBytes (tkBytes x (n : Int)).2 = A1 := by
  obtain ⟨ok, err, left, room⟩ := h
  have hl := tkL_length ok
  rw [left] at hl
  simp only [List.length_append] at hl room
  have he : (tkBytes x (n : Int)).1 = (x.1, x.2.1, x.2.2.1 + (n : Int), x.2.2.2.1, ()) := by
    unfold tkBytes
    rw [if_neg (by simpa using err), if_neg (by omega), if_neg (by omega)]
  have he0 : (tkBytes x (n : Int)).1.2.2.2.1 = 0 := by rw [he]; exact err
  obtain ⟨s1, s2⟩ := tkL_step ok he0
  have k := tkBytes_ok ok (n := (n : Int)) (by omega)
  refine ⟨⟨k.1, he0, ?_, ?_⟩, k.2.1, ?_⟩
  · rw [s1, left, List.append_assoc, ← hn, List.drop_left]
  · rw [he]
    dsimp only
    omega
  · rw [s2, left, List.append_assoc, ← hn, List.take_left]

theorem rd_num {x : Tk} {A2 R : List Int} {v : Int} {n : Nat} (h : RdA x (lowI v n ++ A2) R) (hv : 0 ≤ v ∧ v < 256 ^ n) : RdA (tkNum x (n : Int)).1 A2 R ∧ (tkNum x (n : Int)).1.1 = x.1 ∧ (tkNum x (n : Int)).2 = v := by
  obtain ⟨h1, h2, h3⟩ := rd_bytes h (lowI_length v n)
  refine ⟨h1, h2, ?_⟩
  unfold tkNum
  dsimp only
  rw [h3, leI_lowI, Int.emod_eq_of_lt hv.1 hv.2]

/-- A count's bytes, taken apart. -/
theorem cBytes_cases (v : Int) (hv : 0 ≤ v ∧ v ≤ 18446744073709551615) : ∃ b l, cBytes v = b :: l ∧ l.length = cm b ∧ (if cm b = 0 then b else leI l) = v ∧ cLong v = 1 + (cm b : Int) := by
  unfold cBytes cLong
  by_cases h1 : v < 253
  · rw [if_pos h1, if_pos h1]
    refine ⟨v, [], ?_, ?_⟩
    · simp only [lowI]
      rw [show v % 256 = v by omega]
    · have : cm v = 0 := by unfold cm; rw [if_neg (by omega), if_neg (by omega), if_neg (by omega)]
      rw [this]
      exact ⟨rfl, by simp, by simp⟩
  · rw [if_neg h1, if_neg h1]
    by_cases h2 : v < 65536
    · rw [if_pos h2, if_pos h2]
      refine ⟨253, lowI v 2, rfl, lowI_length v 2, ?_, by unfold cm; simp⟩
      rw [if_neg (by unfold cm; simp), leI_lowI, Int.emod_eq_of_lt hv.1 (by omega)]
    · rw [if_neg h2, if_neg h2]
      by_cases h3 : v < 4294967296
      · rw [if_pos h3, if_pos h3]
        refine ⟨254, lowI v 4, rfl, lowI_length v 4, ?_, by unfold cm; simp⟩
        rw [if_neg (by unfold cm; simp), leI_lowI, Int.emod_eq_of_lt hv.1 (by omega)]
      · rw [if_neg h3, if_neg h3]
        refine ⟨255, lowI v 8, rfl, lowI_length v 8, ?_, by unfold cm; simp⟩
        rw [if_neg (by unfold cm; simp), leI_lowI, Int.emod_eq_of_lt hv.1 (by omega)]

theorem rd_count {x : Tk} {A2 R : List Int} {v most e : Int} (h : RdA x (cBytes v ++ A2) R) (hv : 0 ≤ v ∧ v ≤ most) (hm : most ≤ 4096) : RdA (tkCount x most e).1 A2 R ∧ (tkCount x most e).1.1 = x.1 ∧ (tkCount x most e).2 = v := by
  obtain ⟨b, l, hb, hl, hval, hlong⟩ := cBytes_cases v (by omega)
  have hL : tkL x = b :: (l ++ A2 ++ R) := by rw [h.left, hb]; simp
  have hh : (tkL x).headD 0 = b := by rw [hL]; rfl
  have hlen : (cBytes v).length = 1 + cm b := by rw [hb, List.length_cons, hl]; omega
  obtain ⟨h1, h2, h3⟩ := rd_bytes (n := 1 + cm b) h hlen
  have hV : tkV x = v := by
    unfold tkV
    rw [hh, ← hval]
    by_cases c : cm b = 0
    · rw [if_pos c, if_pos c]
    · rw [if_neg c, if_neg c]
      congr 1
      rw [hL, List.drop_succ_cons, List.drop_zero, List.append_assoc, ← hl, List.take_left]
  have e1 : tkCount x most e = ((tkBytes x ((1 + cm b : Nat) : Int)).1, v) := by
    unfold tkCount
    rw [if_neg (by simpa using h.err)]
    dsimp only
    rw [hh, show 1 + (cm b : Int) = ((1 + cm b : Nat) : Int) by omega, if_neg (by simpa using h1.err), hV, if_neg (by rw [hlong]; simp), if_neg (by omega)]
  rw [e1]
  exact ⟨h1, h2, rfl⟩

theorem rd_str {x : Tk} {A2 R : List Int} {s : ByteArray} (h : RdA x (encStr s ++ A2) R) (hs : s.size ≤ 520) :
    RdA (tkBytes (tkCount x 520 100).1 (tkCount x 520 100).2).1 A2 R ∧ (tkBytes (tkCount x 520 100).1 (tkCount x 520 100).2).1.1 = x.1 ∧ (tkBytes (tkCount x 520 100).1 (tkCount x 520 100).2).2 = s := by
  unfold encStr at h
  rw [List.append_assoc] at h
  obtain ⟨h1, h2, h3⟩ := rd_count (most := 520) (e := 100) h ⟨by omega, by omega⟩ (by omega)
  rw [h3]
  obtain ⟨h4, h5, h6⟩ := rd_bytes (n := s.size) h1 (ofBytes_length s)
  exact ⟨h4, h5.trans h2, ofBytes_inj h6⟩

theorem rd_in {x : Tk} {A2 R : List Int} {i : TIn} (h : RdA x (encIn i ++ A2) R) (hi : InOK i) (hs : i.2.1.size ≤ 520) : RdA (oneIn x).1 A2 R ∧ (oneIn x).1.1 = x.1 ∧ (oneIn x).2 = i := by
  obtain ⟨⟨hash, idx, u⟩, key, sq, u'⟩ := i
  obtain ⟨⟨q1, q2⟩, q3, q4⟩ := hi
  dsimp only at q1 q2 q3 q4 hs
  have e256 : (256 : Int) ^ 4 = 4294967296 := by decide
  unfold encIn at h
  dsimp only at h
  rw [List.take_of_length_le (by omega)] at h
  simp only [List.append_assoc] at h
  obtain ⟨a1, a2, a3⟩ := rd_bytes (n := 32) h q1
  obtain ⟨b1, b2, b3⟩ := rd_num (n := 4) a1 ⟨q3.1, by rw [e256]; have := q3.2; omega⟩
  obtain ⟨c1, c2, c3⟩ := rd_str b1 hs
  obtain ⟨d1, d2, d3⟩ := rd_num (n := 4) c1 ⟨q4.1, by rw [e256]; have := q4.2; omega⟩
  refine ⟨d1, d2.trans (c2.trans (b2.trans a2)), ?_⟩
  have hz : (tkBytes x ((32 : Nat) : Int)).2.size = 32 := by rw [← ofBytes_length, a3]; exact q1
  have hh : hashOf (tkBytes x 32).2 = hash := by
    unfold hashOf
    rw [if_pos (show (tkBytes x 32).2.size = 32 from hz)]
    exact a3
  unfold oneIn
  dsimp only
  rw [hh]
  exact Prod.ext (Prod.ext rfl (Prod.ext b3 rfl)) (Prod.ext c3 (Prod.ext d3 rfl))
theorem rd_out {x : Tk} {A2 R : List Int} {i : TOut} (h : RdA x (encOut i ++ A2) R) (hi : OutOK i) (hs : i.2.1.size ≤ 520) : RdA (oneOut x).1 A2 R ∧ (oneOut x).1.1 = x.1 ∧ (oneOut x).2 = i := by
  obtain ⟨v, s, u⟩ := i
  obtain ⟨q1, q2⟩ := hi
  dsimp only at q1 q2 hs
  have e256 : (256 : Int) ^ 8 = 18446744073709551616 := by decide
  unfold encOut at h
  dsimp only at h
  simp only [List.append_assoc] at h
  obtain ⟨b1, b2, b3⟩ := rd_num (n := 8) h ⟨q1, by rw [e256]; omega⟩
  obtain ⟨c1, c2, c3⟩ := rd_str b1 hs
  refine ⟨c1, c2.trans b2, ?_⟩
  unfold oneOut
  dsimp only
  exact Prod.ext b3 (Prod.ext c3 rfl)

theorem rd_parts {α : Type} {f : Tk → Tk × α} {enc : α → List Int} {p : α → Prop} (hf : ∀ {x : Tk} {A2 R : List Int} {i : α}, RdA x (enc i ++ A2) R → p i → RdA (f x).1 A2 R ∧ (f x).1.1 = x.1 ∧ (f x).2 = i) :
    ∀ (l2 l1 : List α) {x : Tk} {A2 R : List Int}, RdA x ((l2.map enc).flatten ++ A2) R → (∀ i ∈ l2, p i) → RdA (partsN f l2.length x l1).1 A2 R ∧ (partsN f l2.length x l1).1.1 = x.1 ∧ (partsN f l2.length x l1).2 = l1 ++ l2
  | [], l1, x, A2, R, h, _ => ⟨h, rfl, by simp [partsN]⟩
  | i :: l2, l1, x, A2, R, h, hp => by
    simp only [List.map_cons, List.flatten_cons, List.append_assoc] at h
    obtain ⟨h1, h2, h3⟩ := hf h (hp i (by simp))
    obtain ⟨g1, g2, g3⟩ := rd_parts hf l2 (l1 ++ [i]) h1 fun j hj => hp j (by simp [hj])
    have e : partsN f (i :: l2).length x l1 = partsN f l2.length (f x).1 (l1 ++ [i]) := by
      show partsN f (l2.length + 1) x l1 = _
      conv => lhs; unfold partsN
      rw [if_neg (by simpa using h.err), h3]
    rw [e]
    exact ⟨g1, g2.trans h2, by rw [g3, List.append_assoc]; rfl⟩

theorem getD_mem {α : Type} {p : α → Prop} {l : List α} {d : α} (h : ∀ i, i < l.length → p (l.getD i d)) : ∀ x ∈ l, p x := by
  intro x hx
  obtain ⟨i, hi, rfl⟩ := List.getElem_of_mem hx
  have := h i hi
  rwa [List.getD_eq_getElem?_getD, List.getElem?_eq_getElem hi] at this
theorem mem_getD {α : Type} {p : α → Prop} {l : List α} {d : α} (h : ∀ x ∈ l, p x) : ∀ i, i < l.length → p (l.getD i d) := by
  intro i hi
  rw [List.getD_eq_getElem?_getD, List.getElem?_eq_getElem hi]
  exact h _ (List.getElem_mem hi)

/-- A transaction that is told is read back wherever it stands. -/
theorem take_enc {t : TTx} (ht : TxOK t) (hs : scOK t) (hl : (encL t).length ≤ 4096) {a r : ByteArray} (ha : a.size + r.size ≤ 4611686018427383808) :
    tkTake (a ++ bytesOf (encL t) ++ r) (a.size : Int) = (t, (a.size : Int) + (encL t).length, 0) := by
  obtain ⟨v, ins, outs, tm, u⟩ := t
  obtain ⟨hv, htm, hi, ho, hni, hno⟩ := id ht
  dsimp only at hv htm hi ho hni hno
  have hin := encL_in ht
  have hT : ofBytes (a ++ bytesOf (encL (v, ins, outs, tm, u)) ++ r) = ofBytes a ++ (encL (v, ins, outs, tm, u) ++ ofBytes r) := by
    rw [ofBytes_append, ofBytes_append, ofBytes_bytesOf hin, List.append_assoc]
  have hsz : (a ++ bytesOf (encL (v, ins, outs, tm, u)) ++ r).size = a.size + (encL (v, ins, outs, tm, u)).length + r.size := by
    rw [ByteArray.size_append, ByteArray.size_append, bytesOf_size]
  have hE : encL (v, ins, outs, tm, u) = lowI v 4 ++ (cBytes (ins.length : Int) ++ ((ins.map encIn).flatten ++ (cBytes (outs.length : Int) ++ ((outs.map encOut).flatten ++ (lowI tm 4 ++ []))))) := by
    unfold encL encIns encOuts
    rw [cat_all, cat_all]
    simp only [List.append_assoc, List.append_nil]
  have e256 : (256 : Int) ^ 4 = 4294967296 := by decide
  have hx : RdA (a ++ bytesOf (encL (v, ins, outs, tm, u)) ++ r, (a.size : Int), (a.size : Int), 0, ()) (lowI v 4 ++ (cBytes (ins.length : Int) ++ ((ins.map encIn).flatten ++ (cBytes (outs.length : Int) ++ ((outs.map encOut).flatten ++ (lowI tm 4 ++ [])))))) (ofBytes r) := by
    refine ⟨⟨by dsimp only; omega, by dsimp only; omega, by dsimp only; omega, by dsimp only; omega⟩, rfl, ?_, ?_⟩
    · rw [← hE]
      show List.drop (a.size : Int).toNat (ofBytes _) = _
      rw [hT, show (a.size : Int).toNat = (ofBytes a).length by rw [ofBytes_length]; omega, List.drop_left]
    · rw [← hE]
      dsimp only
      omega
  have hlen := encL_length (v, ins, outs, tm, u)
  dsimp only at hlen
  have hci : ins.length ≤ 4096 := by
    have := cat_ge (f := encIn) (d := dIn) (l := ins) (m := 1) (fun x => by unfold encIn; simp only [List.length_append, lowI_length]; omega) ins.length
    omega
  have hco : outs.length ≤ 4096 := by
    have := cat_ge (f := encOut) (d := dOut) (l := outs) (m := 1) (fun x => by unfold encOut; simp only [List.length_append, lowI_length]; omega) outs.length
    omega
  obtain ⟨a1, a2, a3⟩ := rd_num (n := 4) hx ⟨hv.1, by rw [e256]; have := hv.2; omega⟩
  obtain ⟨b1, b2, b3⟩ := rd_count (most := 4096) (e := 5) a1 ⟨by omega, by omega⟩ (by omega)
  obtain ⟨c1, c2, c3⟩ := rd_parts (f := oneIn) (p := fun i => InOK i ∧ i.2.1.size ≤ 520) (fun h hp => rd_in h hp.1 hp.2) ins [] b1 (getD_mem fun i h => ⟨hi i h, hs.1 i h⟩)
  obtain ⟨d1, d2, d3⟩ := rd_count (most := 4096) (e := 5) c1 ⟨by omega, by omega⟩ (by omega)
  obtain ⟨e1, e2, e3⟩ := rd_parts (f := oneOut) (p := fun i => OutOK i ∧ i.2.1.size ≤ 520) (fun h hp => rd_out h hp.1 hp.2) outs [] d1 (getD_mem fun i h => ⟨ho i h, hs.2 i h⟩)
  obtain ⟨f1, f2, f3⟩ := rd_num (n := 4) e1 ⟨htm.1, by rw [e256]; have := htm.2; omega⟩
  have hat := f1.at_
  have htxt := f2.trans (e2.trans (d2.trans (c2.trans (b2.trans a2))))
  unfold tkTake
  rw [if_neg (by omega)]
  dsimp only
  have b3' : (tkCount (tkNum (a ++ bytesOf (encL (v, ins, outs, tm, u)) ++ r, (a.size : Int), (a.size : Int), 0, ()) 4).1 4096 5).2.toNat = ins.length := by
    have : (tkCount (tkNum (a ++ bytesOf (encL (v, ins, outs, tm, u)) ++ r, (a.size : Int), (a.size : Int), 0, ()) ((4 : Nat) : Int)).1 4096 5).2.toNat = ins.length := by rw [b3]; omega
    exact this
  rw [b3']
  have d3' : (tkCount (partsN oneIn ins.length (tkCount (tkNum (a ++ bytesOf (encL (v, ins, outs, tm, u)) ++ r, (a.size : Int), (a.size : Int), 0, ()) 4).1 4096 5).1 []).1 4096 5).2.toNat = outs.length := by
    have : (tkCount (partsN oneIn ins.length (tkCount (tkNum (a ++ bytesOf (encL (v, ins, outs, tm, u)) ++ r, (a.size : Int), (a.size : Int), 0, ()) ((4 : Nat) : Int)).1 4096 5).1 []).1 4096 5).2.toNat = outs.length := by rw [d3]; omega
    exact this
  rw [d3']
  have f1' := f1.err
  rw [if_neg (by simpa using f1')]
  rw [htxt] at hat
  refine Prod.ext (Prod.ext a3 (Prod.ext (c3.trans (List.nil_append _)) (Prod.ext (e3.trans (List.nil_append _)) (Prod.ext f3 rfl)))) (Prod.ext ?_ rfl)
  refine hat.trans ?_
  dsimp only
  rw [hsz, List.length_nil, ofBytes_length]
  omega

/-! back -/
theorem tkNum_back {x : Tk} (h : TkOK x) {n : Nat} (he : (tkNum x (n : Int)).1.2.2.2.1 = 0) : x.2.2.2.1 = 0 ∧ tkL x = lowI (tkNum x (n : Int)).2 n ++ tkL (tkNum x (n : Int)).1 ∧ (tkNum x (n : Int)).1.2.2.1 - (tkNum x (n : Int)).1.2.1 ≤ 4096 ∧ (tkNum x (n : Int)).1.1 = x.1 := by
  obtain ⟨z0, z1, z2, z3, z4⟩ := tkBytes_fine h (n := (n : Int)) (by omega) he
  obtain ⟨s1, s2⟩ := tkL_step h he
  have hl := tkL_length h
  refine ⟨z0, ?_, ?_, (tkBytes_ok h (by omega)).2.1⟩
  · have hlen : (ofBytes (tkBytes x (n : Int)).2).length = n := by rw [s2, List.length_take]; omega
    have := lowI_leI (ofBytes_in' (tkBytes x (n : Int)).2)
    rw [hlen] at this
    unfold tkNum
    dsimp only
    rw [this, s2, s1, List.take_append_drop]
  · unfold tkNum
    dsimp only
    rw [z1]
    dsimp only
    omega
theorem tkBytes_back {x : Tk} (h : TkOK x) {n : Nat} (he : (tkBytes x (n : Int)).1.2.2.2.1 = 0) : x.2.2.2.1 = 0 ∧ tkL x = ofBytes (tkBytes x (n : Int)).2 ++ tkL (tkBytes x (n : Int)).1 ∧ (tkBytes x (n : Int)).2.size = n := by
  obtain ⟨z0, z1, z2, z3, z4⟩ := tkBytes_fine h (n := (n : Int)) (by omega) he
  obtain ⟨s1, s2⟩ := tkL_step h he
  have hl := tkL_length h
  have hlen : (ofBytes (tkBytes x (n : Int)).2).length = n := by rw [s2, List.length_take]; omega
  exact ⟨z0, by rw [s2, s1, List.take_append_drop], by rw [← ofBytes_length]; exact hlen⟩
theorem tkCount_back {x : Tk} (h : TkOK x) {most e : Int} (he0 : e ≠ 0) (he : (tkCount x most e).1.2.2.2.1 = 0) : x.2.2.2.1 = 0 ∧ tkL x = cBytes (tkCount x most e).2 ++ tkL (tkCount x most e).1 ∧ 0 ≤ (tkCount x most e).2 ∧ (tkCount x most e).2 ≤ most := by
  have hr := tkV_range (x := x)
  unfold tkCount at he ⊢
  by_cases c0 : x.2.2.2.1 ≠ 0
  · rw [if_pos c0] at he; exact absurd he c0
  · rw [if_neg c0] at he ⊢
    dsimp only at he ⊢
    by_cases c1 : (tkBytes x (1 + (cm ((tkL x).headD 0) : Int))).1.2.2.2.1 ≠ 0
    · rw [if_pos c1] at he; exact absurd he c1
    · rw [if_neg c1] at he ⊢
      have c1' : (tkBytes x (1 + (cm ((tkL x).headD 0) : Int))).1.2.2.2.1 = 0 := by simpa using c1
      by_cases c2 : cLong (tkV x) ≠ 1 + (cm ((tkL x).headD 0) : Int)
      · rw [if_pos c2] at he; simp at he
      · rw [if_neg c2] at he ⊢
        by_cases c3 : tkV x > most
        · rw [if_pos c3] at he; exact absurd he he0
        · rw [if_neg c3]
          refine ⟨by simpa using c0, ?_, hr.1, by dsimp only; omega⟩
          dsimp only
          obtain ⟨b, l, g1, g2, g3⟩ := tk_fine h c1'
          have hh : (tkL x).headD 0 = b := by rw [g1]; rfl
          rw [hh] at g2 c2 c1'
          rw [hh]
          obtain ⟨s1, s2⟩ := tkL_step h (n := 1 + cm b) (by rw [Int.natCast_add]; exact c1')
          rw [Int.natCast_add] at s1
          have e1 : ((1 : Nat) : Int) = 1 := rfl
          rw [e1] at s1
          rw [s1]
          have hV : tkV x = if cm b = 0 then b else leI (l.take (cm b)) := by unfold tkV; rw [g1]; rfl
          have hc : cBytes (tkV x) = (tkL x).take (1 + cm b) := by
            rw [g1, Nat.add_comm 1, List.take_succ_cons]
            have c2' : cLong (tkV x) = 1 + (cm b : Int) := by simpa using c2
            by_cases c : cm b = 0
            · rw [if_pos c] at hV
              rw [hV, c] at c2'
              rw [hV, c, List.take_zero]
              have : b < 253 := by
                unfold cLong at c2'
                by_cases c5 : b < 253
                · exact c5
                · rw [if_neg c5] at c2'
                  by_cases c6 : b < 65536
                  · rw [if_pos c6] at c2'; simp at c2'
                  · omega
              unfold cBytes
              rw [if_pos this]
              simp only [lowI]
              rw [show b % 256 = b by omega]
            · rw [if_neg c] at hV
              have hlt : (l.take (cm b)).length = cm b := by rw [List.length_take]; omega
              have hin : bytesIn (l.take (cm b)) := fun y hy => tkL_in x y (by rw [g1]; exact List.mem_cons_of_mem _ (List.mem_of_mem_take hy))
              have hlow := lowI_leI hin
              rw [hlt, ← hV] at hlow
              have hb : (b = 253 ∧ cm b = 2) ∨ (b = 254 ∧ cm b = 4) ∨ (b = 255 ∧ cm b = 8) := by
                unfold cm at c ⊢
                by_cases e1 : b = 253
                · exact .inl ⟨e1, by rw [if_pos e1]⟩
                · rw [if_neg e1] at c ⊢
                  by_cases e2 : b = 254
                  · exact .inr (.inl ⟨e2, by rw [if_pos e2]⟩)
                  · rw [if_neg e2] at c ⊢
                    by_cases e3 : b = 255
                    · exact .inr (.inr ⟨e3, by rw [if_pos e3]⟩)
                    · rw [if_neg e3] at c; exact absurd rfl c
              rw [← hlow]
              unfold cLong at c2'
              unfold cBytes
              rcases hb with ⟨e1, e2⟩ | ⟨e1, e2⟩ | ⟨e1, e2⟩ <;> rw [e2] at c2' ⊢ <;> rw [e1]
              · have n1 : ¬ tkV x < 253 := fun h => by rw [if_pos h] at c2'; simp at c2'
                rw [if_neg n1] at c2' ⊢
                have n2 : tkV x < 65536 := Classical.byContradiction fun h => by rw [if_neg h] at c2'; split at c2' <;> simp at c2'
                rw [if_pos n2]
              · have n1 : ¬ tkV x < 253 := fun h => by rw [if_pos h] at c2'; simp at c2'
                rw [if_neg n1] at c2' ⊢
                have n2 : ¬ tkV x < 65536 := fun h => by rw [if_pos h] at c2'; simp at c2'
                rw [if_neg n2] at c2' ⊢
                have n3 : tkV x < 4294967296 := Classical.byContradiction fun h => by rw [if_neg h] at c2'; simp at c2'
                rw [if_pos n3]
              · have n1 : ¬ tkV x < 253 := fun h => by rw [if_pos h] at c2'; simp at c2'
                rw [if_neg n1] at c2' ⊢
                have n2 : ¬ tkV x < 65536 := fun h => by rw [if_pos h] at c2'; simp at c2'
                rw [if_neg n2] at c2' ⊢
                have n3 : ¬ tkV x < 4294967296 := fun h => by rw [if_pos h] at c2'; simp at c2'
                rw [if_neg n3]
          rw [hc, List.take_append_drop]

theorem str_back {x : Tk} (h : TkOK x) (he : (tkBytes (tkCount x 520 100).1 (tkCount x 520 100).2).1.2.2.2.1 = 0) :
    x.2.2.2.1 = 0 ∧ tkL x = encStr (tkBytes (tkCount x 520 100).1 (tkCount x 520 100).2).2 ++ tkL (tkBytes (tkCount x 520 100).1 (tkCount x 520 100).2).1 ∧ (tkBytes (tkCount x 520 100).1 (tkCount x 520 100).2).2.size ≤ 520 := by
  have h2 := (tkCount_ok h 520 100).1
  have hv := tkCount_val (x := x) 520 100 (by omega)
  obtain ⟨n, hn⟩ := Int.eq_ofNat_of_zero_le hv.1
  have he' := he
  rw [hn] at he' ⊢
  obtain ⟨b1, b2, b3⟩ := tkBytes_back h2 he'
  obtain ⟨c1, c2, c3, c4⟩ := tkCount_back h (by decide) b1
  refine ⟨c1, ?_, by omega⟩
  rw [c2, hn, b2, ← List.append_assoc]
  unfold encStr
  rw [b3]

theorem oneIn_back {x : Tk} (h : TkOK x) (he : (oneIn x).1.2.2.2.1 = 0) : x.2.2.2.1 = 0 ∧ (InOK (oneIn x).2 ∧ (oneIn x).2.2.1.size ≤ 520) ∧ tkL x = encIn (oneIn x).2 ++ tkL (oneIn x).1 := by
  unfold oneIn at he ⊢
  dsimp only at he ⊢
  have k1 := (tkBytes_ok h (n := 32) (by omega)).1
  have k2 := tkNum_ok k1 (n := 4) (by omega)
  have k3 := (tkCount_ok k2 520 100).1
  have k4 := (tkBytes_ok k3 (n := (tkCount (tkNum (tkBytes x 32).1 4).1 520 100).2) (tkCount_val 520 100 (by omega)).1).1
  obtain ⟨a1, a2, _, _⟩ := tkNum_back (n := 4) k4 he
  obtain ⟨b1, b2, b3⟩ := str_back k2 a1
  obtain ⟨c1, c2, _, _⟩ := tkNum_back (n := 4) k1 b1
  obtain ⟨d1, d2, d3⟩ := tkBytes_back (n := 32) h c1
  have e256 : (256 : Int) ^ 4 = 4294967296 := by decide
  have r1 := tkNum_range k1 (n := 4)
  have r2 := tkNum_range k4 (n := 4)
  rw [e256] at r1 r2
  have hh : hashOf (tkBytes x 32).2 = ofBytes (tkBytes x 32).2 := by unfold hashOf; rw [if_pos (show (tkBytes x 32).2.size = 32 from d3)]
  refine ⟨d1, ⟨⟨⟨?_, ?_⟩, ⟨r1.1, ?_⟩, ⟨r2.1, ?_⟩⟩, b3⟩, ?_⟩
  · rw [hh, ofBytes_length]; exact d3
  · rw [hh]; exact ofBytes_in' _
  · have := r1.2
    show (tkNum (tkBytes x 32).1 ((4 : Nat) : Int)).2 ≤ _
    omega
  · have := r2.2
    show (tkNum (tkBytes (tkCount (tkNum (tkBytes x 32).1 4).1 520 100).1 (tkCount (tkNum (tkBytes x 32).1 4).1 520 100).2).1 ((4 : Nat) : Int)).2 ≤ _
    omega
  · have d2' : tkL x = ofBytes (tkBytes x 32).2 ++ tkL (tkBytes x 32).1 := d2
    have c2' : tkL (tkBytes x 32).1 = lowI (tkNum (tkBytes x 32).1 4).2 4 ++ tkL (tkNum (tkBytes x 32).1 4).1 := c2
    have a2' : tkL (tkBytes (tkCount (tkNum (tkBytes x 32).1 4).1 520 100).1 (tkCount (tkNum (tkBytes x 32).1 4).1 520 100).2).1 = lowI (tkNum (tkBytes (tkCount (tkNum (tkBytes x 32).1 4).1 520 100).1 (tkCount (tkNum (tkBytes x 32).1 4).1 520 100).2).1 4).2 4 ++ tkL (tkNum (tkBytes (tkCount (tkNum (tkBytes x 32).1 4).1 520 100).1 (tkCount (tkNum (tkBytes x 32).1 4).1 520 100).2).1 4).1 := a2
    rw [d2', c2', b2, a2', hh]
    unfold encIn
    dsimp only
    rw [List.take_of_length_le (by rw [ofBytes_length]; have : (tkBytes x 32).2.size = 32 := d3; omega)]
    simp only [List.append_assoc]
theorem oneOut_back {x : Tk} (h : TkOK x) (he : (oneOut x).1.2.2.2.1 = 0) : x.2.2.2.1 = 0 ∧ (OutOK (oneOut x).2 ∧ (oneOut x).2.2.1.size ≤ 520) ∧ tkL x = encOut (oneOut x).2 ++ tkL (oneOut x).1 := by
  unfold oneOut at he ⊢
  dsimp only at he ⊢
  have k2 := tkNum_ok h (n := 8) (by omega)
  obtain ⟨b1, b2, b3⟩ := str_back k2 he
  obtain ⟨c1, c2, _, _⟩ := tkNum_back (n := 8) h b1
  have e256 : (256 : Int) ^ 8 = 18446744073709551616 := by decide
  have r1 := tkNum_range h (n := 8)
  rw [e256] at r1
  have c2' : tkL x = lowI (tkNum x 8).2 8 ++ tkL (tkNum x 8).1 := c2
  refine ⟨c1, ⟨⟨r1.1, ?_⟩, b3⟩, ?_⟩
  · have := r1.2
    show (tkNum x ((8 : Nat) : Int)).2 ≤ _
    omega
  · rw [c2', b2]
    unfold encOut
    simp only [List.append_assoc]

theorem parts_back {α : Type} {f : Tk → Tk × α} {enc : α → List Int} {p : α → Prop} (hok : ∀ x, TkOK x → TkOK (f x).1) (hf : ∀ {x : Tk}, TkOK x → (f x).1.2.2.2.1 = 0 → x.2.2.2.1 = 0 ∧ p (f x).2 ∧ tkL x = enc (f x).2 ++ tkL (f x).1) :
    ∀ (n : Nat) (l : List α) {x : Tk}, TkOK x → (partsN f n x l).1.2.2.2.1 = 0 → x.2.2.2.1 = 0 ∧ ∃ l2, (partsN f n x l).2 = l ++ l2 ∧ l2.length = n ∧ (∀ y ∈ l2, p y) ∧ tkL x = (l2.map enc).flatten ++ tkL (partsN f n x l).1
  | 0, l, x, _, he => ⟨he, [], by simp [partsN], rfl, fun y hy => by simp at hy, by simp [partsN]⟩
  | n + 1, l, x, hx, he => by
    unfold partsN at he ⊢
    by_cases c : x.2.2.2.1 ≠ 0
    · rw [if_pos c] at he; exact absurd he c
    · rw [if_neg c] at he ⊢
      obtain ⟨g0, l2, g1, g2, g3, g4⟩ := parts_back hok hf n (l ++ [(f x).2]) (hok x hx) he
      obtain ⟨f1, f2, f3⟩ := hf hx g0
      refine ⟨f1, (f x).2 :: l2, by rw [g1, List.append_assoc]; rfl, by rw [List.length_cons, g2], ?_, ?_⟩
      · intro y hy
        rcases List.mem_cons.1 hy with rfl | hy
        · exact f2
        · exact g3 y hy
      · rw [f3, g4, List.map_cons, List.flatten_cons, List.append_assoc]

/-- What was read whole is told again. -/
theorem dec_enc {s : ByteArray} (hs : s.size ≤ 4611686018427387904) (he : (decS s).2 = 0) : TxOK (decS s).1 ∧ encS (decS s).1 = (s, 0) := by
  unfold decS at he ⊢
  by_cases c1 : (tkTake s 0).2.2 ≠ 0
  · rw [if_pos c1] at he; exact absurd he c1
  · rw [if_neg c1] at he ⊢
    by_cases c2 : (tkTake s 0).2.1 ≠ (s.size : Int)
    · rw [if_pos c2] at he; simp at he
    · rw [if_neg c2]
      dsimp only
      have c1' : (tkTake s 0).2.2 = 0 := by simpa using c1
      have c2' : (tkTake s 0).2.1 = (s.size : Int) := by simpa using c2
      clear c1 c2 he
      unfold tkTake at c1' c2' ⊢
      rw [if_neg (by omega)] at c1' c2' ⊢
      dsimp only at c1' c2' ⊢
      have hx : TkOK (s, 0, 0, 0, ()) := ⟨hs, by dsimp only; omega, by dsimp only; omega, by dsimp only; omega⟩
      have k1 := tkNum_ok hx (n := 4) (by omega)
      have k2 := (tkCount_ok k1 4096 5).1
      have hv2 := tkCount_val (x := (tkNum (s, 0, 0, 0, ()) 4).1) 4096 5 (by omega)
      obtain ⟨n, hn⟩ := Int.eq_ofNat_of_zero_le hv2.1
      have k3 := partsN_ok (fun x h => oneIn_ok h) n [] k2
      rw [show (tkCount (tkNum (s, 0, 0, 0, ()) 4).1 4096 5).2.toNat = n by omega] at c1' c2' ⊢
      have P1 := parts_back (f := oneIn) (enc := encIn) (p := fun i => InOK i ∧ i.2.1.size ≤ 520) (fun x h => oneIn_ok h) (fun h he => oneIn_back h he) n [] k2
      have t3 := (tkCount_ok k1 4096 5).2.1
      have tl := partsN_ok (fun x h => oneIn_ok h) n [] k2
      generalize hIs : partsN oneIn n (tkCount (tkNum (s, 0, 0, 0, ()) 4).1 4096 5).1 [] = is at *
      have k4 := (tkCount_ok k3 4096 5).1
      have hv4 := tkCount_val (x := is.1) 4096 5 (by omega)
      obtain ⟨n2, hn2⟩ := Int.eq_ofNat_of_zero_le hv4.1
      rw [show (tkCount is.1 4096 5).2.toNat = n2 by omega] at c1' c2' ⊢
      have k5 := partsN_ok (fun x h => oneOut_ok h) n2 [] k4
      have P2 := parts_back (f := oneOut) (enc := encOut) (p := fun i => OutOK i ∧ i.2.1.size ≤ 520) (fun x h => oneOut_ok h) (fun h he => oneOut_back h he) n2 [] k4
      generalize hOs : partsN oneOut n2 (tkCount is.1 4096 5).1 [] = os at *
      have hc : (tkNum os.1 4).1.2.2.2.1 = 0 := by
        by_cases c : (tkNum os.1 4).1.2.2.2.1 ≠ 0
        · rw [if_pos c] at c1'; exact c1'
        · simpa using c
      rw [if_neg (by simpa using hc)] at c2' ⊢
      dsimp only at c2' ⊢
      obtain ⟨a1, a2, a3, a4⟩ := tkNum_back (n := 4) k5 hc
      obtain ⟨b1, l2, b2, b3, b4, b5⟩ := P2 a1
      obtain ⟨d1, d2, d3, d4⟩ := tkCount_back k3 (by decide) b1
      obtain ⟨e1, l1, e2, e3, e4, e5⟩ := P1 d1
      obtain ⟨f1, f2, f3, f4⟩ := tkCount_back k1 (by decide) e1
      obtain ⟨g1, g2, _, _⟩ := tkNum_back (n := 4) hx f1
      rw [List.nil_append] at b2 e2
      have e256 : (256 : Int) ^ 4 = 4294967296 := by decide
      have r1 := tkNum_range hx (n := 4)
      have r2 := tkNum_range k5 (n := 4)
      rw [e256] at r1 r2
      have k6 := tkNum_ok k5 (n := 4) (by omega)
      have hend : tkL (tkNum os.1 4).1 = [] := by
        have h1 := tkL_length k6
        have h2 : (tkNum os.1 4).1.2.2.1 = (s.size : Int) := c2'
        have h3 := k6.2.2.2
        apply List.eq_nil_of_length_eq_zero
        -- the text is the same all along
        have q1 : (tkNum os.1 4).1.1 = os.1.1 := (tkBytes_ok k5 (n := 4) (by omega)).2.1
        by_cases hlt : (tkNum os.1 4).1.1.size ≤ s.size
        · omega
        · exfalso
          have e : ∀ (n : Nat) (x : Tk) (l : List TIn), TkOK x → (partsN oneIn n x l).1.1 = x.1 := by
            intro n
            induction n with
            | zero => intro x l _; rfl
            | succ n ih =>
              intro x l hx
              unfold partsN
              split
              · rfl
              · rw [ih _ _ (oneIn_ok hx)]
                unfold oneIn
                dsimp only
                have g1 := tkBytes_ok hx (n := 32) (by omega)
                have g2 := tkBytes_ok g1.1 (n := 4) (by omega)
                have g3 := tkCount_ok (x := (tkNum (tkBytes x 32).1 4).1) g2.1 520 100
                have g4 := tkBytes_ok g3.1 (n := (tkCount (tkNum (tkBytes x 32).1 4).1 520 100).2) (tkCount_val 520 100 (by omega)).1
                have g5 := tkBytes_ok g4.1 (n := 4) (by omega)
                exact g5.2.1.trans (g4.2.1.trans (g3.2.1.trans (g2.2.1.trans g1.2.1)))
          have e2' : ∀ (n : Nat) (x : Tk) (l : List TOut), TkOK x → (partsN oneOut n x l).1.1 = x.1 := by
            intro n
            induction n with
            | zero => intro x l _; rfl
            | succ n ih =>
              intro x l hx
              unfold partsN
              split
              · rfl
              · rw [ih _ _ (oneOut_ok hx)]
                unfold oneOut
                dsimp only
                have g2 := tkBytes_ok hx (n := 8) (by omega)
                have g3 := tkCount_ok (x := (tkNum x 8).1) g2.1 520 100
                have g4 := tkBytes_ok g3.1 (n := (tkCount (tkNum x 8).1 520 100).2) (tkCount_val 520 100 (by omega)).1
                exact g4.2.1.trans (g3.2.1.trans g2.2.1)
          have w1 := e n (tkCount (tkNum (s, 0, 0, 0, ()) 4).1 4096 5).1 [] k2
          rw [hIs] at w1
          have w2 := e2' n2 (tkCount is.1 4096 5).1 [] k4
          rw [hOs] at w2
          have w3 : (tkNum (s, 0, 0, 0, ()) 4).1.1 = s := (tkBytes_ok hx (n := 4) (by omega)).2.1
          rw [q1, w2, (tkCount_ok k3 4096 5).2.1, w1, t3, w3] at hlt
          omega
      have hroom : (tkNum os.1 4).1.2.2.1 - (tkNum os.1 4).1.2.1 ≤ 4096 := a3
      have hOK : TxOK ((tkNum (s, 0, 0, 0, ()) 4).2, is.2, os.2, (tkNum os.1 4).2, ()) := by
        refine ⟨⟨r1.1, ?_⟩, ⟨r2.1, ?_⟩, ?_, ?_, ?_, ?_⟩
        · have := r1.2
          show (tkNum (s, 0, 0, 0, ()) ((4 : Nat) : Int)).2 ≤ _
          omega
        · have := r2.2
          show (tkNum os.1 ((4 : Nat) : Int)).2 ≤ _
          omega
        · dsimp only; rw [e2]; exact mem_getD fun y hy => (e4 y hy).1
        · dsimp only; rw [b2]; exact mem_getD fun y hy => (b4 y hy).1
        · dsimp only; rw [e2]; omega
        · dsimp only; rw [b2]; omega
      have hall : ofBytes s = encL ((tkNum (s, 0, 0, 0, ()) 4).2, is.2, os.2, (tkNum os.1 4).2, ()) := by
        have g2' : tkL (s, 0, 0, 0, ()) = lowI (tkNum (s, 0, 0, 0, ()) 4).2 4 ++ tkL (tkNum (s, 0, 0, 0, ()) 4).1 := g2
        have a2' : tkL os.1 = lowI (tkNum os.1 4).2 4 ++ tkL (tkNum os.1 4).1 := a2
        rw [f2, e5, d2, b5, a2', hend, List.append_nil] at g2'
        have : ofBytes s = tkL (s, 0, 0, 0, ()) := rfl
        rw [this, g2']
        unfold encL encIns encOuts
        rw [cat_all, cat_all]
        dsimp only
        rw [hn, hn2, e2, b2, e3, b3]
        simp only [List.append_assoc]
      refine ⟨hOK, ?_⟩
      unfold encS
      have hsc : scOK ((tkNum (s, 0, 0, 0, ()) 4).2, is.2, os.2, (tkNum os.1 4).2, ()) := by
        refine ⟨?_, ?_⟩
        · dsimp only; rw [e2]; exact mem_getD fun y hy => (e4 y hy).2
        · dsimp only; rw [b2]; exact mem_getD fun y hy => (b4 y hy).2
      rw [if_pos hsc, ← hall, ofBytes_length, if_neg, bytesOf_ofBytes]
      have fr : ∀ {y : Tk}, TkOK y → (tkBytes y 4).1.2.1 = y.2.1 := fun h => (tkBytes_ok h (by omega)).2.2
      have ein : ∀ (n : Nat) (x : Tk) (l : List TIn), TkOK x → (partsN oneIn n x l).1.2.1 = x.2.1 := by
        intro n
        induction n with
        | zero => intro x l _; rfl
        | succ n ih =>
          intro x l hx
          unfold partsN
          split
          · rfl
          · rw [ih _ _ (oneIn_ok hx)]
            unfold oneIn
            dsimp only
            have g1 := tkBytes_ok hx (n := 32) (by omega)
            have g2 := tkBytes_ok g1.1 (n := 4) (by omega)
            have g3 := tkCount_ok (x := (tkNum (tkBytes x 32).1 4).1) g2.1 520 100
            have g4 := tkBytes_ok g3.1 (n := (tkCount (tkNum (tkBytes x 32).1 4).1 520 100).2) (tkCount_val 520 100 (by omega)).1
            have g5 := tkBytes_ok g4.1 (n := 4) (by omega)
            exact g5.2.2.trans (g4.2.2.trans (g3.2.2.trans (g2.2.2.trans g1.2.2)))
      have eout : ∀ (n : Nat) (x : Tk) (l : List TOut), TkOK x → (partsN oneOut n x l).1.2.1 = x.2.1 := by
        intro n
        induction n with
        | zero => intro x l _; rfl
        | succ n ih =>
          intro x l hx
          unfold partsN
          split
          · rfl
          · rw [ih _ _ (oneOut_ok hx)]
            unfold oneOut
            dsimp only
            have g2 := tkBytes_ok hx (n := 8) (by omega)
            have g3 := tkCount_ok (x := (tkNum x 8).1) g2.1 520 100
            have g4 := tkBytes_ok g3.1 (n := (tkCount (tkNum x 8).1 520 100).2) (tkCount_val 520 100 (by omega)).1
            exact g4.2.2.trans (g3.2.2.trans g2.2.2)
      have w1 := ein n (tkCount (tkNum (s, 0, 0, 0, ()) 4).1 4096 5).1 [] k2
      rw [hIs] at w1
      have w2 := eout n2 (tkCount is.1 4096 5).1 [] k4
      rw [hOs] at w2
      have w3 : (tkNum (s, 0, 0, 0, ()) 4).1.2.1 = 0 := (tkBytes_ok hx (n := 4) (by omega)).2.2
      have w4 : (tkNum os.1 4).1.2.1 = os.1.2.1 := (tkBytes_ok k5 (n := 4) (by omega)).2.2
      rw [w4, w2, (tkCount_ok k3 4096 5).2.2, w1, (tkCount_ok k1 4096 5).2.2, w3] at hroom
      omega
end Go.Am
namespace Go.Am
open Go Go.Proofs
set_option maxRecDepth 100000
/-! 83 slices.Equal[[]bedrock/api.In,bedrock/api.In] -/
abbrev slices_Equal__api_In_api_In.l0.σ : Type := (List (((List Int) × (Int × Unit)) × (ByteArray × (Int × Unit)))) × (List (((List Int) × (Int × Unit)) × (ByteArray × (Int × Unit)))) × Int × Int × Unit
abbrev slices_Equal__api_In_api_In.l0.τ : Type := (Bool × Unit) ⊕ (Unit)
def slices_Equal__api_In_api_In.l0.r (k : Nat) {ρ : Type} (x : slices_Equal__api_In_api_In.l0.σ) (kn : slices_Equal__api_In_api_In.l0.σ → Option ρ) (ke : slices_Equal__api_In_api_In.l0.τ → Option ρ) : Option ρ :=
  bif (decide (x.2.2.2.1 < x.2.2.1)) then (bif (decide (((0 : Int) ≤ x.2.2.2.1) ∧ (x.2.2.2.1 < (((List.length x.1) : Nat) : Int)))) then (bif (decide (((0 : Int) ≤ x.2.2.2.1) ∧ (x.2.2.2.1 < (((List.length x.2.1) : Nat) : Int)))) then (bif (!(((decide ((List.getD x.1 (Int.toNat x.2.2.2.1) (((List.replicate 32 (0 : Int)), ((0 : Int), ())), (ByteArray.empty, ((0 : Int), ())))).1.1 = (List.getD x.2.1 (Int.toNat x.2.2.2.1) (((List.replicate 32 (0 : Int)), ((0 : Int), ())), (ByteArray.empty, ((0 : Int), ())))).1.1)) && (((List.getD x.1 (Int.toNat x.2.2.2.1) (((List.replicate 32 (0 : Int)), ((0 : Int), ())), (ByteArray.empty, ((0 : Int), ())))).1.2.1 == (List.getD x.2.1 (Int.toNat x.2.2.2.1) (((List.replicate 32 (0 : Int)), ((0 : Int), ())), (ByteArray.empty, ((0 : Int), ())))).1.2.1) && true)) && ((strEq (List.getD x.1 (Int.toNat x.2.2.2.1) (((List.replicate 32 (0 : Int)), ((0 : Int), ())), (ByteArray.empty, ((0 : Int), ())))).2.1 (List.getD x.2.1 (Int.toNat x.2.2.2.1) (((List.replicate 32 (0 : Int)), ((0 : Int), ())), (ByteArray.empty, ((0 : Int), ())))).2.1) && (((List.getD x.1 (Int.toNat x.2.2.2.1) (((List.replicate 32 (0 : Int)), ((0 : Int), ())), (ByteArray.empty, ((0 : Int), ())))).2.2.1 == (List.getD x.2.1 (Int.toNat x.2.2.2.1) (((List.replicate 32 (0 : Int)), ((0 : Int), ())), (ByteArray.empty, ((0 : Int), ())))).2.2.1) && true)))) then (ke (.inl (false, ()))) else (let v3 : Int := (IntKind.wrap IntKind.i64 (x.2.2.2.1 + (1 : Int)))
  kn (x.1, (x.2.1, (x.2.2.1, (v3, ())))))) else (none)) else (none)) else (ke (.inr ()))
def slices_Equal__api_In_api_In.l0 (k : Nat) : Nat → slices_Equal__api_In_api_In.l0.σ → Option slices_Equal__api_In_api_In.l0.τ := loopJ (slices_Equal__api_In_api_In.l0.r k)
def slices_Equal__api_In_api_In.l0.T : StT := ⟨.dat (.sl (.pair (.pair (.arr 32 (.int .u8)) (.pair (.int .u32) .unit)) (.pair .str (.pair (.int .u32) .unit)))) :: .dat (.sl (.pair (.pair (.arr 32 (.int .u8)) (.pair (.int .u32) .unit)) (.pair .str (.pair (.int .u32) .unit)))) :: us 10 ++ .dat (.int .i64) :: .dat (.int .i64) :: us 12, []⟩
def slices_Equal__api_In_api_In.l0.os : List Out := [⟨.ret, [.mask [4], .auto 0], ⟨us 4 ++ .dat .bool :: us 21, []⟩⟩, ⟨(.exit 0), [.mask [], .auto 0], ⟨us 26, []⟩⟩]
def slices_Equal__api_In_api_In.c (k : Nat) {ρ : Type} (s1 : (List (((List Int) × (Int × Unit)) × (ByteArray × (Int × Unit))))) (s2 : (List (((List Int) × (Int × Unit)) × (ByteArray × (Int × Unit))))) (K : Bool × Unit → Option ρ) : Option ρ :=
  let v0 : Int := (((List.length s1) : Nat) : Int)
  let v1 : Int := (((List.length s2) : Nat) : Int)
  bif (v0 != v1) then (K (false, ())) else (let v2 : Int := (((List.length s1) : Nat) : Int)
  (slices_Equal__api_In_api_In.l0 k k (s1, (s2, (v2, ((0 : Int), ()))))).bind fun t4 => (match t4 with | .inl t5 => (K (t5.1, ())) | .inr (t6) => (K (true, ()))))
def slices_Equal__api_In_api_In (k : Nat) (s1 : (List (((List Int) × (Int × Unit)) × (ByteArray × (Int × Unit))))) (s2 : (List (((List Int) × (Int × Unit)) × (ByteArray × (Int × Unit))))) : Option (Bool × Unit) := slices_Equal__api_In_api_In.c k s1 s2 some
def slices_Equal__api_In_api_In.tin : List Ty := [(.sl (.pair (.pair (.arr 32 (.int .u8)) (.pair (.int .u32) .unit)) (.pair .str (.pair (.int .u32) .unit)))), (.sl (.pair (.pair (.arr 32 (.int .u8)) (.pair (.int .u32) .unit)) (.pair .str (.pair (.int .u32) .unit))))]
def slices_Equal__api_In_api_In.tout : List Ty := [.bool]
def slices_Equal__api_In_api_In.sem (k : Nat) : CallSem := callPure slices_Equal__api_In_api_In.tin slices_Equal__api_In_api_In.tout fun x => slices_Equal__api_In_api_In k x.1 x.2.1
noncomputable def slices_Equal__api_In_api_In.ctx (k : Nat) : Ctx := ⟨Try.prog, gam []⟩
theorem slices_Equal__api_In_api_In.gok (k : Nat) : ∀ f, SemOK Try.prog f ((slices_Equal__api_In_api_In.ctx k).Γ f) := gam_nil
theorem slices_Equal__api_In_api_In.l0.round (k : Nat) : RoundIs (slices_Equal__api_In_api_In.ctx k) (codeAt (Func.code Try.f83) [1, 1, 0, 1, 0, 0]) (.nil) slices_Equal__api_In_api_In.l0.T [.mask [0, 1, 12, 13], .auto 0] slices_Equal__api_In_api_In.l0.os (slices_Equal__api_In_api_In.l0.r k) := by
  intro ρ x kn ke; kernel_rfl
theorem slices_Equal__api_In_api_In.l0.ok (k : Nat) : StOK 0 Try.prog (.loop (codeAt (Func.code Try.f83) [1, 1, 0, 1, 0, 0])) (pieceSem slices_Equal__api_In_api_In.l0.T slices_Equal__api_In_api_In.l0.os (slices_Equal__api_In_api_In.l0 k k)) :=
  loop_ok (C := slices_Equal__api_In_api_In.ctx k) (slices_Equal__api_In_api_In.gok k) Try.mix AnnOK.nil (by kernel_rfl) (by kernel_rfl) (by kernel_rfl) (slices_Equal__api_In_api_In.l0.round k) k
def slices_Equal__api_In_api_In.ann (k : Nat) : Ann := .node [] none (.nil) (.node [] none (.nil) (.node [] none (.node [] none (.nil) (.node [] none (.node [] (some (pieceSem slices_Equal__api_In_api_In.l0.T slices_Equal__api_In_api_In.l0.os (slices_Equal__api_In_api_In.l0 k k))) .nil .nil) (.nil))) (.nil)))
theorem slices_Equal__api_In_api_In.body (k : Nat) : BodyIs (slices_Equal__api_In_api_In.ctx k) Try.f83 (Func.code Try.f83) (slices_Equal__api_In_api_In.ann k) slices_Equal__api_In_api_In.tin slices_Equal__api_In_api_In.tout (fun x K => slices_Equal__api_In_api_In.c k x.1 x.2.1 K) := by
  intro ρ x K; kernel_rfl
theorem slices_Equal__api_In_api_In.sem_ok (k : Nat) : SemOK Try.prog 83 (slices_Equal__api_In_api_In.sem k) :=
  callPure_ok (C := slices_Equal__api_In_api_In.ctx k) (slices_Equal__api_In_api_In.gok k) Try.mix (c := Func.code Try.f83) (ann := slices_Equal__api_In_api_In.ann k) (tin := slices_Equal__api_In_api_In.tin) (tout := slices_Equal__api_In_api_In.tout) (fun x K => slices_Equal__api_In_api_In.c k x.1 x.2.1 K) Try.func83 (by kernel_rfl) (by kernel_rfl) (AnnOK.seq AnnOK.nil (AnnOK.seq AnnOK.nil (AnnOK.seq (AnnOK.seq AnnOK.nil (AnnOK.block (AnnOK.loop (by kernel_rfl) (slices_Equal__api_In_api_In.l0.ok k)))) AnnOK.nil))) (slices_Equal__api_In_api_In.body k)

/-! 84 slices.Equal[[]bedrock/api.Out,bedrock/api.Out] -/
abbrev slices_Equal__api_Out_api_Out.l0.σ : Type := (List (Int × (ByteArray × Unit))) × (List (Int × (ByteArray × Unit))) × Int × Int × Unit
abbrev slices_Equal__api_Out_api_Out.l0.τ : Type := (Bool × Unit) ⊕ (Unit)
def slices_Equal__api_Out_api_Out.l0.r (k : Nat) {ρ : Type} (x : slices_Equal__api_Out_api_Out.l0.σ) (kn : slices_Equal__api_Out_api_Out.l0.σ → Option ρ) (ke : slices_Equal__api_Out_api_Out.l0.τ → Option ρ) : Option ρ :=
  bif (decide (x.2.2.2.1 < x.2.2.1)) then (bif (decide (((0 : Int) ≤ x.2.2.2.1) ∧ (x.2.2.2.1 < (((List.length x.1) : Nat) : Int)))) then (bif (decide (((0 : Int) ≤ x.2.2.2.1) ∧ (x.2.2.2.1 < (((List.length x.2.1) : Nat) : Int)))) then (bif (!(((List.getD x.1 (Int.toNat x.2.2.2.1) ((0 : Int), (ByteArray.empty, ()))).1 == (List.getD x.2.1 (Int.toNat x.2.2.2.1) ((0 : Int), (ByteArray.empty, ()))).1) && ((strEq (List.getD x.1 (Int.toNat x.2.2.2.1) ((0 : Int), (ByteArray.empty, ()))).2.1 (List.getD x.2.1 (Int.toNat x.2.2.2.1) ((0 : Int), (ByteArray.empty, ()))).2.1) && true))) then (ke (.inl (false, ()))) else (let v3 : Int := (IntKind.wrap IntKind.i64 (x.2.2.2.1 + (1 : Int)))
  kn (x.1, (x.2.1, (x.2.2.1, (v3, ())))))) else (none)) else (none)) else (ke (.inr ()))
def slices_Equal__api_Out_api_Out.l0 (k : Nat) : Nat → slices_Equal__api_Out_api_Out.l0.σ → Option slices_Equal__api_Out_api_Out.l0.τ := loopJ (slices_Equal__api_Out_api_Out.l0.r k)
def slices_Equal__api_Out_api_Out.l0.T : StT := ⟨.dat (.sl (.pair (.int .u64) (.pair .str .unit))) :: .dat (.sl (.pair (.int .u64) (.pair .str .unit))) :: us 10 ++ .dat (.int .i64) :: .dat (.int .i64) :: us 12, []⟩
def slices_Equal__api_Out_api_Out.l0.os : List Out := [⟨.ret, [.mask [4], .auto 0], ⟨us 4 ++ .dat .bool :: us 21, []⟩⟩, ⟨(.exit 0), [.mask [], .auto 0], ⟨us 26, []⟩⟩]
def slices_Equal__api_Out_api_Out.c (k : Nat) {ρ : Type} (s1 : (List (Int × (ByteArray × Unit)))) (s2 : (List (Int × (ByteArray × Unit)))) (K : Bool × Unit → Option ρ) : Option ρ :=
  let v0 : Int := (((List.length s1) : Nat) : Int)
  let v1 : Int := (((List.length s2) : Nat) : Int)
  bif (v0 != v1) then (K (false, ())) else (let v2 : Int := (((List.length s1) : Nat) : Int)
  (slices_Equal__api_Out_api_Out.l0 k k (s1, (s2, (v2, ((0 : Int), ()))))).bind fun t4 => (match t4 with | .inl t5 => (K (t5.1, ())) | .inr (t6) => (K (true, ()))))
def slices_Equal__api_Out_api_Out (k : Nat) (s1 : (List (Int × (ByteArray × Unit)))) (s2 : (List (Int × (ByteArray × Unit)))) : Option (Bool × Unit) := slices_Equal__api_Out_api_Out.c k s1 s2 some
def slices_Equal__api_Out_api_Out.tin : List Ty := [(.sl (.pair (.int .u64) (.pair .str .unit))), (.sl (.pair (.int .u64) (.pair .str .unit)))]
def slices_Equal__api_Out_api_Out.tout : List Ty := [.bool]
def slices_Equal__api_Out_api_Out.sem (k : Nat) : CallSem := callPure slices_Equal__api_Out_api_Out.tin slices_Equal__api_Out_api_Out.tout fun x => slices_Equal__api_Out_api_Out k x.1 x.2.1
noncomputable def slices_Equal__api_Out_api_Out.ctx (k : Nat) : Ctx := ⟨Try.prog, gam []⟩
theorem slices_Equal__api_Out_api_Out.gok (k : Nat) : ∀ f, SemOK Try.prog f ((slices_Equal__api_Out_api_Out.ctx k).Γ f) := gam_nil
theorem slices_Equal__api_Out_api_Out.l0.round (k : Nat) : RoundIs (slices_Equal__api_Out_api_Out.ctx k) (codeAt (Func.code Try.f84) [1, 1, 0, 1, 0, 0]) (.nil) slices_Equal__api_Out_api_Out.l0.T [.mask [0, 1, 12, 13], .auto 0] slices_Equal__api_Out_api_Out.l0.os (slices_Equal__api_Out_api_Out.l0.r k) := by
  intro ρ x kn ke; kernel_rfl
theorem slices_Equal__api_Out_api_Out.l0.ok (k : Nat) : StOK 0 Try.prog (.loop (codeAt (Func.code Try.f84) [1, 1, 0, 1, 0, 0])) (pieceSem slices_Equal__api_Out_api_Out.l0.T slices_Equal__api_Out_api_Out.l0.os (slices_Equal__api_Out_api_Out.l0 k k)) :=
  loop_ok (C := slices_Equal__api_Out_api_Out.ctx k) (slices_Equal__api_Out_api_Out.gok k) Try.mix AnnOK.nil (by kernel_rfl) (by kernel_rfl) (by kernel_rfl) (slices_Equal__api_Out_api_Out.l0.round k) k
def slices_Equal__api_Out_api_Out.ann (k : Nat) : Ann := .node [] none (.nil) (.node [] none (.nil) (.node [] none (.node [] none (.nil) (.node [] none (.node [] (some (pieceSem slices_Equal__api_Out_api_Out.l0.T slices_Equal__api_Out_api_Out.l0.os (slices_Equal__api_Out_api_Out.l0 k k))) .nil .nil) (.nil))) (.nil)))
theorem slices_Equal__api_Out_api_Out.body (k : Nat) : BodyIs (slices_Equal__api_Out_api_Out.ctx k) Try.f84 (Func.code Try.f84) (slices_Equal__api_Out_api_Out.ann k) slices_Equal__api_Out_api_Out.tin slices_Equal__api_Out_api_Out.tout (fun x K => slices_Equal__api_Out_api_Out.c k x.1 x.2.1 K) := by
  intro ρ x K; kernel_rfl
theorem slices_Equal__api_Out_api_Out.sem_ok (k : Nat) : SemOK Try.prog 84 (slices_Equal__api_Out_api_Out.sem k) :=
  callPure_ok (C := slices_Equal__api_Out_api_Out.ctx k) (slices_Equal__api_Out_api_Out.gok k) Try.mix (c := Func.code Try.f84) (ann := slices_Equal__api_Out_api_Out.ann k) (tin := slices_Equal__api_Out_api_Out.tin) (tout := slices_Equal__api_Out_api_Out.tout) (fun x K => slices_Equal__api_Out_api_Out.c k x.1 x.2.1 K) Try.func84 (by kernel_rfl) (by kernel_rfl) (AnnOK.seq AnnOK.nil (AnnOK.seq AnnOK.nil (AnnOK.seq (AnnOK.seq AnnOK.nil (AnnOK.block (AnnOK.loop (by kernel_rfl) (slices_Equal__api_Out_api_Out.l0.ok k)))) AnnOK.nil))) (slices_Equal__api_Out_api_Out.body k)

/-! 33 bedrock/tx.Same -/
def tx_Same.c (k : Nat) {ρ : Type} (a : (Int × ((List (((List Int) × (Int × Unit)) × (ByteArray × (Int × Unit)))) × ((List (Int × (ByteArray × Unit))) × (Int × Unit))))) (b : (Int × ((List (((List Int) × (Int × Unit)) × (ByteArray × (Int × Unit)))) × ((List (Int × (ByteArray × Unit))) × (Int × Unit))))) (K : Bool × Unit → Option ρ) : Option ρ :=
  let v0 : Int := a.1
  let v1 : Int := b.1
  bif (v0 == v1) then (let v2 : Int := a.2.2.2.1
  let v3 : Int := b.2.2.2.1
  bif (v2 == v3) then (let v4 : (List (((List Int) × (Int × Unit)) × (ByteArray × (Int × Unit)))) := a.2.1
  let v5 : (List (((List Int) × (Int × Unit)) × (ByteArray × (Int × Unit)))) := b.2.1
  (slices_Equal__api_In_api_In k v4 v5).bind fun t6 => bif t6.1 then (let v7 : (List (Int × (ByteArray × Unit))) := a.2.2.1
  let v8 : (List (Int × (ByteArray × Unit))) := b.2.2.1
  (slices_Equal__api_Out_api_Out k v7 v8).bind fun t9 => K (t9.1, ())) else (K (false, ()))) else (K (false, ()))) else (K (false, ()))
def tx_Same (k : Nat) (a : (Int × ((List (((List Int) × (Int × Unit)) × (ByteArray × (Int × Unit)))) × ((List (Int × (ByteArray × Unit))) × (Int × Unit))))) (b : (Int × ((List (((List Int) × (Int × Unit)) × (ByteArray × (Int × Unit)))) × ((List (Int × (ByteArray × Unit))) × (Int × Unit))))) : Option (Bool × Unit) := tx_Same.c k a b some
def tx_Same.tin : List Ty := [(.pair (.int .u32) (.pair (.sl (.pair (.pair (.arr 32 (.int .u8)) (.pair (.int .u32) .unit)) (.pair .str (.pair (.int .u32) .unit)))) (.pair (.sl (.pair (.int .u64) (.pair .str .unit))) (.pair (.int .u32) .unit)))), (.pair (.int .u32) (.pair (.sl (.pair (.pair (.arr 32 (.int .u8)) (.pair (.int .u32) .unit)) (.pair .str (.pair (.int .u32) .unit)))) (.pair (.sl (.pair (.int .u64) (.pair .str .unit))) (.pair (.int .u32) .unit))))]
def tx_Same.tout : List Ty := [.bool]
def tx_Same.sem (k : Nat) : CallSem := callPure tx_Same.tin tx_Same.tout fun x => tx_Same k x.1 x.2.1
noncomputable def tx_Same.ctx (k : Nat) : Ctx := ⟨Try.prog, gam [(83, (slices_Equal__api_In_api_In.sem k)), (84, (slices_Equal__api_Out_api_Out.sem k))]⟩
theorem tx_Same.gok (k : Nat) : ∀ f, SemOK Try.prog f ((tx_Same.ctx k).Γ f) := (gam_cons (slices_Equal__api_In_api_In.sem_ok k) (gam_cons (slices_Equal__api_Out_api_Out.sem_ok k) gam_nil))
def tx_Same.ann (k : Nat) : Ann := .nil
theorem tx_Same.body (k : Nat) : BodyIs (tx_Same.ctx k) Try.f33 (Func.code Try.f33) (tx_Same.ann k) tx_Same.tin tx_Same.tout (fun x K => tx_Same.c k x.1 x.2.1 K) := by
  intro ρ x K; kernel_rfl
theorem tx_Same.sem_ok (k : Nat) : SemOK Try.prog 33 (tx_Same.sem k) :=
  callPure_ok (C := tx_Same.ctx k) (tx_Same.gok k) Try.mix (c := Func.code Try.f33) (ann := tx_Same.ann k) (tin := tx_Same.tin) (tout := tx_Same.tout) (fun x K => tx_Same.c k x.1 x.2.1 K) Try.func33 (by kernel_rfl) (by kernel_rfl) AnnOK.nil (tx_Same.body k)

/-! 7 bedrock/bedrocklaw10.TxBack -/
abbrev bedrocklaw10_TxBack.p0.σ : Type := ByteArray × ByteArray × ByteArray × Int × (Int × ((List (((List Int) × (Int × Unit)) × (ByteArray × (Int × Unit)))) × ((List (Int × (ByteArray × Unit))) × (Int × Unit)))) × Unit
abbrev bedrocklaw10_TxBack.p0.τ : Type := (Bool × Unit) ⊕ (ByteArray × ByteArray × Int × (Int × ((List (((List Int) × (Int × Unit)) × (ByteArray × (Int × Unit)))) × ((List (Int × (ByteArray × Unit))) × (Int × Unit)))) × Unit)
def bedrocklaw10_TxBack.p0.r (k : Nat) {ρ : Type} (x : bedrocklaw10_TxBack.p0.σ) (K : bedrocklaw10_TxBack.p0.τ → Option ρ) : Option ρ :=
  bif (x.2.2.2.1 == (0 : Int)) then (bif (Nat.ble ((ByteArray.size x.1) + (ByteArray.size x.2.2.1)) 9223372036854775807) then (let v4 : ByteArray := (x.1 ++ x.2.2.1)
  bif (Nat.ble ((ByteArray.size v4) + (ByteArray.size x.2.1)) 9223372036854775807) then (let v5 : ByteArray := (v4 ++ x.2.1)
  let v6 : Int := (((ByteArray.size x.1) : Nat) : Int)
  (tx_Take k v5 v6).bind fun t7 => let v8 : Int := t7.2.1
  let v9 : Int := t7.2.2.1
  bif (v9 != (0 : Int)) then (K (.inl (false, ()))) else (let v10 : Int := (((ByteArray.size x.1) : Nat) : Int)
  let v11 : Int := (((ByteArray.size x.2.2.1) : Nat) : Int)
  let v12 : Int := (IntKind.wrap IntKind.i64 (v10 + v11))
  bif (v8 != v12) then (K (.inl (false, ()))) else ((tx_Same k (t7.1.1, (t7.1.2.1, (t7.1.2.2.1, (t7.1.2.2.2.1, ())))) (x.2.2.2.2.1.1, (x.2.2.2.2.1.2.1, (x.2.2.2.2.1.2.2.1, (x.2.2.2.2.1.2.2.2.1, ()))))).bind fun t13 => bif (!t13.1) then (K (.inl (false, ()))) else (K (.inr (x.2.1, (x.2.2.1, (x.2.2.2.1, ((x.2.2.2.2.1.1, (x.2.2.2.2.1.2.1, (x.2.2.2.2.1.2.2.1, (x.2.2.2.2.1.2.2.2.1, ())))), ()))))))))) else (none)) else (none)) else (K (.inr (x.2.1, (x.2.2.1, (x.2.2.2.1, ((x.2.2.2.2.1.1, (x.2.2.2.2.1.2.1, (x.2.2.2.2.1.2.2.1, (x.2.2.2.2.1.2.2.2.1, ())))), ()))))))
def bedrocklaw10_TxBack.p0 (k : Nat) (x : bedrocklaw10_TxBack.p0.σ) : Option bedrocklaw10_TxBack.p0.τ := bedrocklaw10_TxBack.p0.r k x some
def bedrocklaw10_TxBack.p0.T : StT := ⟨us 1 ++ .dat .str :: .dat .str :: .ptr 0 [] :: us 3 ++ .dat .str :: .dat (.int .i64) :: us 76, [.dat (.pair (.int .u32) (.pair (.sl (.pair (.pair (.arr 32 (.int .u8)) (.pair (.int .u32) .unit)) (.pair .str (.pair (.int .u32) .unit)))) (.pair (.sl (.pair (.int .u64) (.pair .str .unit))) (.pair (.int .u32) .unit))))]⟩
def bedrocklaw10_TxBack.p0.os : List Out := [⟨.ret, [.mask [6], .auto 0], ⟨us 6 ++ .dat .bool :: us 78, []⟩⟩, ⟨.normal, [.mask [2, 3, 7, 8], .auto 0], ⟨us 2 ++ .dat .str :: .ptr 0 [] :: us 3 ++ .dat .str :: .dat (.int .i64) :: us 76, [.dat (.pair (.int .u32) (.pair (.sl (.pair (.pair (.arr 32 (.int .u8)) (.pair (.int .u32) .unit)) (.pair .str (.pair (.int .u32) .unit)))) (.pair (.sl (.pair (.int .u64) (.pair .str .unit))) (.pair (.int .u32) .unit))))]⟩⟩]
def bedrocklaw10_TxBack.c (k : Nat) {ρ : Type} (t : (Int × ((List (((List Int) × (Int × Unit)) × (ByteArray × (Int × Unit)))) × ((List (Int × (ByteArray × Unit))) × (Int × Unit))))) (ahead : ByteArray) (s : ByteArray) (K : Bool × Unit → Option ρ) : Option ρ :=
  (bedrocklaw10_awake k ).bind fun t0 => bif (!t0.1) then (K (false, ())) else ((tx_Encode k (t.1, (t.2.1, (t.2.2.1, (t.2.2.2.1, ()))))).bind fun t1 => let v2 : ByteArray := t1.1
  let v3 : Int := t1.2.1
  (bedrocklaw10_TxBack.p0 k (ahead, (s, (v2, (v3, ((t.1, (t.2.1, (t.2.2.1, (t.2.2.2.1, ())))), ())))))).bind fun t14 => (match t14 with | .inl t15 => (K (t15.1, ())) | .inr (t16) => ((tx_Decode k t16.1).bind fun t17 => let v18 : Int := t17.2.1
  bif (v18 != (0 : Int)) then (K (true, ())) else ((tx_Encode k (t17.1.1, (t17.1.2.1, (t17.1.2.2.1, (t17.1.2.2.2.1, ()))))).bind fun t19 => let v20 : ByteArray := t19.1
  let v21 : Int := t19.2.1
  bif (v21 == (0 : Int)) then (bif (strEq v20 t16.1) then (bif (t16.2.2.1 != (0 : Int)) then (K (true, ())) else ((tx_Same k (t17.1.1, (t17.1.2.1, (t17.1.2.2.1, (t17.1.2.2.2.1, ())))) (t16.2.2.2.1.1, (t16.2.2.2.1.2.1, (t16.2.2.2.1.2.2.1, (t16.2.2.2.1.2.2.2.1, ()))))).bind fun t22 => K ((t22.1 == (strEq t16.2.1 t16.1)), ()))) else (K (false, ()))) else (K (false, ()))))))
def bedrocklaw10_TxBack (k : Nat) (t : (Int × ((List (((List Int) × (Int × Unit)) × (ByteArray × (Int × Unit)))) × ((List (Int × (ByteArray × Unit))) × (Int × Unit))))) (ahead : ByteArray) (s : ByteArray) : Option (Bool × Unit) := bedrocklaw10_TxBack.c k t ahead s some
def bedrocklaw10_TxBack.tin : List Ty := [(.pair (.int .u32) (.pair (.sl (.pair (.pair (.arr 32 (.int .u8)) (.pair (.int .u32) .unit)) (.pair .str (.pair (.int .u32) .unit)))) (.pair (.sl (.pair (.int .u64) (.pair .str .unit))) (.pair (.int .u32) .unit)))), .str, .str]
def bedrocklaw10_TxBack.tout : List Ty := [.bool]
def bedrocklaw10_TxBack.sem (k : Nat) : CallSem := callPure bedrocklaw10_TxBack.tin bedrocklaw10_TxBack.tout fun x => bedrocklaw10_TxBack k x.1 x.2.1 x.2.2.1
noncomputable def bedrocklaw10_TxBack.ctx (k : Nat) : Ctx := ⟨Try.prog, gam [(21, (bedrocklaw10_awake.sem k)), (32, (tx_Encode.sem k)), (19, (tx_Take.sem k)), (33, (tx_Same.sem k)), (24, (tx_Decode.sem k))]⟩
theorem bedrocklaw10_TxBack.gok (k : Nat) : ∀ f, SemOK Try.prog f ((bedrocklaw10_TxBack.ctx k).Γ f) := (gam_cons (bedrocklaw10_awake.sem_ok k) (gam_cons (tx_Encode.sem_ok k) (gam_cons (tx_Take.sem_ok k) (gam_cons (tx_Same.sem_ok k) (gam_cons (tx_Decode.sem_ok k) gam_nil)))))
theorem bedrocklaw10_TxBack.p0.is (k : Nat) : PieceIs (bedrocklaw10_TxBack.ctx k) (codeAt (Func.code Try.f7) [1, 1, 1, 0]) (.nil) bedrocklaw10_TxBack.p0.T bedrocklaw10_TxBack.p0.os (bedrocklaw10_TxBack.p0.r k) := by
  intro ρ x K; kernel_rfl
theorem bedrocklaw10_TxBack.p0.ok (k : Nat) : StOK 0 Try.prog (codeAt (Func.code Try.f7) [1, 1, 1, 0]) (pieceSem bedrocklaw10_TxBack.p0.T bedrocklaw10_TxBack.p0.os (bedrocklaw10_TxBack.p0 k)) :=
  piece_ok (C := bedrocklaw10_TxBack.ctx k) (T := bedrocklaw10_TxBack.p0.T) (os := bedrocklaw10_TxBack.p0.os) (bedrocklaw10_TxBack.gok k) Try.mix (fun x K => bedrocklaw10_TxBack.p0.r k x K) AnnOK.nil (by kernel_rfl) (by kernel_rfl) (bedrocklaw10_TxBack.p0.is k)
def bedrocklaw10_TxBack.ann (k : Nat) : Ann := .node [] none (.nil) (.node [] none (.nil) (.node [] none (.nil) (.node [] none (.node [.mask [1, 2, 3, 7, 8], .auto 0] (some (pieceSem bedrocklaw10_TxBack.p0.T bedrocklaw10_TxBack.p0.os (bedrocklaw10_TxBack.p0 k))) .nil .nil) (.nil))))
theorem bedrocklaw10_TxBack.body (k : Nat) : BodyIs (bedrocklaw10_TxBack.ctx k) Try.f7 (Func.code Try.f7) (bedrocklaw10_TxBack.ann k) bedrocklaw10_TxBack.tin bedrocklaw10_TxBack.tout (fun x K => bedrocklaw10_TxBack.c k x.1 x.2.1 x.2.2.1 K) := by
  intro ρ x K; kernel_rfl
theorem bedrocklaw10_TxBack.sem_ok (k : Nat) : SemOK Try.prog 7 (bedrocklaw10_TxBack.sem k) :=
  callPure_ok (C := bedrocklaw10_TxBack.ctx k) (bedrocklaw10_TxBack.gok k) Try.mix (c := Func.code Try.f7) (ann := bedrocklaw10_TxBack.ann k) (tin := bedrocklaw10_TxBack.tin) (tout := bedrocklaw10_TxBack.tout) (fun x K => bedrocklaw10_TxBack.c k x.1 x.2.1 x.2.2.1 K) Try.func7 (by kernel_rfl) (by kernel_rfl) (AnnOK.seq AnnOK.nil (AnnOK.seq AnnOK.nil (AnnOK.seq AnnOK.nil (AnnOK.seq (AnnOK.loop (by kernel_rfl) (bedrocklaw10_TxBack.p0.ok k)) AnnOK.nil)))) (bedrocklaw10_TxBack.body k)

end Go.Am
/- TxBack: the law. -/
namespace Go.Am
open Go

theorem tin_dec (x y : TIn) : ((decide (x.1.1 = y.1.1) && ((x.1.2.1 == y.1.2.1) && true)) && (strEq x.2.1 y.2.1 && ((x.2.2.1 == y.2.2.1) && true))) = decide (x = y) := by
  obtain ⟨⟨a, b, u0⟩, c, d, u⟩ := x
  obtain ⟨⟨a', b', u0'⟩, c', d', u'⟩ := y
  rw [Bool.eq_iff_iff]
  simp only [strEq_dec, Bool.and_eq_true, decide_eq_true_eq, beq_iff_eq, Bool.and_true, Prod.mk.injEq]
  simp
instance decTIn : DecidableEq TIn := inferInstance
instance decTIns : DecidableEq (List TIn) := inferInstance
instance decT2 : DecidableEq (List TIn × List TOut × Int × Unit) := inferInstance
instance decTTx : DecidableEq TTx := inferInstance

theorem eqIns_eq {k : Nat} {a b : List TIn} (hk : a.length < k) (h : a.length ≤ 4611686018427387904) : slices_Equal__api_In_api_In k a b = some (decide (a = b), ()) := by
  unfold slices_Equal__api_In_api_In slices_Equal__api_In_api_In.c
  dsimp only
  by_cases c : a.length = b.length
  · rw [cond_false' (by rw [c, bne_self_eq_false])]
    have l0 : slices_Equal__api_In_api_In.l0 k k (a, b, (a.length : Int), (0 : Int), ()) = some (if ∀ i, i < a.length → decide (a.getD i dIn = b.getD i dIn) = true then .inr () else .inl (false, ())) := by
      refine loop_find (r := slices_Equal__api_In_api_In.l0.r k) (fun i => (a, b, (a.length : Int), (i : Int), ())) a.length _ _ (fun i => decide (a.getD i dIn = b.getD i dIn)) ?_ ?_ ?_ hk
      · intro i h hq kn ke
        simp only [slices_Equal__api_In_api_In.l0.r]
        rw [dIn_eq, bif_yes (by omega), bif_yes (by omega), bif_yes (by omega), show (i : Int).toNat = i by omega, tin_dec, hq, i64_in (by omega)]
        rfl
      · intro i h hq kn ke
        simp only [slices_Equal__api_In_api_In.l0.r]
        rw [dIn_eq, bif_yes (by omega), bif_yes (by omega), bif_yes (by omega), show (i : Int).toNat = i by omega, tin_dec, hq]
        rfl
      · intro kn ke
        simp only [slices_Equal__api_In_api_In.l0.r]
        rw [bif_no (by omega)]
    rw [l0]
    simp only [Option.bind_some]
    by_cases d : a = b
    · rw [if_pos ((all_dec dIn c).2 d), decide_eq_true d]
    · rw [if_neg (fun h => d ((all_dec dIn c).1 h)), decide_eq_false d]
  · rw [cond_true' (by rw [bne_iff_ne]; omega), decide_eq_false (fun h => c (by rw [h]))]
theorem eqOuts_eq {k : Nat} {a b : List TOut} (hk : a.length < k) (h : a.length ≤ 4611686018427387904) : slices_Equal__api_Out_api_Out k a b = some (decide (a = b), ()) := by
  unfold slices_Equal__api_Out_api_Out slices_Equal__api_Out_api_Out.c
  dsimp only
  by_cases c : a.length = b.length
  · rw [cond_false' (by rw [c, bne_self_eq_false])]
    have l0 : slices_Equal__api_Out_api_Out.l0 k k (a, b, (a.length : Int), (0 : Int), ()) = some (if ∀ i, i < a.length → decide (a.getD i dOut = b.getD i dOut) = true then .inr () else .inl (false, ())) := by
      refine loop_find (r := slices_Equal__api_Out_api_Out.l0.r k) (fun i => (a, b, (a.length : Int), (i : Int), ())) a.length _ _ (fun i => decide (a.getD i dOut = b.getD i dOut)) ?_ ?_ ?_ hk
      · intro i h hq kn ke
        simp only [slices_Equal__api_Out_api_Out.l0.r]
        rw [dOut_eq, bif_yes (by omega), bif_yes (by omega), bif_yes (by omega), show (i : Int).toNat = i by omega, out_dec, hq, i64_in (by omega)]
        rfl
      · intro i h hq kn ke
        simp only [slices_Equal__api_Out_api_Out.l0.r]
        rw [dOut_eq, bif_yes (by omega), bif_yes (by omega), bif_yes (by omega), show (i : Int).toNat = i by omega, out_dec, hq]
        rfl
      · intro kn ke
        simp only [slices_Equal__api_Out_api_Out.l0.r]
        rw [bif_no (by omega)]
    rw [l0]
    simp only [Option.bind_some]
    by_cases d : a = b
    · rw [if_pos ((all_dec dOut c).2 d), decide_eq_true d]
    · rw [if_neg (fun h => d ((all_dec dOut c).1 h)), decide_eq_false d]
  · rw [cond_true' (by rw [bne_iff_ne]; omega), decide_eq_false (fun h => c (by rw [h]))]

theorem tx_Same_eq {k : Nat} {a b : TTx} (hk : a.2.1.length + a.2.2.1.length < k) (h : a.2.1.length ≤ 4611686018427387904 ∧ a.2.2.1.length ≤ 4611686018427387904) : tx_Same k a b = some (decide (a = b), ()) := by
  obtain ⟨v, ins, outs, tm, u⟩ := a
  obtain ⟨v', ins', outs', tm', u'⟩ := b
  dsimp only at hk h
  unfold tx_Same tx_Same.c
  dsimp only
  have hiff : ((v, ins, outs, tm, u) : TTx) = (v', ins', outs', tm', u') ↔ v = v' ∧ tm = tm' ∧ ins = ins' ∧ outs = outs' := by
    simp only [Prod.mk.injEq]
    constructor
    · rintro ⟨h1, h2, h3, h4, _⟩; exact ⟨h1, h4, h2, h3⟩
    · rintro ⟨h1, h4, h2, h3⟩; exact ⟨h1, h2, h3, h4, True.intro⟩
  by_cases c1 : v = v'
  · rw [cond_true' (by simpa using c1)]
    by_cases c2 : tm = tm'
    · rw [cond_true' (by simpa using c2), eqIns_eq (by omega) h.1]
      simp only [Option.bind_some]
      by_cases c3 : ins = ins'
      · rw [decide_eq_true c3, cond_true, eqOuts_eq (by omega) h.2]
        simp only [Option.bind_some]
        by_cases c4 : outs = outs'
        · rw [decide_eq_true c4, decide_eq_true (hiff.2 ⟨c1, c2, c3, c4⟩)]
        · rw [decide_eq_false c4, decide_eq_false (fun h => c4 (hiff.1 h).2.2.2)]
      · rw [decide_eq_false c3, cond_false, decide_eq_false (fun h => c3 (hiff.1 h).2.2.1)]
    · rw [cond_false' (by simpa using c2), decide_eq_false (fun h => c2 (hiff.1 h).2.1)]
  · rw [cond_false' (by simpa using c1), decide_eq_false (fun h => c1 (hiff.1 h).1)]

theorem encS_ok {t : TTx} (h : (encS t).2 = 0) : scOK t ∧ (encL t).length ≤ 4096 ∧ (encS t).1 = bytesOf (encL t) := by
  unfold encS at h ⊢
  by_cases c : scOK t
  · rw [if_pos c] at h ⊢
    by_cases c2 : (encL t).length > 4096
    · rw [if_pos c2] at h; simp at h
    · rw [if_neg c2]
      exact ⟨c, by omega, rfl⟩
  · rw [if_neg c] at h; simp at h

theorem decS_enc {t : TTx} (ht : TxOK t) (h : (encS t).2 = 0) : decS (encS t).1 = (t, 0) := by
  obtain ⟨h1, h2, h3⟩ := encS_ok h
  have := take_enc ht h1 h2 (a := ⟨#[]⟩) (r := ⟨#[]⟩) (by decide)
  have e : (⟨#[]⟩ : ByteArray) ++ bytesOf (encL t) ++ ⟨#[]⟩ = bytesOf (encL t) := by
    apply ofBytes_inj
    rw [ofBytes_append, ofBytes_append]
    have : ofBytes ⟨#[]⟩ = [] := rfl
    rw [this, List.nil_append, List.append_nil]
  rw [e] at this
  have hz : ((⟨#[]⟩ : ByteArray).size : Int) = 0 := rfl
  rw [hz] at this
  rw [h3]
  unfold decS
  rw [this]
  dsimp only
  rw [if_neg (by simp), if_neg (by rw [bytesOf_size]; simp)]

theorem txBack_true {t : TTx} (ht : TxOK t) {ahead s : ByteArray} (ha : ahead.size ≤ 140737488355328) (hs : s.size ≤ 140737488355328) : bedrocklaw10_TxBack (t.2.1.length + t.2.2.1.length + 10000) t ahead s = some (true, ()) := by
  unfold bedrocklaw10_TxBack bedrocklaw10_TxBack.c
  generalize hk : t.2.1.length + t.2.2.1.length + 10000 = k
  rw [awake10 (by omega)]
  simp only [Option.bind_some, Bool.not_true, cond_false]
  show (tx_Encode k t).bind _ = _
  rw [tx_Encode_eq ht (by omega)]
  simp only [Option.bind_some]
  have hnin := ht.nin
  have hnout := ht.nout
  have hp : bedrocklaw10_TxBack.p0 k (ahead, s, (encS t).1, (encS t).2, t, ()) = some (.inr (s, (encS t).1, (encS t).2, t, ())) := by
    unfold bedrocklaw10_TxBack.p0
    simp only [bedrocklaw10_TxBack.p0.r]
    by_cases c : (encS t).2 = 0
    · obtain ⟨h1, h2, h3⟩ := encS_ok c
      have hz : (encS t).1.size = (encL t).length := by rw [h3, bytesOf_size]
      rw [cond_true' (by simpa using c), cond_true' (ble_of (by omega)), cond_true' (ble_of (by rw [ByteArray.size_append]; omega))]
      have hT := take_enc ht h1 h2 (a := ahead) (r := s) (by omega)
      rw [← h3] at hT
      rw [tx_Take_eq (by omega) (by rw [ByteArray.size_append, ByteArray.size_append]; omega), hT]
      simp only [Option.bind_some]
      rw [show ((0 : Int) != 0) = false from rfl, cond_false, hz, i64_in (by omega), bne_self_eq_false, cond_false]
      show (tx_Same k t t).bind _ = _
      rw [tx_Same_eq (by omega) ⟨by omega, by omega⟩, decide_eq_true rfl]
      rfl
    · rw [cond_false' (by simpa using c)]
  show (bedrocklaw10_TxBack.p0 k (ahead, s, (encS t).1, (encS t).2, t, ())).bind _ = _
  rw [hp]
  simp only [Option.bind_some]
  rw [tx_Decode_eq (by omega) (by omega)]
  simp only [Option.bind_some]
  by_cases c : (decS s).2 = 0
  · rw [cond_false' (by simpa using c)]
    obtain ⟨k1, k2⟩ := dec_enc (by omega) c
    have hl : (decS s).1.2.1.length ≤ 4096 ∧ (decS s).1.2.2.1.length ≤ 4096 := by
      have L0 := tkTake_len s 0
      unfold decS
      split
      · exact ⟨Nat.zero_le _, Nat.zero_le _⟩
      · split
        · exact ⟨Nat.zero_le _, Nat.zero_le _⟩
        · exact L0
    show (tx_Encode k (decS s).1).bind _ = _
    rw [tx_Encode_eq k1 (by omega), k2]
    simp only [Option.bind_some]
    rw [show ((0 : Int) == 0) = true from rfl, cond_true, strEq_self, cond_true]
    by_cases c2 : (encS t).2 = 0
    · rw [cond_false' (by simpa using c2)]
      show (tx_Same k (decS s).1 t).bind _ = _
      rw [tx_Same_eq (by omega) ⟨by omega, by omega⟩, strEq_dec]
      simp only [Option.bind_some]
      have hiff : (decS s).1 = t ↔ (encS t).1 = s := by
        constructor
        · intro h
          rw [← h, k2]
        · intro h
          have := decS_enc ht c2
          rw [h] at this
          rw [this]
      by_cases c3 : (decS s).1 = t
      · rw [decide_eq_true c3, decide_eq_true (hiff.1 c3)]
        rfl
      · rw [decide_eq_false c3, decide_eq_false (fun h => c3 (hiff.2 h))]
        rfl
    · rw [cond_true' (by simpa using c2)]
  · rw [cond_true' (by simpa using c)]
end Go.Am
namespace Go.Am
open Go Go.Proofs
set_option maxRecDepth 100000
/-! 89 bedrock/sha.Twice -/
def sha_Twice.c (k : Nat) {ρ : Type} (s : ByteArray) (K : (List Int) × Unit → Option ρ) : Option ρ :=
  (sha_Sum k s).bind fun t0 => let v1 : ByteArray := (bytesOf (List.take 32 (List.drop 0 t0.1)))
  (sha_Sum k v1).bind fun t2 => K (t2.1, ())
def sha_Twice (k : Nat) (s : ByteArray) : Option ((List Int) × Unit) := sha_Twice.c k s some
def sha_Twice.tin : List Ty := [.str]
def sha_Twice.tout : List Ty := [(.arr 32 (.int .u8))]
def sha_Twice.sem (k : Nat) : CallSem := callPure sha_Twice.tin sha_Twice.tout fun x => sha_Twice k x.1
noncomputable def sha_Twice.ctx (k : Nat) : Ctx := ⟨Try.prog, gam [(96, (sha_Sum.sem k))]⟩
theorem sha_Twice.gok (k : Nat) : ∀ f, SemOK Try.prog f ((sha_Twice.ctx k).Γ f) := (gam_cons (sha_Sum.sem_ok k) gam_nil)
def sha_Twice.ann (k : Nat) : Ann := .nil
theorem sha_Twice.body (k : Nat) : BodyIs (sha_Twice.ctx k) Try.f89 (Func.code Try.f89) (sha_Twice.ann k) sha_Twice.tin sha_Twice.tout (fun x K => sha_Twice.c k x.1 K) := by
  intro ρ x K; kernel_rfl
theorem sha_Twice.sem_ok (k : Nat) : SemOK Try.prog 89 (sha_Twice.sem k) :=
  callPure_ok (C := sha_Twice.ctx k) (sha_Twice.gok k) Try.mix (c := Func.code Try.f89) (ann := sha_Twice.ann k) (tin := sha_Twice.tin) (tout := sha_Twice.tout) (fun x K => sha_Twice.c k x.1 K) Try.func89 (by kernel_rfl) (by kernel_rfl) AnnOK.nil (sha_Twice.body k)

/-! 44 bedrock/tx.ID -/
def tx_ID.c (k : Nat) {ρ : Type} (t : (Int × ((List (((List Int) × (Int × Unit)) × (ByteArray × (Int × Unit)))) × ((List (Int × (ByteArray × Unit))) × (Int × Unit))))) (K : (List Int) × Int × Unit → Option ρ) : Option ρ :=
  (tx_Encode k (t.1, (t.2.1, (t.2.2.1, (t.2.2.2.1, ()))))).bind fun t0 => let v1 : ByteArray := t0.1
  let v2 : Int := t0.2.1
  bif (v2 != (0 : Int)) then (let v3 : (List Int) := (List.replicate 32 (0 : Int))
  K (v3, (v2, ()))) else ((sha_Twice k v1).bind fun t4 => K (t4.1, ((0 : Int), ())))
def tx_ID (k : Nat) (t : (Int × ((List (((List Int) × (Int × Unit)) × (ByteArray × (Int × Unit)))) × ((List (Int × (ByteArray × Unit))) × (Int × Unit))))) : Option ((List Int) × Int × Unit) := tx_ID.c k t some
def tx_ID.tin : List Ty := [(.pair (.int .u32) (.pair (.sl (.pair (.pair (.arr 32 (.int .u8)) (.pair (.int .u32) .unit)) (.pair .str (.pair (.int .u32) .unit)))) (.pair (.sl (.pair (.int .u64) (.pair .str .unit))) (.pair (.int .u32) .unit))))]
def tx_ID.tout : List Ty := [(.arr 32 (.int .u8)), (.int .i64)]
def tx_ID.sem (k : Nat) : CallSem := callPure tx_ID.tin tx_ID.tout fun x => tx_ID k x.1
noncomputable def tx_ID.ctx (k : Nat) : Ctx := ⟨Try.prog, gam [(32, (tx_Encode.sem k)), (89, (sha_Twice.sem k))]⟩
theorem tx_ID.gok (k : Nat) : ∀ f, SemOK Try.prog f ((tx_ID.ctx k).Γ f) := (gam_cons (tx_Encode.sem_ok k) (gam_cons (sha_Twice.sem_ok k) gam_nil))
def tx_ID.ann (k : Nat) : Ann := .nil
theorem tx_ID.body (k : Nat) : BodyIs (tx_ID.ctx k) Try.f44 (Func.code Try.f44) (tx_ID.ann k) tx_ID.tin tx_ID.tout (fun x K => tx_ID.c k x.1 K) := by
  intro ρ x K; kernel_rfl
theorem tx_ID.sem_ok (k : Nat) : SemOK Try.prog 44 (tx_ID.sem k) :=
  callPure_ok (C := tx_ID.ctx k) (tx_ID.gok k) Try.mix (c := Func.code Try.f44) (ann := tx_ID.ann k) (tin := tx_ID.tin) (tout := tx_ID.tout) (fun x K => tx_ID.c k x.1 K) Try.func44 (by kernel_rfl) (by kernel_rfl) AnnOK.nil (tx_ID.body k)

/-! 46 bedrock/bedrockref10.Bytes -/
abbrev bedrockref10_Bytes.l0.σ : Type := ByteArray × (List ((List Int) × (Int × (ByteArray × (Int × Unit))))) × Int × Int × (Int × ((List ((List Int) × (Int × (ByteArray × (Int × Unit))))) × ((List (Int × (ByteArray × Unit))) × (Int × Unit)))) × Unit
abbrev bedrockref10_Bytes.l0.τ : Type := (ByteArray × (Int × ((List ((List Int) × (Int × (ByteArray × (Int × Unit))))) × ((List (Int × (ByteArray × Unit))) × (Int × Unit)))) × Unit)
def bedrockref10_Bytes.l0.r (k : Nat) {ρ : Type} (x : bedrockref10_Bytes.l0.σ) (kn : bedrockref10_Bytes.l0.σ → Option ρ) (ke : bedrockref10_Bytes.l0.τ → Option ρ) : Option ρ :=
  bif (decide (x.2.2.2.1 < x.2.2.1)) then (bif (decide (((0 : Int) ≤ x.2.2.2.1) ∧ (x.2.2.2.1 < (((List.length x.2.1) : Nat) : Int)))) then (let v8 : ByteArray := (bytesOf (List.take 32 (List.drop 0 (List.getD x.2.1 (Int.toNat x.2.2.2.1) ((List.replicate 32 (0 : Int)), ((0 : Int), (ByteArray.empty, ((0 : Int), ()))))).1)))
  let v9 : Int := (List.getD x.2.1 (Int.toNat x.2.2.2.1) ((List.replicate 32 (0 : Int)), ((0 : Int), (ByteArray.empty, ((0 : Int), ()))))).2.1
  (bedrockref10_lay k (IntKind.wrap IntKind.u64 v9) (4 : Int)).bind fun t10 => bif (Nat.ble ((ByteArray.size v8) + (ByteArray.size t10.1)) 9223372036854775807) then (let v11 : ByteArray := (v8 ++ t10.1)
  let v12 : ByteArray := (List.getD x.2.1 (Int.toNat x.2.2.2.1) ((List.replicate 32 (0 : Int)), ((0 : Int), (ByteArray.empty, ((0 : Int), ()))))).2.2.1
  (bedrockref10_Count k (IntKind.wrap IntKind.u64 (((ByteArray.size v12) : Nat) : Int))).bind fun t13 => bif (Nat.ble ((ByteArray.size v11) + (ByteArray.size t13.1)) 9223372036854775807) then (let v14 : ByteArray := (v11 ++ t13.1)
  let v15 : ByteArray := (List.getD x.2.1 (Int.toNat x.2.2.2.1) ((List.replicate 32 (0 : Int)), ((0 : Int), (ByteArray.empty, ((0 : Int), ()))))).2.2.1
  bif (Nat.ble ((ByteArray.size v14) + (ByteArray.size v15)) 9223372036854775807) then (let v16 : ByteArray := (v14 ++ v15)
  let v17 : Int := (List.getD x.2.1 (Int.toNat x.2.2.2.1) ((List.replicate 32 (0 : Int)), ((0 : Int), (ByteArray.empty, ((0 : Int), ()))))).2.2.2.1
  (bedrockref10_lay k (IntKind.wrap IntKind.u64 v17) (4 : Int)).bind fun t18 => bif (Nat.ble ((ByteArray.size v16) + (ByteArray.size t18.1)) 9223372036854775807) then (let v19 : ByteArray := (v16 ++ t18.1)
  bif (Nat.ble ((ByteArray.size x.1) + (ByteArray.size v19)) 9223372036854775807) then (let v20 : ByteArray := (x.1 ++ v19)
  let v21 : Int := (IntKind.wrap IntKind.i64 (x.2.2.2.1 + (1 : Int)))
  kn (v20, (x.2.1, (x.2.2.1, (v21, ((x.2.2.2.2.1.1, (x.2.2.2.2.1.2.1, (x.2.2.2.2.1.2.2.1, (x.2.2.2.2.1.2.2.2.1, ())))), ())))))) else (none)) else (none)) else (none)) else (none)) else (none)) else (none)) else (ke (x.1, ((x.2.2.2.2.1.1, (x.2.2.2.2.1.2.1, (x.2.2.2.2.1.2.2.1, (x.2.2.2.2.1.2.2.2.1, ())))), ())))
def bedrockref10_Bytes.l0 (k : Nat) : Nat → bedrockref10_Bytes.l0.σ → Option bedrockref10_Bytes.l0.τ := loopJ (bedrockref10_Bytes.l0.r k)
def bedrockref10_Bytes.l0.T : StT := ⟨us 1 ++ .ptr 0 [] :: us 1 ++ .dat .str :: us 15 ++ .dat (.sl (.pair (.arr 32 (.int .u8)) (.pair (.int .u32) (.pair .str (.pair (.int .u32) .unit))))) :: .dat (.int .i64) :: .dat (.int .i64) :: us 63, [.dat (.pair (.int .u32) (.pair (.sl (.pair (.arr 32 (.int .u8)) (.pair (.int .u32) (.pair .str (.pair (.int .u32) .unit))))) (.pair (.sl (.pair (.int .u64) (.pair .str .unit))) (.pair (.int .u32) .unit))))]⟩
def bedrockref10_Bytes.l0.os : List Out := [⟨(.exit 0), [.mask [1, 3], .auto 0], ⟨us 1 ++ .ptr 0 [] :: us 1 ++ .dat .str :: us 81, [.dat (.pair (.int .u32) (.pair (.sl (.pair (.arr 32 (.int .u8)) (.pair (.int .u32) (.pair .str (.pair (.int .u32) .unit))))) (.pair (.sl (.pair (.int .u64) (.pair .str .unit))) (.pair (.int .u32) .unit))))]⟩⟩]
abbrev bedrockref10_Bytes.l1.σ : Type := ByteArray × (List (Int × (ByteArray × Unit))) × Int × Int × (Int × ((List ((List Int) × (Int × (ByteArray × (Int × Unit))))) × ((List (Int × (ByteArray × Unit))) × (Int × Unit)))) × Unit
abbrev bedrockref10_Bytes.l1.τ : Type := (ByteArray × (Int × ((List ((List Int) × (Int × (ByteArray × (Int × Unit))))) × ((List (Int × (ByteArray × Unit))) × (Int × Unit)))) × Unit)
def bedrockref10_Bytes.l1.r (k : Nat) {ρ : Type} (x : bedrockref10_Bytes.l1.σ) (kn : bedrockref10_Bytes.l1.σ → Option ρ) (ke : bedrockref10_Bytes.l1.τ → Option ρ) : Option ρ :=
  bif (decide (x.2.2.2.1 < x.2.2.1)) then (bif (decide (((0 : Int) ≤ x.2.2.2.1) ∧ (x.2.2.2.1 < (((List.length x.2.1) : Nat) : Int)))) then (let v29 : Int := (List.getD x.2.1 (Int.toNat x.2.2.2.1) ((0 : Int), (ByteArray.empty, ()))).1
  (bedrockref10_lay k v29 (8 : Int)).bind fun t30 => let v31 : ByteArray := (List.getD x.2.1 (Int.toNat x.2.2.2.1) ((0 : Int), (ByteArray.empty, ()))).2.1
  (bedrockref10_Count k (IntKind.wrap IntKind.u64 (((ByteArray.size v31) : Nat) : Int))).bind fun t32 => bif (Nat.ble ((ByteArray.size t30.1) + (ByteArray.size t32.1)) 9223372036854775807) then (let v33 : ByteArray := (t30.1 ++ t32.1)
  let v34 : ByteArray := (List.getD x.2.1 (Int.toNat x.2.2.2.1) ((0 : Int), (ByteArray.empty, ()))).2.1
  bif (Nat.ble ((ByteArray.size v33) + (ByteArray.size v34)) 9223372036854775807) then (let v35 : ByteArray := (v33 ++ v34)
  bif (Nat.ble ((ByteArray.size x.1) + (ByteArray.size v35)) 9223372036854775807) then (let v36 : ByteArray := (x.1 ++ v35)
  let v37 : Int := (IntKind.wrap IntKind.i64 (x.2.2.2.1 + (1 : Int)))
  kn (v36, (x.2.1, (x.2.2.1, (v37, ((x.2.2.2.2.1.1, (x.2.2.2.2.1.2.1, (x.2.2.2.2.1.2.2.1, (x.2.2.2.2.1.2.2.2.1, ())))), ())))))) else (none)) else (none)) else (none)) else (none)) else (ke (x.1, ((x.2.2.2.2.1.1, (x.2.2.2.2.1.2.1, (x.2.2.2.2.1.2.2.1, (x.2.2.2.2.1.2.2.2.1, ())))), ())))
def bedrockref10_Bytes.l1 (k : Nat) : Nat → bedrockref10_Bytes.l1.σ → Option bedrockref10_Bytes.l1.τ := loopJ (bedrockref10_Bytes.l1.r k)
def bedrockref10_Bytes.l1.T : StT := ⟨us 1 ++ .ptr 0 [] :: us 1 ++ .dat .str :: us 54 ++ .dat (.sl (.pair (.int .u64) (.pair .str .unit))) :: .dat (.int .i64) :: .dat (.int .i64) :: us 24, [.dat (.pair (.int .u32) (.pair (.sl (.pair (.arr 32 (.int .u8)) (.pair (.int .u32) (.pair .str (.pair (.int .u32) .unit))))) (.pair (.sl (.pair (.int .u64) (.pair .str .unit))) (.pair (.int .u32) .unit))))]⟩
def bedrockref10_Bytes.l1.os : List Out := [⟨(.exit 2), [.mask [1, 3], .auto 0], ⟨us 1 ++ .ptr 0 [] :: us 1 ++ .dat .str :: us 81, [.dat (.pair (.int .u32) (.pair (.sl (.pair (.arr 32 (.int .u8)) (.pair (.int .u32) (.pair .str (.pair (.int .u32) .unit))))) (.pair (.sl (.pair (.int .u64) (.pair .str .unit))) (.pair (.int .u32) .unit))))]⟩⟩]
def bedrockref10_Bytes.c (k : Nat) {ρ : Type} (t : (Int × ((List ((List Int) × (Int × (ByteArray × (Int × Unit))))) × ((List (Int × (ByteArray × Unit))) × (Int × Unit))))) (K : ByteArray × Unit → Option ρ) : Option ρ :=
  let v0 : Int := t.1
  (bedrockref10_lay k (IntKind.wrap IntKind.u64 v0) (4 : Int)).bind fun t1 => let v2 : (List ((List Int) × (Int × (ByteArray × (Int × Unit))))) := t.2.1
  let v3 : Int := (((List.length v2) : Nat) : Int)
  (bedrockref10_Count k (IntKind.wrap IntKind.u64 v3)).bind fun t4 => bif (Nat.ble ((ByteArray.size t1.1) + (ByteArray.size t4.1)) 9223372036854775807) then (let v5 : ByteArray := (t1.1 ++ t4.1)
  let v6 : (List ((List Int) × (Int × (ByteArray × (Int × Unit))))) := t.2.1
  let v7 : Int := (((List.length v6) : Nat) : Int)
  (bedrockref10_Bytes.l0 k k (v5, (v6, (v7, ((0 : Int), ((t.1, (t.2.1, (t.2.2.1, (t.2.2.2.1, ())))), ())))))).bind fun t22 => let v23 : (List (Int × (ByteArray × Unit))) := t22.2.1.2.2.1
  let v24 : Int := (((List.length v23) : Nat) : Int)
  (bedrockref10_Count k (IntKind.wrap IntKind.u64 v24)).bind fun t25 => bif (Nat.ble ((ByteArray.size t22.1) + (ByteArray.size t25.1)) 9223372036854775807) then (let v26 : ByteArray := (t22.1 ++ t25.1)
  let v27 : (List (Int × (ByteArray × Unit))) := t22.2.1.2.2.1
  let v28 : Int := (((List.length v27) : Nat) : Int)
  (bedrockref10_Bytes.l1 k k (v26, (v27, (v28, ((0 : Int), ((t22.2.1.1, (t22.2.1.2.1, (t22.2.1.2.2.1, (t22.2.1.2.2.2.1, ())))), ())))))).bind fun t38 => let v39 : Int := t38.2.1.2.2.2.1
  (bedrockref10_lay k (IntKind.wrap IntKind.u64 v39) (4 : Int)).bind fun t40 => bif (Nat.ble ((ByteArray.size t38.1) + (ByteArray.size t40.1)) 9223372036854775807) then (let v41 : ByteArray := (t38.1 ++ t40.1)
  K (v41, ())) else (none)) else (none)) else (none)
def bedrockref10_Bytes (k : Nat) (t : (Int × ((List ((List Int) × (Int × (ByteArray × (Int × Unit))))) × ((List (Int × (ByteArray × Unit))) × (Int × Unit))))) : Option (ByteArray × Unit) := bedrockref10_Bytes.c k t some
def bedrockref10_Bytes.tin : List Ty := [(.pair (.int .u32) (.pair (.sl (.pair (.arr 32 (.int .u8)) (.pair (.int .u32) (.pair .str (.pair (.int .u32) .unit))))) (.pair (.sl (.pair (.int .u64) (.pair .str .unit))) (.pair (.int .u32) .unit))))]
def bedrockref10_Bytes.tout : List Ty := [.str]
def bedrockref10_Bytes.sem (k : Nat) : CallSem := callPure bedrockref10_Bytes.tin bedrockref10_Bytes.tout fun x => bedrockref10_Bytes k x.1
noncomputable def bedrockref10_Bytes.ctx (k : Nat) : Ctx := ⟨Try.prog, gam [(92, (bedrockref10_lay.sem k)), (93, (bedrockref10_Count.sem k))]⟩
theorem bedrockref10_Bytes.gok (k : Nat) : ∀ f, SemOK Try.prog f ((bedrockref10_Bytes.ctx k).Γ f) := (gam_cons (bedrockref10_lay.sem_ok k) (gam_cons (bedrockref10_Count.sem_ok k) gam_nil))
theorem bedrockref10_Bytes.l0.round (k : Nat) : RoundIs (bedrockref10_Bytes.ctx k) (codeAt (Func.code Try.f46) [1, 1, 0, 1, 0, 0]) (.nil) bedrockref10_Bytes.l0.T [.mask [1, 3, 19, 20, 21], .auto 0] bedrockref10_Bytes.l0.os (bedrockref10_Bytes.l0.r k) := by
  intro ρ x kn ke; kernel_rfl
theorem bedrockref10_Bytes.l0.ok (k : Nat) : StOK 0 Try.prog (.loop (codeAt (Func.code Try.f46) [1, 1, 0, 1, 0, 0])) (pieceSem bedrockref10_Bytes.l0.T bedrockref10_Bytes.l0.os (bedrockref10_Bytes.l0 k k)) :=
  loop_ok (C := bedrockref10_Bytes.ctx k) (bedrockref10_Bytes.gok k) Try.mix AnnOK.nil (by kernel_rfl) (by kernel_rfl) (by kernel_rfl) (bedrockref10_Bytes.l0.round k) k
theorem bedrockref10_Bytes.l1.round (k : Nat) : RoundIs (bedrockref10_Bytes.ctx k) (codeAt (Func.code Try.f46) [1, 1, 1, 1, 0, 1, 0, 0]) (.nil) bedrockref10_Bytes.l1.T [.mask [1, 3, 58, 59, 60], .auto 0] bedrockref10_Bytes.l1.os (bedrockref10_Bytes.l1.r k) := by
  intro ρ x kn ke; kernel_rfl
theorem bedrockref10_Bytes.l1.ok (k : Nat) : StOK 0 Try.prog (.loop (codeAt (Func.code Try.f46) [1, 1, 1, 1, 0, 1, 0, 0])) (pieceSem bedrockref10_Bytes.l1.T bedrockref10_Bytes.l1.os (bedrockref10_Bytes.l1 k k)) :=
  loop_ok (C := bedrockref10_Bytes.ctx k) (bedrockref10_Bytes.gok k) Try.mix AnnOK.nil (by kernel_rfl) (by kernel_rfl) (by kernel_rfl) (bedrockref10_Bytes.l1.round k) k
def bedrockref10_Bytes.ann (k : Nat) : Ann := .node [] none (.nil) (.node [] none (.nil) (.node [] none (.node [] none (.nil) (.node [] none (.node [.mask [1, 3, 19, 20, 21], .auto 0] (some (pieceSem bedrockref10_Bytes.l0.T bedrockref10_Bytes.l0.os (bedrockref10_Bytes.l0 k k))) .nil .nil) (.nil))) (.node [] none (.nil) (.node [] none (.node [] none (.nil) (.node [] none (.node [.mask [1, 3, 58, 59, 60], .auto 0] (some (pieceSem bedrockref10_Bytes.l1.T bedrockref10_Bytes.l1.os (bedrockref10_Bytes.l1 k k))) .nil .nil) (.nil))) (.nil)))))
theorem bedrockref10_Bytes.body (k : Nat) : BodyIs (bedrockref10_Bytes.ctx k) Try.f46 (Func.code Try.f46) (bedrockref10_Bytes.ann k) bedrockref10_Bytes.tin bedrockref10_Bytes.tout (fun x K => bedrockref10_Bytes.c k x.1 K) := by
  intro ρ x K; kernel_rfl
theorem bedrockref10_Bytes.sem_ok (k : Nat) : SemOK Try.prog 46 (bedrockref10_Bytes.sem k) :=
  callPure_ok (C := bedrockref10_Bytes.ctx k) (bedrockref10_Bytes.gok k) Try.mix (c := Func.code Try.f46) (ann := bedrockref10_Bytes.ann k) (tin := bedrockref10_Bytes.tin) (tout := bedrockref10_Bytes.tout) (fun x K => bedrockref10_Bytes.c k x.1 K) Try.func46 (by kernel_rfl) (by kernel_rfl) (AnnOK.seq AnnOK.nil (AnnOK.seq AnnOK.nil (AnnOK.seq (AnnOK.seq AnnOK.nil (AnnOK.block (AnnOK.loop (by kernel_rfl) (bedrockref10_Bytes.l0.ok k)))) (AnnOK.seq AnnOK.nil (AnnOK.seq (AnnOK.seq AnnOK.nil (AnnOK.block (AnnOK.loop (by kernel_rfl) (bedrockref10_Bytes.l1.ok k)))) AnnOK.nil))))) (bedrockref10_Bytes.body k)

/-! 47 bedrock/bedrockref10.Told -/
abbrev bedrockref10_Told.l0.σ : Type := (List ((List Int) × (Int × (ByteArray × (Int × Unit))))) × Int × Int × (Int × ((List ((List Int) × (Int × (ByteArray × (Int × Unit))))) × ((List (Int × (ByteArray × Unit))) × (Int × Unit)))) × Unit
abbrev bedrockref10_Told.l0.τ : Type := (Int × Unit) ⊕ ((Int × ((List ((List Int) × (Int × (ByteArray × (Int × Unit))))) × ((List (Int × (ByteArray × Unit))) × (Int × Unit)))) × Unit)
def bedrockref10_Told.l0.r (k : Nat) {ρ : Type} (x : bedrockref10_Told.l0.σ) (kn : bedrockref10_Told.l0.σ → Option ρ) (ke : bedrockref10_Told.l0.τ → Option ρ) : Option ρ :=
  bif (decide (x.2.2.1 < x.2.1)) then (bif (decide (((0 : Int) ≤ x.2.2.1) ∧ (x.2.2.1 < (((List.length x.1) : Nat) : Int)))) then (let v2 : ByteArray := (List.getD x.1 (Int.toNat x.2.2.1) ((List.replicate 32 (0 : Int)), ((0 : Int), (ByteArray.empty, ((0 : Int), ()))))).2.2.1
  bif (decide ((((ByteArray.size v2) : Nat) : Int) > (520 : Int))) then (ke (.inl ((100 : Int), ()))) else (let v3 : Int := (IntKind.wrap IntKind.i64 (x.2.2.1 + (1 : Int)))
  kn (x.1, (x.2.1, (v3, ((x.2.2.2.1.1, (x.2.2.2.1.2.1, (x.2.2.2.1.2.2.1, (x.2.2.2.1.2.2.2.1, ())))), ())))))) else (none)) else (ke (.inr ((x.2.2.2.1.1, (x.2.2.2.1.2.1, (x.2.2.2.1.2.2.1, (x.2.2.2.1.2.2.2.1, ())))), ())))
def bedrockref10_Told.l0 (k : Nat) : Nat → bedrockref10_Told.l0.σ → Option bedrockref10_Told.l0.τ := loopJ (bedrockref10_Told.l0.r k)
def bedrockref10_Told.l0.T : StT := ⟨us 1 ++ .ptr 0 [] :: us 6 ++ .dat (.sl (.pair (.arr 32 (.int .u8)) (.pair (.int .u32) (.pair .str (.pair (.int .u32) .unit))))) :: .dat (.int .i64) :: .dat (.int .i64) :: us 24, [.dat (.pair (.int .u32) (.pair (.sl (.pair (.arr 32 (.int .u8)) (.pair (.int .u32) (.pair .str (.pair (.int .u32) .unit))))) (.pair (.sl (.pair (.int .u64) (.pair .str .unit))) (.pair (.int .u32) .unit))))]⟩
def bedrockref10_Told.l0.os : List Out := [⟨.ret, [.mask [2], .auto 0], ⟨us 2 ++ .dat (.int .i64) :: us 32, []⟩⟩, ⟨(.exit 0), [.mask [1], .auto 0], ⟨us 1 ++ .ptr 0 [] :: us 33, [.dat (.pair (.int .u32) (.pair (.sl (.pair (.arr 32 (.int .u8)) (.pair (.int .u32) (.pair .str (.pair (.int .u32) .unit))))) (.pair (.sl (.pair (.int .u64) (.pair .str .unit))) (.pair (.int .u32) .unit))))]⟩⟩]
abbrev bedrockref10_Told.l1.σ : Type := (List (Int × (ByteArray × Unit))) × Int × Int × (Int × ((List ((List Int) × (Int × (ByteArray × (Int × Unit))))) × ((List (Int × (ByteArray × Unit))) × (Int × Unit)))) × Unit
abbrev bedrockref10_Told.l1.τ : Type := (Int × Unit) ⊕ ((Int × ((List ((List Int) × (Int × (ByteArray × (Int × Unit))))) × ((List (Int × (ByteArray × Unit))) × (Int × Unit)))) × Unit)
def bedrockref10_Told.l1.r (k : Nat) {ρ : Type} (x : bedrockref10_Told.l1.σ) (kn : bedrockref10_Told.l1.σ → Option ρ) (ke : bedrockref10_Told.l1.τ → Option ρ) : Option ρ :=
  bif (decide (x.2.2.1 < x.2.1)) then (bif (decide (((0 : Int) ≤ x.2.2.1) ∧ (x.2.2.1 < (((List.length x.1) : Nat) : Int)))) then (let v9 : ByteArray := (List.getD x.1 (Int.toNat x.2.2.1) ((0 : Int), (ByteArray.empty, ()))).2.1
  bif (decide ((((ByteArray.size v9) : Nat) : Int) > (520 : Int))) then (ke (.inl ((100 : Int), ()))) else (let v10 : Int := (IntKind.wrap IntKind.i64 (x.2.2.1 + (1 : Int)))
  kn (x.1, (x.2.1, (v10, ((x.2.2.2.1.1, (x.2.2.2.1.2.1, (x.2.2.2.1.2.2.1, (x.2.2.2.1.2.2.2.1, ())))), ())))))) else (none)) else (ke (.inr ((x.2.2.2.1.1, (x.2.2.2.1.2.1, (x.2.2.2.1.2.2.1, (x.2.2.2.1.2.2.2.1, ())))), ())))
def bedrockref10_Told.l1 (k : Nat) : Nat → bedrockref10_Told.l1.σ → Option bedrockref10_Told.l1.τ := loopJ (bedrockref10_Told.l1.r k)
def bedrockref10_Told.l1.T : StT := ⟨us 1 ++ .ptr 0 [] :: us 18 ++ .dat (.sl (.pair (.int .u64) (.pair .str .unit))) :: .dat (.int .i64) :: .dat (.int .i64) :: us 12, [.dat (.pair (.int .u32) (.pair (.sl (.pair (.arr 32 (.int .u8)) (.pair (.int .u32) (.pair .str (.pair (.int .u32) .unit))))) (.pair (.sl (.pair (.int .u64) (.pair .str .unit))) (.pair (.int .u32) .unit))))]⟩
def bedrockref10_Told.l1.os : List Out := [⟨.ret, [.mask [2], .auto 0], ⟨us 2 ++ .dat (.int .i64) :: us 32, []⟩⟩, ⟨(.exit 2), [.mask [1], .auto 0], ⟨us 1 ++ .ptr 0 [] :: us 33, [.dat (.pair (.int .u32) (.pair (.sl (.pair (.arr 32 (.int .u8)) (.pair (.int .u32) (.pair .str (.pair (.int .u32) .unit))))) (.pair (.sl (.pair (.int .u64) (.pair .str .unit))) (.pair (.int .u32) .unit))))]⟩⟩]
def bedrockref10_Told.c (k : Nat) {ρ : Type} (t : (Int × ((List ((List Int) × (Int × (ByteArray × (Int × Unit))))) × ((List (Int × (ByteArray × Unit))) × (Int × Unit))))) (K : Int × Unit → Option ρ) : Option ρ :=
  let v0 : (List ((List Int) × (Int × (ByteArray × (Int × Unit))))) := t.2.1
  let v1 : Int := (((List.length v0) : Nat) : Int)
  (bedrockref10_Told.l0 k k (v0, (v1, ((0 : Int), ((t.1, (t.2.1, (t.2.2.1, (t.2.2.2.1, ())))), ()))))).bind fun t4 => (match t4 with | .inl t5 => (K (t5.1, ())) | .inr (t6) => (let v7 : (List (Int × (ByteArray × Unit))) := t6.1.2.2.1
  let v8 : Int := (((List.length v7) : Nat) : Int)
  (bedrockref10_Told.l1 k k (v7, (v8, ((0 : Int), ((t6.1.1, (t6.1.2.1, (t6.1.2.2.1, (t6.1.2.2.2.1, ())))), ()))))).bind fun t11 => (match t11 with | .inl t12 => (K (t12.1, ())) | .inr (t13) => ((bedrockref10_Bytes k (t13.1.1, (t13.1.2.1, (t13.1.2.2.1, (t13.1.2.2.2.1, ()))))).bind fun t14 => let v15 : Int := (((ByteArray.size t14.1) : Nat) : Int)
  bif (decide (v15 > (4096 : Int))) then (K ((101 : Int), ())) else (K ((0 : Int), ()))))))
def bedrockref10_Told (k : Nat) (t : (Int × ((List ((List Int) × (Int × (ByteArray × (Int × Unit))))) × ((List (Int × (ByteArray × Unit))) × (Int × Unit))))) : Option (Int × Unit) := bedrockref10_Told.c k t some
def bedrockref10_Told.tin : List Ty := [(.pair (.int .u32) (.pair (.sl (.pair (.arr 32 (.int .u8)) (.pair (.int .u32) (.pair .str (.pair (.int .u32) .unit))))) (.pair (.sl (.pair (.int .u64) (.pair .str .unit))) (.pair (.int .u32) .unit))))]
def bedrockref10_Told.tout : List Ty := [(.int .i64)]
def bedrockref10_Told.sem (k : Nat) : CallSem := callPure bedrockref10_Told.tin bedrockref10_Told.tout fun x => bedrockref10_Told k x.1
noncomputable def bedrockref10_Told.ctx (k : Nat) : Ctx := ⟨Try.prog, gam [(46, (bedrockref10_Bytes.sem k))]⟩
theorem bedrockref10_Told.gok (k : Nat) : ∀ f, SemOK Try.prog f ((bedrockref10_Told.ctx k).Γ f) := (gam_cons (bedrockref10_Bytes.sem_ok k) gam_nil)
theorem bedrockref10_Told.l0.round (k : Nat) : RoundIs (bedrockref10_Told.ctx k) (codeAt (Func.code Try.f47) [1, 0, 1, 0, 0]) (.nil) bedrockref10_Told.l0.T [.mask [1, 8, 9, 10], .auto 0] bedrockref10_Told.l0.os (bedrockref10_Told.l0.r k) := by
  intro ρ x kn ke; kernel_rfl
theorem bedrockref10_Told.l0.ok (k : Nat) : StOK 0 Try.prog (.loop (codeAt (Func.code Try.f47) [1, 0, 1, 0, 0])) (pieceSem bedrockref10_Told.l0.T bedrockref10_Told.l0.os (bedrockref10_Told.l0 k k)) :=
  loop_ok (C := bedrockref10_Told.ctx k) (bedrockref10_Told.gok k) Try.mix AnnOK.nil (by kernel_rfl) (by kernel_rfl) (by kernel_rfl) (bedrockref10_Told.l0.round k) k
theorem bedrockref10_Told.l1.round (k : Nat) : RoundIs (bedrockref10_Told.ctx k) (codeAt (Func.code Try.f47) [1, 1, 0, 1, 0, 0]) (.nil) bedrockref10_Told.l1.T [.mask [1, 20, 21, 22], .auto 0] bedrockref10_Told.l1.os (bedrockref10_Told.l1.r k) := by
  intro ρ x kn ke; kernel_rfl
theorem bedrockref10_Told.l1.ok (k : Nat) : StOK 0 Try.prog (.loop (codeAt (Func.code Try.f47) [1, 1, 0, 1, 0, 0])) (pieceSem bedrockref10_Told.l1.T bedrockref10_Told.l1.os (bedrockref10_Told.l1 k k)) :=
  loop_ok (C := bedrockref10_Told.ctx k) (bedrockref10_Told.gok k) Try.mix AnnOK.nil (by kernel_rfl) (by kernel_rfl) (by kernel_rfl) (bedrockref10_Told.l1.round k) k
def bedrockref10_Told.ann (k : Nat) : Ann := .node [] none (.nil) (.node [] none (.node [] none (.nil) (.node [] none (.node [.mask [1, 8, 9, 10], .auto 0] (some (pieceSem bedrockref10_Told.l0.T bedrockref10_Told.l0.os (bedrockref10_Told.l0 k k))) .nil .nil) (.nil))) (.node [] none (.node [] none (.nil) (.node [] none (.node [.mask [1, 20, 21, 22], .auto 0] (some (pieceSem bedrockref10_Told.l1.T bedrockref10_Told.l1.os (bedrockref10_Told.l1 k k))) .nil .nil) (.nil))) (.nil)))
theorem bedrockref10_Told.body (k : Nat) : BodyIs (bedrockref10_Told.ctx k) Try.f47 (Func.code Try.f47) (bedrockref10_Told.ann k) bedrockref10_Told.tin bedrockref10_Told.tout (fun x K => bedrockref10_Told.c k x.1 K) := by
  intro ρ x K; kernel_rfl
theorem bedrockref10_Told.sem_ok (k : Nat) : SemOK Try.prog 47 (bedrockref10_Told.sem k) :=
  callPure_ok (C := bedrockref10_Told.ctx k) (bedrockref10_Told.gok k) Try.mix (c := Func.code Try.f47) (ann := bedrockref10_Told.ann k) (tin := bedrockref10_Told.tin) (tout := bedrockref10_Told.tout) (fun x K => bedrockref10_Told.c k x.1 K) Try.func47 (by kernel_rfl) (by kernel_rfl) (AnnOK.seq AnnOK.nil (AnnOK.seq (AnnOK.seq AnnOK.nil (AnnOK.block (AnnOK.loop (by kernel_rfl) (bedrockref10_Told.l0.ok k)))) (AnnOK.seq (AnnOK.seq AnnOK.nil (AnnOK.block (AnnOK.loop (by kernel_rfl) (bedrockref10_Told.l1.ok k)))) AnnOK.nil))) (bedrockref10_Told.body k)

/-! 54 bedrock/bedrockref02.Twice -/
def bedrockref02_Twice.c (k : Nat) {ρ : Type} (s : ByteArray) (K : (List Int) × Unit → Option ρ) : Option ρ :=
  (bedrockref02_Sum k s).bind fun t0 => let v1 : ByteArray := (bytesOf (List.take 32 (List.drop 0 t0.1)))
  (bedrockref02_Sum k v1).bind fun t2 => K (t2.1, ())
def bedrockref02_Twice (k : Nat) (s : ByteArray) : Option ((List Int) × Unit) := bedrockref02_Twice.c k s some
def bedrockref02_Twice.tin : List Ty := [.str]
def bedrockref02_Twice.tout : List Ty := [(.arr 32 (.int .u8))]
def bedrockref02_Twice.sem (k : Nat) : CallSem := callPure bedrockref02_Twice.tin bedrockref02_Twice.tout fun x => bedrockref02_Twice k x.1
noncomputable def bedrockref02_Twice.ctx (k : Nat) : Ctx := ⟨Try.prog, gam [(94, (bedrockref02_Sum.sem k))]⟩
theorem bedrockref02_Twice.gok (k : Nat) : ∀ f, SemOK Try.prog f ((bedrockref02_Twice.ctx k).Γ f) := (gam_cons (bedrockref02_Sum.sem_ok k) gam_nil)
def bedrockref02_Twice.ann (k : Nat) : Ann := .nil
theorem bedrockref02_Twice.body (k : Nat) : BodyIs (bedrockref02_Twice.ctx k) Try.f54 (Func.code Try.f54) (bedrockref02_Twice.ann k) bedrockref02_Twice.tin bedrockref02_Twice.tout (fun x K => bedrockref02_Twice.c k x.1 K) := by
  intro ρ x K; kernel_rfl
theorem bedrockref02_Twice.sem_ok (k : Nat) : SemOK Try.prog 54 (bedrockref02_Twice.sem k) :=
  callPure_ok (C := bedrockref02_Twice.ctx k) (bedrockref02_Twice.gok k) Try.mix (c := Func.code Try.f54) (ann := bedrockref02_Twice.ann k) (tin := bedrockref02_Twice.tin) (tout := bedrockref02_Twice.tout) (fun x K => bedrockref02_Twice.c k x.1 K) Try.func54 (by kernel_rfl) (by kernel_rfl) AnnOK.nil (bedrockref02_Twice.body k)

/-! 48 bedrock/bedrockref10.ID -/
def bedrockref10_ID.c (k : Nat) {ρ : Type} (t : (Int × ((List ((List Int) × (Int × (ByteArray × (Int × Unit))))) × ((List (Int × (ByteArray × Unit))) × (Int × Unit))))) (K : (List Int) × Bool × Unit → Option ρ) : Option ρ :=
  (bedrockref10_Told k (t.1, (t.2.1, (t.2.2.1, (t.2.2.2.1, ()))))).bind fun t0 => bif (t0.1 != (0 : Int)) then (let v1 : (List Int) := (List.replicate 32 (0 : Int))
  K (v1, (false, ()))) else ((bedrockref10_Bytes k (t.1, (t.2.1, (t.2.2.1, (t.2.2.2.1, ()))))).bind fun t2 => (bedrockref02_Twice k t2.1).bind fun t3 => K (t3.1, (true, ())))
def bedrockref10_ID (k : Nat) (t : (Int × ((List ((List Int) × (Int × (ByteArray × (Int × Unit))))) × ((List (Int × (ByteArray × Unit))) × (Int × Unit))))) : Option ((List Int) × Bool × Unit) := bedrockref10_ID.c k t some
def bedrockref10_ID.tin : List Ty := [(.pair (.int .u32) (.pair (.sl (.pair (.arr 32 (.int .u8)) (.pair (.int .u32) (.pair .str (.pair (.int .u32) .unit))))) (.pair (.sl (.pair (.int .u64) (.pair .str .unit))) (.pair (.int .u32) .unit))))]
def bedrockref10_ID.tout : List Ty := [(.arr 32 (.int .u8)), .bool]
def bedrockref10_ID.sem (k : Nat) : CallSem := callPure bedrockref10_ID.tin bedrockref10_ID.tout fun x => bedrockref10_ID k x.1
noncomputable def bedrockref10_ID.ctx (k : Nat) : Ctx := ⟨Try.prog, gam [(47, (bedrockref10_Told.sem k)), (46, (bedrockref10_Bytes.sem k)), (54, (bedrockref02_Twice.sem k))]⟩
theorem bedrockref10_ID.gok (k : Nat) : ∀ f, SemOK Try.prog f ((bedrockref10_ID.ctx k).Γ f) := (gam_cons (bedrockref10_Told.sem_ok k) (gam_cons (bedrockref10_Bytes.sem_ok k) (gam_cons (bedrockref02_Twice.sem_ok k) gam_nil)))
def bedrockref10_ID.ann (k : Nat) : Ann := .nil
theorem bedrockref10_ID.body (k : Nat) : BodyIs (bedrockref10_ID.ctx k) Try.f48 (Func.code Try.f48) (bedrockref10_ID.ann k) bedrockref10_ID.tin bedrockref10_ID.tout (fun x K => bedrockref10_ID.c k x.1 K) := by
  intro ρ x K; kernel_rfl
theorem bedrockref10_ID.sem_ok (k : Nat) : SemOK Try.prog 48 (bedrockref10_ID.sem k) :=
  callPure_ok (C := bedrockref10_ID.ctx k) (bedrockref10_ID.gok k) Try.mix (c := Func.code Try.f48) (ann := bedrockref10_ID.ann k) (tin := bedrockref10_ID.tin) (tout := bedrockref10_ID.tout) (fun x K => bedrockref10_ID.c k x.1 K) Try.func48 (by kernel_rfl) (by kernel_rfl) AnnOK.nil (bedrockref10_ID.body k)

/-! 10 bedrock/bedrocklaw10.TxTells -/
abbrev bedrocklaw10_TxTells.p0.σ : Type := ByteArray × Int × Int × (Int × ((List (((List Int) × (Int × Unit)) × (ByteArray × (Int × Unit)))) × ((List (Int × (ByteArray × Unit))) × (Int × Unit)))) × (List Int) × (Int × ((List ((List Int) × (Int × (ByteArray × (Int × Unit))))) × ((List (Int × (ByteArray × Unit))) × (Int × Unit)))) × Unit
abbrev bedrocklaw10_TxTells.p0.τ : Type := (Bool × Unit) ⊕ (ByteArray × Int × (List Int) × (Int × ((List ((List Int) × (Int × (ByteArray × (Int × Unit))))) × ((List (Int × (ByteArray × Unit))) × (Int × Unit)))) × Unit)
def bedrocklaw10_TxTells.p0.r (k : Nat) {ρ : Type} (x : bedrocklaw10_TxTells.p0.σ) (K : bedrocklaw10_TxTells.p0.τ → Option ρ) : Option ρ :=
  (bedrocklaw10_awake k ).bind fun t7 => bif (!t7.1) then (K (.inl (false, ()))) else ((tx_Size k (x.2.2.2.1.1, (x.2.2.2.1.2.1, (x.2.2.2.1.2.2.1, (x.2.2.2.1.2.2.2.1, ()))))).bind fun t8 => (bedrockref10_Bytes k (x.2.2.2.2.2.1.1, (x.2.2.2.2.2.1.2.1, (x.2.2.2.2.2.1.2.2.1, (x.2.2.2.2.2.1.2.2.2.1, ()))))).bind fun t9 => let v10 : Int := (((ByteArray.size t9.1) : Nat) : Int)
  bif (t8.1 != v10) then (K (.inl (false, ()))) else ((bedrockref10_Told k (x.2.2.2.2.2.1.1, (x.2.2.2.2.2.1.2.1, (x.2.2.2.2.2.1.2.2.1, (x.2.2.2.2.2.1.2.2.2.1, ()))))).bind fun t11 => bif (x.2.1 != t11.1) then (K (.inl (false, ()))) else (bif (x.2.2.1 != x.2.1) then (K (.inl (false, ()))) else (K (.inr (x.1, (x.2.1, (x.2.2.2.2.1, ((x.2.2.2.2.2.1.1, (x.2.2.2.2.2.1.2.1, (x.2.2.2.2.2.1.2.2.1, (x.2.2.2.2.2.1.2.2.2.1, ())))), ())))))))))
def bedrocklaw10_TxTells.p0 (k : Nat) (x : bedrocklaw10_TxTells.p0.σ) : Option bedrocklaw10_TxTells.p0.τ := bedrocklaw10_TxTells.p0.r k x some
def bedrocklaw10_TxTells.p0.T : StT := ⟨us 1 ++ .ptr 0 [] :: us 1 ++ .dat .str :: .dat (.int .i64) :: .ptr 1 [] :: .dat (.int .i64) :: .ptr 2 [] :: us 61, [.dat (.pair (.int .u32) (.pair (.sl (.pair (.pair (.arr 32 (.int .u8)) (.pair (.int .u32) .unit)) (.pair .str (.pair (.int .u32) .unit)))) (.pair (.sl (.pair (.int .u64) (.pair .str .unit))) (.pair (.int .u32) .unit)))), .dat (.arr 32 (.int .u8)), .dat (.pair (.int .u32) (.pair (.sl (.pair (.arr 32 (.int .u8)) (.pair (.int .u32) (.pair .str (.pair (.int .u32) .unit))))) (.pair (.sl (.pair (.int .u64) (.pair .str .unit))) (.pair (.int .u32) .unit))))]⟩
def bedrocklaw10_TxTells.p0.os : List Out := [⟨.ret, [.mask [2], .auto 0], ⟨us 2 ++ .dat .bool :: us 66, []⟩⟩, ⟨.normal, [.mask [3, 4, 5, 7], .auto 0], ⟨us 3 ++ .dat .str :: .dat (.int .i64) :: .ptr 0 [] :: us 1 ++ .ptr 1 [] :: us 61, [.dat (.arr 32 (.int .u8)), .dat (.pair (.int .u32) (.pair (.sl (.pair (.arr 32 (.int .u8)) (.pair (.int .u32) (.pair .str (.pair (.int .u32) .unit))))) (.pair (.sl (.pair (.int .u64) (.pair .str .unit))) (.pair (.int .u32) .unit))))]⟩⟩]
def bedrocklaw10_TxTells.c (k : Nat) {ρ : Type} (t : (Int × ((List (((List Int) × (Int × Unit)) × (ByteArray × (Int × Unit)))) × ((List (Int × (ByteArray × Unit))) × (Int × Unit))))) (K : Bool × Unit → Option ρ) : Option ρ :=
  (tx_Encode k (t.1, (t.2.1, (t.2.2.1, (t.2.2.2.1, ()))))).bind fun t0 => let v1 : ByteArray := t0.1
  let v2 : Int := t0.2.1
  (tx_ID k (t.1, (t.2.1, (t.2.2.1, (t.2.2.2.1, ()))))).bind fun t3 => let v4 : (List Int) := t3.1
  let v5 : Int := t3.2.1
  (bedrocklaw10_given k (t.1, (t.2.1, (t.2.2.1, (t.2.2.2.1, ()))))).bind fun t6 => (bedrocklaw10_TxTells.p0 k (v1, (v2, (v5, ((t.1, (t.2.1, (t.2.2.1, (t.2.2.2.1, ())))), (v4, ((t6.1.1, (t6.1.2.1, (t6.1.2.2.1, (t6.1.2.2.2.1, ())))), ()))))))).bind fun t12 => (match t12 with | .inl t13 => (K (t13.1, ())) | .inr (t14) => (bif (t14.2.1 != (0 : Int)) then (bif (strEq t14.1 (⟨(List.toArray [])⟩ : ByteArray)) then (let v15 : (List Int) := t14.2.2.1
  let v16 : (List Int) := (List.replicate 32 (0 : Int))
  K ((decide (v15 = v16)), ())) else (K (false, ()))) else ((bedrockref10_ID k (t14.2.2.2.1.1, (t14.2.2.2.1.2.1, (t14.2.2.2.1.2.2.1, (t14.2.2.2.1.2.2.2.1, ()))))).bind fun t17 => let v18 : (List Int) := t17.1
  (bedrockref10_Bytes k (t14.2.2.2.1.1, (t14.2.2.2.1.2.1, (t14.2.2.2.1.2.2.1, (t14.2.2.2.1.2.2.2.1, ()))))).bind fun t19 => bif (strEq t14.1 t19.1) then (bif t17.2.1 then (let v20 : (List Int) := t14.2.2.1
  K ((decide (v20 = v18)), ())) else (K (false, ()))) else (K (false, ())))))
def bedrocklaw10_TxTells (k : Nat) (t : (Int × ((List (((List Int) × (Int × Unit)) × (ByteArray × (Int × Unit)))) × ((List (Int × (ByteArray × Unit))) × (Int × Unit))))) : Option (Bool × Unit) := bedrocklaw10_TxTells.c k t some
def bedrocklaw10_TxTells.tin : List Ty := [(.pair (.int .u32) (.pair (.sl (.pair (.pair (.arr 32 (.int .u8)) (.pair (.int .u32) .unit)) (.pair .str (.pair (.int .u32) .unit)))) (.pair (.sl (.pair (.int .u64) (.pair .str .unit))) (.pair (.int .u32) .unit))))]
def bedrocklaw10_TxTells.tout : List Ty := [.bool]
def bedrocklaw10_TxTells.sem (k : Nat) : CallSem := callPure bedrocklaw10_TxTells.tin bedrocklaw10_TxTells.tout fun x => bedrocklaw10_TxTells k x.1
noncomputable def bedrocklaw10_TxTells.ctx (k : Nat) : Ctx := ⟨Try.prog, gam [(32, (tx_Encode.sem k)), (44, (tx_ID.sem k)), (23, (bedrocklaw10_given.sem k)), (21, (bedrocklaw10_awake.sem k)), (45, (tx_Size.sem k)), (46, (bedrockref10_Bytes.sem k)), (47, (bedrockref10_Told.sem k)), (48, (bedrockref10_ID.sem k))]⟩
theorem bedrocklaw10_TxTells.gok (k : Nat) : ∀ f, SemOK Try.prog f ((bedrocklaw10_TxTells.ctx k).Γ f) := (gam_cons (tx_Encode.sem_ok k) (gam_cons (tx_ID.sem_ok k) (gam_cons (bedrocklaw10_given.sem_ok k) (gam_cons (bedrocklaw10_awake.sem_ok k) (gam_cons (tx_Size.sem_ok k) (gam_cons (bedrockref10_Bytes.sem_ok k) (gam_cons (bedrockref10_Told.sem_ok k) (gam_cons (bedrockref10_ID.sem_ok k) gam_nil))))))))
theorem bedrocklaw10_TxTells.p0.is (k : Nat) : PieceIs (bedrocklaw10_TxTells.ctx k) (codeAt (Func.code Try.f10) [1, 1, 1, 1, 0]) (.nil) bedrocklaw10_TxTells.p0.T bedrocklaw10_TxTells.p0.os (bedrocklaw10_TxTells.p0.r k) := by
  intro ρ x K; kernel_rfl
theorem bedrocklaw10_TxTells.p0.ok (k : Nat) : StOK 0 Try.prog (codeAt (Func.code Try.f10) [1, 1, 1, 1, 0]) (pieceSem bedrocklaw10_TxTells.p0.T bedrocklaw10_TxTells.p0.os (bedrocklaw10_TxTells.p0 k)) :=
  piece_ok (C := bedrocklaw10_TxTells.ctx k) (T := bedrocklaw10_TxTells.p0.T) (os := bedrocklaw10_TxTells.p0.os) (bedrocklaw10_TxTells.gok k) Try.mix (fun x K => bedrocklaw10_TxTells.p0.r k x K) AnnOK.nil (by kernel_rfl) (by kernel_rfl) (bedrocklaw10_TxTells.p0.is k)
def bedrocklaw10_TxTells.ann (k : Nat) : Ann := .node [] none (.nil) (.node [] none (.nil) (.node [] none (.nil) (.node [] none (.nil) (.node [] none (.node [.mask [1, 3, 4, 5, 6, 7], .auto 0] (some (pieceSem bedrocklaw10_TxTells.p0.T bedrocklaw10_TxTells.p0.os (bedrocklaw10_TxTells.p0 k))) .nil .nil) (.nil)))))
theorem bedrocklaw10_TxTells.body (k : Nat) : BodyIs (bedrocklaw10_TxTells.ctx k) Try.f10 (Func.code Try.f10) (bedrocklaw10_TxTells.ann k) bedrocklaw10_TxTells.tin bedrocklaw10_TxTells.tout (fun x K => bedrocklaw10_TxTells.c k x.1 K) := by
  intro ρ x K; kernel_rfl
theorem bedrocklaw10_TxTells.sem_ok (k : Nat) : SemOK Try.prog 10 (bedrocklaw10_TxTells.sem k) :=
  callPure_ok (C := bedrocklaw10_TxTells.ctx k) (bedrocklaw10_TxTells.gok k) Try.mix (c := Func.code Try.f10) (ann := bedrocklaw10_TxTells.ann k) (tin := bedrocklaw10_TxTells.tin) (tout := bedrocklaw10_TxTells.tout) (fun x K => bedrocklaw10_TxTells.c k x.1 K) Try.func10 (by kernel_rfl) (by kernel_rfl) (AnnOK.seq AnnOK.nil (AnnOK.seq AnnOK.nil (AnnOK.seq AnnOK.nil (AnnOK.seq AnnOK.nil (AnnOK.seq (AnnOK.loop (by kernel_rfl) (bedrocklaw10_TxTells.p0.ok k)) AnnOK.nil))))) (bedrocklaw10_TxTells.body k)

end Go.Am
/- The sum of the sum. -/
namespace Go.Am
open Go

theorem sumL_length (a : List Int) : (sumL a).length = 32 := bytesBE_length _

theorem sumL_in (a : List Int) : allIn 0 255 (sumL a) := bytesBE_in _

theorem sum_bytes (a : List Int) : ofBytes (bytesOf ((((sumL a).drop 0).take 32))) = sumL a := by
  rw [List.drop_zero, List.take_of_length_le (by rw [sumL_length]; omega)]
  exact ofBytes_bytesOf fun x hx => by have := sumL_in a x hx; omega

theorem sum_size (a : List Int) : (bytesOf ((((sumL a).drop 0).take 32))).size = 32 := by
  rw [bytesOf_size]; simp [sumL_length]

theorem sha_Twice_eq {k : Nat} (hk : 128 < k) {s : ByteArray} (hs : s.size ≤ 140737488354000) (hf : s.size / 64 + 1 < k) : sha_Twice k s = some (sumL (sumL (ofBytes s)), ()) := by
  unfold sha_Twice sha_Twice.c
  rw [sha_Sum_eq hk hs hf]
  simp only [Option.bind_some]
  rw [sha_Sum_eq hk (by rw [sum_size]; omega) (by rw [sum_size]; omega), sum_bytes]
  rfl

theorem ref_Twice_eq {k : Nat} (hk : 128 < k) {s : ByteArray} (hs : s.size ≤ 140737488354000) (hf : s.size / 64 + 2 < k) : bedrockref02_Twice k s = some (sumL (sumL (ofBytes s)), ()) := by
  unfold bedrockref02_Twice bedrockref02_Twice.c
  rw [ref_Sum_eq hk hs hf]
  simp only [Option.bind_some]
  rw [ref_Sum_eq hk (by rw [sum_size]; omega) (by rw [sum_size]; omega), sum_bytes]
  rfl

end Go.Am
