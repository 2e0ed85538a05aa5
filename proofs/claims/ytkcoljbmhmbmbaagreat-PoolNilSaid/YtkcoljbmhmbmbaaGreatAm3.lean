/- A part of a proof: a machine of abstract values that tells what functions of the program compute, and the plain facts on them. -/
import Derived.Test.YtkcoljbmhmbmbaaGreatAm2
import Derived.MapKept
import Derived.Laws.Small
import Derived.Test.YtkcoljbmhmbmbaaGreatAm1
set_option linter.unusedVariables false
set_option linter.unusedSimpArgs false
set_option linter.unnecessarySimpa false
set_option linter.unusedSectionVars false
namespace Go.Am
open Go
theorem Q9l {P : Program} {m : Mem} {μ : LMap} {H : Heap} {w : World} {S X : TypeId} {ats : Array TypeId} {as : Array Value} {s x : AVal} {vs v : Value} {r : Res} (ty : TypeId) (rh : RH m μ H w) (hs : VRel m μ s vs) (hx : VRel m μ x v)
  (h : Q5e P H S (some X) s x = some r) (hvc : r.vc = true) (hS : ats[0]? = some S) (hX : ats[1]? = some X) (ha0 : as[0]? = some vs) (ha1 : as[1]? = some v) :
  ∃ u w' μ', (Builtin.append_ ats ty as).run P w = .ok u w' ∧ VRel m μ' r.v u ∧ Post m μ H w m μ' r.H w' := by
 unfold Q5e at h
 split at h
 ·cases h
 ·rename_i e d hni hu hd
  simp only [Option.bind_some] at hd
  have hni' : ∀ k, d ≠ .int k := hni
  split at h
  ·rename_i i t hi ht
   split at h
   ·rename_i hok
    simp only [Bool.and_eq_true, beq_iff_eq, bne_iff_ne] at hok
    obtain ⟨⟨hsz, hb⟩, hz⟩ := hok
    have hvb : ∀ xs : List t.den, (AVal.vec t xs).isVb = true → e = 5 := fun xs h => Q6D ht h
    cases hit : Q2p H t x with
    | none => rw [hit] at h; cases h
    | some q =>
     obtain ⟨ys, ids⟩ := q
     rw [hit] at h
     simp only [Option.bind_some] at h
     split at h
     ·cases h
      simp only [Nat.ble_eq] at hvc
      have := hs.one rfl rfl
      cases this
      obtain ⟨z, hz1, hz2⟩ := Q6e hz
      obtain ⟨hn, hf⟩ := Q2r (P := P) rh hx hit
      by_cases h0 : ys.length = 0
      ·have hy0 : ys = [] := List.eq_nil_of_length_eq_zero h0
       subst hy0
       obtain ⟨new, hf1, hf2⟩ := hf 0 (Nat.le_refl _)
       rw [← hsz] at hf1
       have hnl := hf2.length
       simp only [Ty.size, Nat.zero_mul] at hnl
       have hnew0 : new.toList = [] := List.eq_nil_of_length_eq_zero hnl
       have hp := rh.phantom (a := .vec t []) (by simp [AVal.sh, Sh.size]) (by show DRel m (.arr _ t) _ _; simp [DRel]) 0
       refine ⟨.slice none (0 + 0) 0, w, _, ?_, ?_, hp⟩
       rotate_left
       ·exact Qal (m := m) (μ := μ) (H := H) (t := t) (b := 0)
       refine Q1D ty hS hX ha0 ha1 hu hd hni' hi hn hf1 (Nat.le_refl _) ?_
       rfl
      ·have rhd := (rh.drawn (w.drawn + 1)).rh
       obtain ⟨_, hfd⟩ := Q2r (P := P) rhd hx hit
       obtain ⟨new, hf1, hf2⟩ := hfd ys.length (Nat.le_refl _)
       rw [List.take_length] at hf2
       rw [← hsz] at hf1
       obtain ⟨newCap, dr, hcap, hrun⟩ := Q3u (z := z) (old := #[]) ty hS hX ha0 ha1 hu hd hni' hi hz1 hn hf1 rfl (by omega) hb (by rw [Nat.zero_add]; exact hvc)
       have key := Q7o (P := P) (e := e) (i := i) (xs := ([] : List t.den)) (old := #[]) (base := none) (n := 0) (sCap := 0) dr rh hz1 hi hsz (by simp [DRel]) hf2 newCap (by simpa using hcap) hz2 hvb
       simp only [List.length_nil, Nat.zero_add, List.nil_append] at key
       simp only [Nat.zero_add] at hrun
       exact ⟨_, _, _, hrun, key.1, key.2⟩
     ·rename_i id
      split at h
      ·rename_i t' xs hH
       split at h
       ·rename_i htt
        subst htt
        cases h
        simp only [Nat.ble_eq] at hvc
        obtain ⟨l, a, cap, hl, hsh, hcap, rfl, ha⟩ := Q30 rh hH hs
        have := Q5y (off := 0) (len := xs.length) ty rh hS hX ha0 ha1 hu hd hni' hi hsz hb hz hx hit hH hl hsh (by omega) hcap (by
         rcases ha with ⟨h1, h2⟩ | h1
         ·exact .inl ⟨by simpa using h1, by simpa using h2⟩
         ·exact .inr h1) hvc hvb
        simpa using this
       ·cases h
      ·cases h
     ·rename_i id
      split at h
      ·rename_i t' xs hH
       split at h
       ·rename_i htt
        subst htt
        cases h
        simp only [Nat.ble_eq] at hvc
        obtain ⟨l, n, a, cap, hl, hsh, hcap, he, ha⟩ := hs.one rfl rfl
        cases he
        obtain ⟨l', hblk⟩ := rh.blk _ _ hH
        have hll : l' = l := Option.some.inj (hblk.loc.symm.trans hl)
        subst hll
        have hb2 := hblk.sh
        rw [hsh] at hb2
        simp only [AVal.sh, Sh.arr.injEq] at hb2
        obtain ⟨rfl, htu⟩ := hb2
        subst htu
        obtain ⟨u, w', μ', h1, h2, h3⟩ := Q5y (off := 0) (len := xs.length) ty rh hS hX ha0 ha1 hu hd hni' hi hsz hb hz hx hit hH hl hsh (by omega) hcap (by
         rcases ha with ⟨h1, _, h2⟩ | ⟨h1, _⟩
         ·exact .inl ⟨by simpa using h1, by simp only [Ty.size]; omega⟩
         ·exact .inr h1) hvc hvb
        simp only [List.drop_zero, List.take_length] at h3
        refine ⟨u, w', μ', h1, ?_, h3⟩
        obtain ⟨l2, n2, t2, a2, cap2, f1, f2, f3, f4, f5⟩ := h2.one rfl rfl
        obtain ⟨rfl, _⟩ := List.cons.inj f4
        have hnew : (H.set id none ++ [some (AVal.vec (.int .u8) (xs ++ ys))])[H.length]? = some (some (AVal.vec (.int .u8) (xs ++ ys))) := by
         rw [List.getElem?_append_right (by simp)]; simp
        obtain ⟨l3, hb3⟩ := h3.rh.blk _ _ hnew
        have : l3 = l2 := Option.some.inj (hb3.loc.symm.trans f1)
        subst this
        have hb4 := hb3.sh
        rw [f2] at hb4
        simp only [AVal.sh, Sh.arr.injEq] at hb4
        obtain ⟨rfl, rfl⟩ := hb4
        refine Q3c (a := .vbs H.length) ⟨l3, _, a2, cap2, f1, f2, f3, rfl, ?_⟩ rfl
        by_cases hc : cap2 = 0
        ·right
         refine ⟨hc, ?_⟩
         have h0 : (xs ++ ys).length = 0 := by omega
         rw [List.length_append] at h0
         have hy0 : ys = [] := List.eq_nil_of_length_eq_zero (by omega)
         have hx0 : xs = [] := List.eq_nil_of_length_eq_zero (by omega)
         subst hy0; subst hx0
         obtain ⟨hn, hf⟩ := Q2r (P := P) rh hx hit
         obtain ⟨new, hf1, hf2⟩ := hf 0 (Nat.le_refl _)
         have hnl := hf2.length
         simp only [Ty.size, Nat.zero_mul] at hnl
         have hnew0 : new.toList = [] := List.eq_nil_of_length_eq_zero hnl
         rw [← hsz] at hf1
         have hroom := Q1D (w' := w) ty hS hX ha0 ha1 hu hd hni' hi hn hf1 (Nat.zero_le _) (by
          rw [hnew0]
          cases a <;> rfl)
         rw [h1] at hroom
         cases hroom
         rcases ha with ⟨_, h5, _⟩ | ⟨_, h5⟩
         ·omega
         ·exact h5
        ·left
         rcases f5 with ⟨f5, f6⟩ | f5
         ·simp only [Ty.size, Nat.mul_one] at f6
          exact ⟨f5, by omega, f6⟩
         ·exact absurd f5 hc
       ·cases h
      ·cases h
     ·rename_i id off len
      split at h
      ·rename_i t' xs hH
       split at h
       ·rename_i htt
        subst htt
        cases h
        simp only [Nat.ble_eq] at hvc
        obtain ⟨l, o, n, t', a, cap, hl, ho, hle, hlc, he, ha⟩ := hs.one rfl rfl
        cases he
        simp only [Sh.offP, Option.some.injEq, Prod.mk.injEq] at ho
        obtain ⟨rfl, hsh⟩ := ho
        obtain ⟨l', hblk⟩ := rh.blk _ _ hH
        have hll : l' = l := Option.some.inj (hblk.loc.symm.trans hl)
        subst hll
        have hb2 := hblk.sh
        rw [hsh] at hb2
        cases hb2
        exact Q5y (off := off) (len := len) ty rh hS hX ha0 ha1 hu hd hni' hi hsz hb hz hx hit hH hl hsh hle hlc (by
         rcases ha with ⟨h1, h2⟩ | h1
         ·exact .inl ⟨by simpa using h1, h2 rfl⟩
         ·exact .inr h1) hvc hvb
       ·cases h
      ·cases h
     ·cases h
   ·cases h
  ·cases h
 ·cases h
theorem Q8e {cs xs : List Value} {o n q : Nat} (h : q + xs.length ≤ n) (hl : o + n ≤ cs.length) : Q0R cs o (Q0R ((cs.drop o).take n) q xs) = Q0R cs (o + q) xs := by
 have hlen : (Q0R ((cs.drop o).take n) q xs).length = n := by rw [Q1p (by simp; omega)]; simp; omega
 unfold Q0R at hlen ⊢
 rw [hlen]
 apply List.ext_getElem?
 intro i
 simp only [List.length_append, List.length_take, List.length_drop] at hlen
 simp only [List.getElem?_take, List.getElem?_drop, List.getElem?_append, List.length_append, List.length_take, List.length_drop]
 by_cases h1 : i < o
 ·rw [if_pos (by omega), if_pos (by omega), if_pos (by omega), if_pos (by omega), if_pos (by omega), if_pos (by omega)]
 ·by_cases h2 : i < o + q
  ·rw [if_pos (by omega), if_neg (by omega), if_pos (by omega), if_pos (by omega), if_pos (by omega), if_pos (by omega), if_pos (by omega), if_pos (by omega), if_pos (by omega)]
   congr 1; omega
  ·by_cases h3 : i < o + q + xs.length
   ·rw [if_pos (by omega), if_neg (by omega), if_pos (by omega), if_neg (by omega), if_pos (by omega), if_neg (by omega)]
    congr 1; omega
   ·by_cases h4 : i < o + n
    ·rw [if_pos (by omega), if_neg (by omega), if_neg (by omega), if_pos (by omega), if_neg (by omega)]
     congr 1; omega
    ·rw [if_neg (by omega), if_neg (by omega)]
     congr 1; omega
theorem Q4k {c y : AVal} {p : List Nat} (h : getP c p = some y) (hy : y.isMp = false) : c.isMp = false := by
 cases c <;> first | rfl | skip
 cases p with
 | nil => simp only [getP, Option.some.injEq] at h; rw [← h] at hy; exact hy
 | cons i p => simp [getP, Q6G] at h
theorem QcQ {P : Program} {m : Mem} {μ : LMap} {H : Heap} {w : World} (rh : RH m μ H w) {id : Nat} {c c' x y : AVal} {p : List Nat} {l : Loc} {o q : Nat} {s : Sh} {cells : List Value} (hi : H[id]? = some (some c)) (hg : getP c p = some y)
  (hl : μ id = some l) (ho : l.sh.offP p = some (o, s)) (hq : q + cells.length ≤ s.size) (hfl : ∀ v ∈ cells, Q2d v = true) (hx : ∀ old, CRel m μ y old → CRel m μ x (Q0R old q cells)) (hs : x.sh = s) (hset : setP c p x = some c') (hvx : c'.isVb = true → c.isVb = true) (hnm : c.isMp = false) :
  ∃ w', (storeCells ⟨l.b, l.off + o + q, none⟩ cells).run P w = .ok () w' ∧ Post m μ H w m μ (H.set id (some c')) w' := by
 obtain ⟨l', hb⟩ := rh.blk id c hi
 have : l' = l := Option.some.inj (hb.loc.symm.trans hl)
 subst this
 rw [hb.sh] at ho
 rcases hb.cells with ⟨p1, p2, p3, p4⟩ | ⟨p0, gm, cs, E, fz, g1, g2, g3, g4, g5⟩
 ·obtain ⟨hle, y', hy', _, hr⟩ := Q1E p4 ho
  rw [hg] at hy'; cases hy'
  have hnil : cells = [] := List.eq_nil_of_length_eq_zero (by omega)
  subst hnil
  have hx' := hx _ hr
  have e0 : Q0R ((([] : List Value).drop o).take s.size) q [] = [] := by simp [Q0R]
  rw [e0] at hx'
  obtain ⟨w', hr', hp⟩ := Q9K (P := P) rh hi hl (by rw [hb.sh]; exact ho) hx' hs hset hvx hnm
  have : w' = w := by
   have : (storeCells (⟨l'.b, l'.off + o, none⟩ : Addr) []).run P w = .ok () w := rfl
   rw [this] at hr'; cases hr'; rfl
  subst this
  exact ⟨w', rfl, hp⟩
 ·obtain ⟨hle, y', hy', _, hr⟩ := Q1E g5 ho
  rw [hg] at hy'; cases hy'
  have hx' := hx _ hr
  have hsz : (((cs.toList.drop l'.off).take c.sh.size).drop o).take s.size = (cs.toList.drop (l'.off + o)).take s.size := Q0Z _ _ _ _ _ hle
  obtain ⟨q1, q2⟩ := Q3Q g5 ho hx' hs hset
  rw [Q8e hq (by simp; omega)] at q2
  obtain ⟨w', cs', hrun, hp, hcs⟩ := Q2E (P := P) (b := l'.b) (l'.off + o + q) cells 0 w cs g1 (by omega) (by rw [g2]; exact g3) hfl
  refine ⟨w', hrun, ?_⟩
  have hcl : cs.toList.length = cs.size := Array.length_toList
  have hn : cs'.size = cs.size := by
   rw [← Array.length_toList, hcs, Q1p (by omega)]; exact hcl
  refine rh.put hi hl p0 g1 hp q1 hn ?_ hvx
  rw [hcs, q1, Nat.add_zero, Q2L (by omega) (by omega) (by omega), show l'.off + o + q - l'.off = o + q from by omega]
  exact q2
theorem Qb3 {m : Mem} {t : Ty} {N off k : Nat} {xs ys : List t.den} {old new : List Value} (h : DRel m (.arr N t) xs old) (hn : DRel m (.arr k t) (ys.take k) new) (hle : off + k ≤ N) :
  DRel m (.arr N t) (Q2F xs off ys k) (Q0R old (off * t.size) new) ∧ (Q2F xs off ys k).length = xs.length := by
 have hnl := hn.length
 simp only [DRel] at h hn ⊢
 obtain ⟨a1, a2, a3⟩ := h
 obtain ⟨b1, b2, b3⟩ := hn
 simp only [Ty.size] at hnl
 have hm : (off + k) * t.size ≤ N * t.size := Nat.mul_le_mul_right _ hle
 rw [Nat.add_mul] at hm
 have hlen : (Q2F xs off ys k).length = xs.length := by
  simp only [Q2F, List.length_append, List.length_drop, b1]
  simp only [List.length_take]; omega
 refine ⟨⟨by rw [hlen]; exact a1, by rw [Q1p (by omega)]; exact a2, fun i hi => ?_⟩, hlen⟩
 have hmi : (i + 1) * t.size ≤ N * t.size := Nat.mul_le_mul_right _ hi
 rw [Nat.add_mul] at hmi
 have hto : (xs.take off).length = off := by simp; omega
 simp only [Q2F, List.getD_eq_getElem?_getD, List.getElem?_append, List.length_append, hto, b1]
 by_cases h1 : i < off
 ·have hm1 : (i + 1) * t.size ≤ off * t.size := Nat.mul_le_mul_right _ h1
  rw [Nat.add_mul] at hm1
  rw [if_pos (by omega), if_pos h1, List.getElem?_take, if_pos h1, Q2f (by omega) (by omega), ← List.getD_eq_getElem?_getD]
  exact a3 i hi
 ·by_cases h2 : i < off + k
  ·have hm2 : off * t.size ≤ i * t.size := Nat.mul_le_mul_right _ (by omega)
   have hm3 : (i + 1) * t.size ≤ (off + k) * t.size := Nat.mul_le_mul_right _ (by omega)
   rw [Nat.add_mul, Nat.add_mul] at hm3
   rw [if_pos h2, if_neg h1]
   have e : ((Q0R old (off * t.size) new).drop (i * t.size)).take t.size = (new.drop ((i - off) * t.size)).take t.size := by
    have h4 := Q4H old 0 (off * t.size) (k * t.size) new hnl (by omega)
    simp only [Nat.zero_add, List.drop_zero] at h4
    have h5 : ((Q0R old (off * t.size) new).drop (i * t.size)).take t.size = (((Q0R old (off * t.size) new).take (off * t.size + k * t.size)).drop (i * t.size)).take t.size := by
     rw [List.drop_take, List.take_take, Nat.min_eq_left (by omega)]
    rw [h5, h4, List.drop_append, List.drop_eq_nil_of_le (by simp; omega), List.nil_append]
    congr 2
    simp only [List.length_take]
    rw [Nat.min_eq_left (by omega), Nat.sub_mul]
   rw [e, ← List.getD_eq_getElem?_getD]
   exact b3 (i - off) (by omega)
  ·have hm2 : (off + k) * t.size ≤ i * t.size := Nat.mul_le_mul_right _ (by omega)
   rw [Nat.add_mul] at hm2
   rw [if_neg h2, List.getElem?_drop, show off + k + (i - (off + k)) = i from by omega, Q2B (by omega) (by omega), ← List.getD_eq_getElem?_getD]
   exact a3 i hi
theorem Qcb {P : Program} {w w' : World} {D : TypeId} {ats : Array TypeId} {as : Array Value} {e : TypeId} {base : Option Addr} {dLen dCap n size : Nat} {x : Value} {cells : Array Value} (ty : TypeId)
  (hD : ats[0]? = some D) (ha0 : as[0]? = some (.slice base dLen dCap)) (ha1 : as[1]? = some x) (hu : P.underlying D = some (.slice e)) (hs : Q16 P e = some size) (hn : (Builtin.lenOf x).run P w = .ok n w)
  (hf : (Builtin.firstCells size (min n dLen) x).run P w = .ok cells w) (hst : (match base with | some a => storeCells a cells.toList | none => pure () : Sem Unit).run P w = .ok () w') :
  (Builtin.copy_ ats ty as).run P w = .ok (.int .i64 (min n dLen : Nat)) w' := by
 unfold Builtin.copy_
 simp only [hD, ha0, ha1, run_bind, Qa hu, hn, Q0N hs]
 rw [show Nat.min n dLen = min n dLen from rfl, hf]
 cases base with
 | none => simp only [QP] at hst ⊢; cases hst; rfl
 | some a => simp only [run_bind] at hst ⊢; rw [hst]; rfl
theorem Qdq {α : Type} (xs : List α) (off : Nat) (ys : List α) : Q2F xs off ys 0 = xs := by simp [Q2F]
theorem QaU {P : Program} {m : Mem} {μ : LMap} {H : Heap} {w : World} {D : TypeId} {ats : Array TypeId} {as : Array Value} {d x : AVal} {vd v : Value} {r : Res} (ty : TypeId) (rh : RH m μ H w) (hd : VRel m μ d vd) (hx : VRel m μ x v)
    (h : Q9z P H D d x = some r) (hD : ats[0]? = some D) (ha0 : as[0]? = some vd) (ha1 : as[1]? = some v) :
    ∃ u w' μ', (Builtin.copy_ ats ty as).run P w = .ok u w' ∧ VRel m μ' r.v u ∧ Post m μ H w m μ' r.H w' := by
  have core : ∀ {e : TypeId} {t : Ty} {ys : List t.den} {ids : List Nat} {id : Nat} {c c' y y' : AVal} {p : List Nat} {l : Loc} {o N off len cap : Nat} {xs : List t.den} {a : Option Addr}, P.underlying D = some (.slice e) → Q16 P e = some t.size → Q2p H t x = some (ys, ids) →
      vd = .slice a len cap → H[id]? = some (some c) → getP c p = some y → μ id = some l → l.sh.offP p = some (o, .arr N t) → (∀ cs, CRel m μ y cs → DRel m (.arr N t) xs cs) → off + len ≤ N → len ≤ cap →
      (a = some ⟨l.b, l.off + o + off * t.size, none⟩ ∨ cap = 0) → y'.sh = .arr N t → (∀ cs, DRel m (.arr N t) (Q2F xs off ys (min ys.length len)) cs → CRel m μ y' cs) → setP c p y' = some c' → y'.isVb = y.isVb → y.isMp = false →
      ∃ u w' μ', (Builtin.copy_ ats ty as).run P w = .ok u w' ∧ VRel m μ' (.int .i64 (min ys.length len : Nat)) u ∧ Post m μ H w m μ' (H.set id (some c')) w' := by
    intro e t ys ids id c c' y y' p l o N off len cap xs a hu hsz hit hvd hi hg hl ho hy hle hlc ha hy's hy' hset hvb hym
    subst hvd
    obtain ⟨hn, hf⟩ := Q2r (P := P) rh hx hit
    obtain ⟨cells, hf1, hf2⟩ := hf (min ys.length len) (by omega)
    have hcl := hf2.length
    simp only [Ty.size, Array.length_toList] at hcl
    have hm : (off + min ys.length len) * t.size ≤ N * t.size := Nat.mul_le_mul_right _ (by omega)
    rw [Nat.add_mul] at hm
    obtain ⟨w', hr, hp⟩ := QcQ (P := P) (cells := cells.toList) (q := off * t.size) rh hi hg hl ho (by simp only [Sh.size, Array.length_toList]; omega) hf2.flat
      (fun old hold => hy' _ (Qb3 (hy _ hold) hf2 (by omega)).1) hy's hset (Qct hg hset hvb) (Q4k hg hym)
    refine ⟨_, w', μ, Qcb ty hD ha0 ha1 hu hsz hn hf1 ?_, rfl, hp⟩
    rcases ha with rfl | hc
    · exact hr
    · have hk : min ys.length len = 0 := by omega
      have hnil : cells.toList = [] := List.eq_nil_of_length_eq_zero (by rw [Array.length_toList, hcl, hk]; simp)
      rw [hnil] at hr ⊢
      have : w' = w := by
        have : (storeCells (⟨l.b, l.off + o + off * t.size, none⟩ : Addr) []).run P w = .ok () w := rfl
        rw [this] at hr; cases hr; rfl
      subst this
      cases a <;> rfl
  unfold Q9z at h
  split at h
  · rename_i e hu
    split at h
    · cases h
    · rename_i id p off len
      split at h
      · rename_i c hi
        split at h
        · rename_i n t xs hg
          split at h
          · rename_i hsz
            rw [beq_iff_eq] at hsz
            cases hit : Q2p H t x with
            | none => rw [hit] at h; cases h
            | some q =>
              obtain ⟨ys, ids⟩ := q
              rw [hit] at h
              simp only [Option.bind_some] at h
              cases hset : setP c p (.arr n t (Q2F xs off ys (min ys.length len))) with
              | none => rw [hset] at h; cases h
              | some c' =>
                rw [hset] at h
                cases h
                obtain ⟨l, o, N, t', a, cap, hl, ho, hle, hlc, he, ha⟩ := hd.one rfl rfl
                cases he
                have hs := (Q2j rh hi hg hl ho).1
                cases hs
                exact core (y' := .arr n t (Q2F xs off ys (min ys.length len))) (xs := xs) hu hsz hit rfl hi hg hl ho (fun cs h => h) hle hlc (ha.imp (fun z => z.1) (fun z => z)) rfl (fun cs h => h) hset rfl rfl
          · cases h
        · rename_i t xs hg
          split at h
          · rename_i hok
            simp only [Bool.and_eq_true, beq_iff_eq] at hok
            obtain ⟨hsz, hpe⟩ := hok
            cases hit : Q2p H t x with
            | none => rw [hit] at h; cases h
            | some q =>
              obtain ⟨ys, ids⟩ := q
              rw [hit] at h
              simp only [Option.bind_some] at h
              cases h
              have hp0 : p = [] := by cases p <;> first | rfl | (simp at hpe; done)
              subst hp0
              obtain ⟨l, o, N, t', a, cap, hl, ho, hle, hlc, he, ha⟩ := hd.one rfl rfl
              cases he
              have hs := (Q2j rh hi hg hl ho).1
              cases hs
              cases hg
              have hlen : (Q2F xs off ys (min ys.length len)).length = xs.length := by
                simp only [Q2F, List.length_append, List.length_drop, List.length_take]; omega
              exact core (y := .vec t xs) (xs := xs) (y' := .vec t (Q2F xs off ys (min ys.length len))) hu hsz hit rfl hi rfl hl ho (fun cs h => h) hle hlc (ha.imp (fun z => z.1) (fun z => z)) (by simp only [AVal.sh, hlen])
                (fun cs h => by show DRel m (.arr _ t) _ _; rw [hlen]; exact h) rfl (Q6l _ _) rfl
          · cases h
        · cases h
      · cases h
    · rename_i id
      split at h
      · rename_i t xs hi
        split at h
        · rename_i hsz
          rw [beq_iff_eq] at hsz
          cases hit : Q2p H t x with
          | none => rw [hit] at h; cases h
          | some q =>
            obtain ⟨ys, ids⟩ := q
            rw [hit] at h
            simp only [Option.bind_some] at h
            cases h
            obtain ⟨l, a, cap, hl, hsh, hcap, rfl, ha⟩ := Q30 rh hi hd
            have hlen : (Q2F xs 0 ys (min ys.length xs.length)).length = xs.length := by
              simp only [Q2F, List.length_append, List.length_drop, List.length_take]; omega
            exact core (off := 0) (p := []) (o := 0) (N := xs.length) (y := .vec t xs) (xs := xs) (y' := .vec t (Q2F xs 0 ys (min ys.length xs.length))) hu hsz hit rfl hi rfl hl (by simp only [Sh.offP, hsh]) (fun cs h => h) (by omega) hcap
              (by rcases ha with ⟨h1, _⟩ | h1
                  · exact .inl (by simpa using h1)
                  · exact .inr h1) (by simp only [AVal.sh, hlen])
              (fun cs h => by show DRel m (.arr _ t) _ _; rw [hlen]; exact h) rfl (Q6l _ _) rfl
        · cases h
      · cases h
    · cases h
  · cases h
end Go.Am
namespace Go.Am
open Go
theorem Q84 {α β γ : Type} (s : Sem α) (f : α → Sem β) (g : β → Sem γ) : (s.bind f).bind g = s.bind fun a => (f a).bind g := by
 induction s with
 | pure a => rfl
 | load m a k ih => simp only [Sem.bind]; congr; funext v; exact ih v
 | store m a v k ih => simp only [Sem.bind]; congr
 | new o k ih => simp only [Sem.bind]; congr; funext v; exact ih v
 | shape r k ih => simp only [Sem.bind]; congr; funext v; exact ih v
 | freeze a n k ih => simp only [Sem.bind]; congr
 | frozen a k ih => simp only [Sem.bind]; congr; funext v; exact ih v
 | getObj r k ih => simp only [Sem.bind]; congr; funext v; exact ih v
 | setObj r o k ih => simp only [Sem.bind]; congr
 | choose q k ih => simp only [Sem.bind]; congr; funext v; exact ih v
 | sys c k ih => simp only [Sem.bind]; congr; funext v; exact ih v
 | program k ih => simp only [Sem.bind]; congr; funext v; exact ih v
 | mark m k ih => simp only [Sem.bind]; congr
 | halt h => rfl
theorem Q8f {α : Type} (s : Sem α) : s.bind Sem.pure = s := by
 induction s with
 | pure a => rfl
 | load m a k ih => simp only [Sem.bind]; congr; funext v; exact ih v
 | store m a v k ih => simp only [Sem.bind]; congr
 | new o k ih => simp only [Sem.bind]; congr; funext v; exact ih v
 | shape r k ih => simp only [Sem.bind]; congr; funext v; exact ih v
 | freeze a n k ih => simp only [Sem.bind]; congr
 | frozen a k ih => simp only [Sem.bind]; congr; funext v; exact ih v
 | getObj r k ih => simp only [Sem.bind]; congr; funext v; exact ih v
 | setObj r o k ih => simp only [Sem.bind]; congr
 | choose q k ih => simp only [Sem.bind]; congr; funext v; exact ih v
 | sys c k ih => simp only [Sem.bind]; congr; funext v; exact ih v
 | program k ih => simp only [Sem.bind]; congr; funext v; exact ih v
 | mark m k ih => simp only [Sem.bind]; congr
 | halt h => rfl
theorem Q3R : LawfulMonad Sem := LawfulMonad.mk' Sem (id_map := fun x => Q8f x) (pure_bind := fun _ _ => rfl) (bind_assoc := fun s f g => Q84 s f g)
theorem Q5t {α β : Type} {P : Program} {w : World} {f : α → Sem β} {g : α → β} : ∀ (l : List α), (∀ x ∈ l, (f x).run P w = .ok (g x) w) → (l.mapM f).run P w = .ok (l.map g) w
 | [], _ => by simp only [List.mapM_nil, QP]; rfl
 | x :: l, h => by
  haveI := Q3R
  have ih := Q5t l (fun y hy => h y (by simp [hy]))
  simp only [List.mapM_cons, run_bind, h x (by simp), ih, QP]
  rfl
theorem Q7W {α β : Type} {P : Program} {w : World} {f : α → Sem β} {g : α → β} (l : Array α) (h : ∀ x ∈ l.toList, (f x).run P w = .ok (g x) w) : (l.mapM f).run P w = .ok (l.map g) w := by
 haveI := Q3R
 rw [Array.mapM_eq_mapM_toList]
 show (List.toArray <$> (l.toList.mapM f) : Sem _).run P w = _
 rw [map_eq_pure_bind]
 simp only [run_bind, Q5t l.toList h, QP]
 congr 1
 simp [← Array.toList_map]
theorem Qa2 (off : Nat) : ∀ (vs : List Value) (k : Nat) (cells : Array Value), off + k + vs.length ≤ cells.size →
  ((vs.zipIdx k).foldl (fun cs (cj : Value × Nat) => cs.setIfInBounds (off + cj.2) cj.1) cells).toList = Q0R cells.toList (off + k) vs
 | [], k, cells, _ => by simp [Q0R]
 | v :: vs, k, cells, h => by
  simp only [List.length_cons] at h
  simp only [List.zipIdx_cons, List.foldl_cons]
  rw [Qa2 off vs (k + 1) _ (by simp; omega), Array.toList_setIfInBounds, ← Nat.add_assoc, Q7s _ _ _ _ (by simp; omega)]
theorem Q8I {place : Nat → Option (Nat × Nat)} {cells : Array Value} {i off size : Nat} {v : Value} {rest : List (Nat × Value)} (hp : place i = some (off, size)) (hv : v.cells.size = size) (hle : off + size ≤ cells.size) :
  ∃ cells', cells'.toList = Q0R cells.toList off v.cells.toList ∧ Instr.fill place cells ((i, v) :: rest) = Instr.fill place cells' rest := by
 refine ⟨v.cells.zipIdx.foldl (fun cs (cj : Value × Nat) => cs.setIfInBounds (off + cj.2) cj.1) cells, ?_, ?_⟩
 ·have := Qa2 off v.cells.toList 0 cells (by simp; omega)
  rw [Nat.add_zero] at this
  rw [← this]
  congr 1
  rw [← Array.foldl_toList, Array.toList_zipIdx]
 ·simp only [Instr.fill, hp]
  rw [if_neg (by simp [hv]; omega)]
def Q3V (m : Mem) (μ : LMap) : List (Nat × AVal) → List (Nat × Value) → Prop
 | [], [] => True
 | (i, x) :: l, (j, v) :: r => i = j ∧ VRel m μ x v ∧ Q3V m μ l r
 | _, _ => False
theorem Q5A {P : Program} {m : Mem} {μ : LMap} {T : TypeId} {place : Nat → Option (Nat × Nat)} (hplace : (∀ fs i f n, P.underlying T = some (.struct fs) → fs[i]? = some f → Q16 P f.type = some n → place i = some (f.offset, n)) ∧ (∀ len e n i, P.underlying T = some (.array len e) → Q16 P e = some n → place i = some (i * n, n))) :
  ∀ (parts : List (Nat × AVal)) (vals : List (Nat × Value)) (z z' : AVal) (cells : Array Value), CRel m μ z cells.toList → Q3V m μ parts vals → Q4e P T z parts = some z' →
   ∃ cells', Instr.fill place cells vals = some cells' ∧ CRel m μ z' cells'.toList ∧ z'.sh = z.sh
 | [], vals, z, z', cells, hz, hp, h => by
  cases vals with
  | cons _ _ => exact hp.elim
  | nil =>
   simp only [Q4e, Option.some.injEq] at h
   subst h
   exact ⟨cells, rfl, hz, rfl⟩
 | (i, x) :: parts, vals, z, z', cells, hz, hp, h => by
  cases vals with
  | nil => exact hp.elim
  | cons jv vals =>
   obtain ⟨j, v⟩ := jv
   obtain ⟨rfl, hv, hp⟩ := hp
   have hzl := hz.length
   simp only [AVal.size, Array.length_toList] at hzl
   have one : ∀ {o n : Nat} {s : Sh} {z1 : AVal}, place i = some (o, n) → z.sh.fieldOff i = some (o, s) → n = s.size → Q1N x = true → x.sh = s → setF z i x = some z1 → Q4e P T z1 parts = some z' →
     ∃ cells', Instr.fill place cells ((i, v) :: vals) = some cells' ∧ CRel m μ z' cells'.toList ∧ z'.sh = z.sh := by
    intro o n s z1 hpl hfo hn hok hxs hset hrest
    have hc := Q34 hv hok
    have hcl := hc.length
    simp only [AVal.size, Array.length_toList] at hcl
    obtain ⟨hle, _⟩ := Q2l hz hfo
    obtain ⟨q1, q2⟩ := Q62 hz hfo hc hxs hset
    obtain ⟨cells1, hc1, hf⟩ := Q8I (cells := cells) (rest := vals) (v := v) hpl (by rw [hcl, hxs, hn]) (by omega)
    rw [← hc1] at q2
    obtain ⟨cells', hf', hr', hs'⟩ := Q5A hplace parts vals z1 z' cells1 q2 hp hrest
    exact ⟨cells', by rw [hf]; exact hf', hr', by rw [hs', q1]⟩
   simp only [Q4e] at h
   split at h
   ·rename_i fs hu
    split at h
    ·rename_i f o s hf hfo
     split at h
     ·rename_i hok
      simp only [Bool.and_eq_true, beq_iff_eq, decide_eq_true_eq] at hok
      obtain ⟨⟨⟨h1, h2⟩, h3⟩, h4⟩ := hok
      cases hset : setF z i x with
      | none => rw [hset] at h; cases h
      | some z1 =>
       rw [hset] at h
       simp only [Option.bind_some] at h
       exact one (by rw [hplace.1 fs i f s.size hu hf h2, h1]) hfo rfl h3 h4 hset h
     ·cases h
    ·cases h
   ·rename_i len e hu
    split at h
    ·rename_i n t xs
     split at h
     ·rename_i hin
      split at h
      ·rename_i hok
       simp only [Bool.and_eq_true, beq_iff_eq, decide_eq_true_eq] at hok
       obtain ⟨⟨h2, h3⟩, h4⟩ := hok
       cases hset : setF (.arr n t xs) i x with
       | none => rw [hset] at h; cases h
       | some z1 =>
        rw [hset] at h
        simp only [Option.bind_some] at h
        exact one (s := t.sh) (hplace.2 len e t.size i hu h2) (by simp only [AVal.sh, Sh.fieldOff]; rw [if_pos hin.1]) (by rw [Ty.sh_size]) h3 h4 hset h
      ·cases h
     ·cases h
    ·cases h
   ·cases h
theorem Qc2 {g : List Value → Option AVal} {sz : Nat} : ∀ (k : Nat) (cs : List Value) (a : AVal), absR g sz k cs = some a → a.isAgg = true
 | 0, [], a, h => by simp only [absR, Option.some.injEq] at h; subst h; rfl
 | 0, _ :: _, a, h => by simp [absR] at h
 | k + 1, cs, a, h => by
  simp only [absR, Option.bind_eq_some_iff, Option.some.injEq] at h
  obtain ⟨x, _, y, _, h⟩ := h
  subst h; rfl
theorem Q9Q {P : Program} {m : Mem} {μ : LMap} {w : World} {T : TypeId} {z v : AVal} {parts : List (Nat × AVal)} {vals : Array (Nat × Value)} (hz : Q4s P T = some z) (hok : Q7M P T = true) (hp : Q3V m μ parts vals.toList) (h : Q4e P T z parts = some v) :
  ∃ u, (Instr.build T vals).run P w = .ok u w ∧ VRel m μ v u := by
 obtain ⟨i, zv, hi, hzv, hr⟩ := Q6p (m := m) (μ := μ) hz
 have agg : ∀ {d : TypeDesc}, P.underlying T = some d → (∃ fs, d = .struct fs) ∨ (∃ n e, d = .array n e) → z.isAgg = true := by
  intro d hd hcase
  unfold Q4s at hz
  rw [hi] at hz
  simp only [hzv] at hz
  unfold absZ at hz
  rw [hd] at hz
  rcases hcase with ⟨fs, rfl⟩ | ⟨n, e, rfl⟩
  ·simp only at hz
   exact (Q82 (m := m) (μ := μ) (fun T cs a => Q6b 39 T cs a) _ _ _ hz).2
  ·simp only at hz
   cases ht : tyOf P 39 e with
   | none => rw [ht] at hz; exact Qc2 _ _ _ hz
   | some t =>
    rw [ht] at hz
    simp only [Option.bind_some] at hz
    split at hz
    ·cases hz; rfl
    ·cases hz
 have aggsh : ∀ {a b : AVal}, a.sh = b.sh → b.isAgg = true → Q1N a = true ∨ True → a.isAgg = true := by
  intro a b hs hb _
  cases a <;> cases b <;> first | rfl | (cases hb; done) | (simp [AVal.sh] at hs; done)
 unfold Q7M at hok
 split at hok
 ·rename_i fs hu
  have hfs : ∀ f ∈ fs.toList, Q16 P f.type = some (P.cellsOf f.type) := by
   intro f hf
   have := List.all_eq_true.1 hok f hf
   obtain ⟨n, hn⟩ := Option.isSome_iff_exists.1 this
   rw [hn]
   unfold Q16 at hn
   unfold Program.cellsOf
   rw [hn]; rfl
  have hpl := Q7W (P := P) (w := w) (f := fun f : Field => (do pure (f.offset, ← sizeOf f.type) : Sem (Nat × Nat))) (g := fun f => (f.offset, P.cellsOf f.type)) fs (fun f hf => by
   simp only [run_bind, Q0N (hfs f hf)]; rfl)
  obtain ⟨cells', hf, hc, hsh⟩ := Q5A (m := m) (μ := μ) (place := fun i => (fs.map fun f => (f.offset, P.cellsOf f.type))[i]?) (T := T)
   ⟨fun fs' i f n hu' hf hn => by
    rw [hu] at hu'; cases hu'
    have hmem : f ∈ fs.toList := by
     have := Array.mem_of_getElem? hf
     simpa using this
    rw [hfs f hmem] at hn
    cases hn
    simp [Array.getElem?_map, hf], fun len e n i hu' => (by rw [hu] at hu'; cases hu')⟩ parts vals.toList z v zv.cells hr hp h
  refine ⟨.agg cells', ?_, Q4D hc (aggsh hsh (agg hu (.inl ⟨fs, rfl⟩)) (.inr trivial))⟩
  simp only [Instr.build, run_bind, Q1y hi hzv, Qa hu]
  rw [hpl]
  simp only [hf]
  rfl
 ·rename_i len e hu
  obtain ⟨n, hn⟩ := Option.isSome_iff_exists.1 hok
  obtain ⟨cells', hf, hc, hsh⟩ := Q5A (m := m) (μ := μ) (place := fun i => some (i * n, n)) (T := T)
   ⟨fun fs' i f n hu' => (by rw [hu] at hu'; cases hu'), fun len' e' n' i hu' hn' => (by rw [hu] at hu'; cases hu'; rw [hn] at hn'; cases hn'; rfl)⟩ parts vals.toList z v zv.cells hr hp h
  refine ⟨.agg cells', ?_, Q4D hc (aggsh hsh (agg hu (.inr ⟨len, e, rfl⟩)) (.inr trivial))⟩
  simp only [Instr.build, run_bind, Q1y hi hzv, Qa hu, Q0N hn, hf]
  rfl
 ·cases hok
end Go.Am
namespace Go.Am
open Go
theorem Q6c {m : Mem} {μ : LMap} {size : Nat} : ∀ (parts : List (Nat × AVal)) (vals : List (Nat × Value)) (z z' : AVal) (cells : Array Value), CRel m μ z cells.toList → Q3V m μ parts vals → Q28 size z parts = some z' →
   ∃ cells', Instr.fill (fun i => some (i * size, size)) cells vals = some cells' ∧ CRel m μ z' cells'.toList ∧ z'.sh = z.sh
 | [], vals, z, z', cells, hz, hp, h => by
  cases vals with
  | cons _ _ => exact hp.elim
  | nil =>
   simp only [Q28, Option.some.injEq] at h
   subst h
   exact ⟨cells, rfl, hz, rfl⟩
 | (i, x) :: parts, vals, z, z', cells, hz, hp, h => by
  cases vals with
  | nil => exact hp.elim
  | cons jv vals =>
   obtain ⟨j, v⟩ := jv
   obtain ⟨rfl, hv, hp⟩ := hp
   have hzl := hz.length
   simp only [AVal.size, Array.length_toList] at hzl
   simp only [Q28] at h
   split at h
   ·rename_i t xs
    split at h
    ·rename_i hin
     split at h
     ·rename_i hok
      simp only [Bool.and_eq_true, beq_iff_eq, decide_eq_true_eq] at hok
      obtain ⟨⟨rfl, h3⟩, h4⟩ := hok
      cases hset : setF (.vec t xs) i x with
      | none => rw [hset] at h; cases h
      | some z1 =>
       rw [hset] at h
       simp only [Option.bind_some] at h
       have hc := Q34 hv h3
       have hcl := hc.length
       simp only [AVal.size, Array.length_toList] at hcl
       have hfo : (AVal.vec t xs).sh.fieldOff i = some (i * t.size, t.sh) := by simp only [AVal.sh, Sh.fieldOff]; rw [if_pos hin]
       obtain ⟨hle, _⟩ := Q2l hz hfo
       obtain ⟨q1, q2⟩ := Q62 hz hfo hc h4 hset
       rw [Ty.sh_size] at hle
       obtain ⟨cells1, hc1, hf⟩ := Q8I (place := fun i => some (i * t.size, t.size)) (cells := cells) (rest := vals) (v := v) (i := i) rfl (by rw [hcl, h4, Ty.sh_size]) (by omega)
       rw [← hc1] at q2
       obtain ⟨cells', hf', hr', hs'⟩ := Q6c parts vals z1 z' cells1 q2 hp h
       exact ⟨cells', by rw [hf]; exact hf', hr', by rw [hs', q1]⟩
     ·cases h
    ·cases h
   ·cases h
theorem Q8b {size : Nat} : ∀ (parts : List (Nat × AVal)) {z c : AVal}, Q28 size z parts = some c → c.isVb = z.isVb
 | [], z, c, h => by simp only [Q28, Option.some.injEq] at h; subst h; rfl
 | (i, x) :: rest, z, c, h => by
  cases z <;> simp only [Q28] at h <;> try (cases h; done)
  split at h
  ·split at h
   ·obtain ⟨z', h1, h2⟩ := Option.bind_eq_some_iff.1 h
    rw [Q8b rest h2, Q9a h1]
   ·cases h
  ·cases h
theorem Q6H {P : Program} {m : Mem} {μ : LMap} {H : Heap} {w : World} {T e : TypeId} {i : TypeInfo} {t : Ty} {len : Nat} {c : AVal} {parts : List (Nat × AVal)} {vals : Array (Nat × Value)} (rh : RH m μ H w) (hu : P.underlying T = some (.slice e)) (hi : P.info? e = some i)
  (hs : i.size = t.size) (hz : Q6i i t = true) (ht : t.size ≠ 0) (hlen : len * t.size ≤ 16777216) (hp : Q3V m μ parts vals.toList) (h : Q28 t.size (.vec t (List.replicate len t.zero)) parts = some c) (hvb : ∀ xs : List t.den, (AVal.vec t xs).isVb = true → e = 5) :
  ∃ u w' μ', (Instr.buildSlice T len vals).run P w = .ok u w' ∧ VRel m μ' (.vsl H.length) u ∧ Post m μ H w m μ' (H ++ [some c]) w' := by
 obtain ⟨z, hz1, hz2⟩ := Q4S hz
 have hzs : z.cells.size = t.size := by
  have := (Q1O m t).length
  rw [← hz2, Array.length_toList] at this; exact this
 have hrel := Q5o (Q1O m t) len
 have hl0 := hrel.length
 simp only [Ty.size] at hl0
 have harr1 : (Array.range (len * t.size)).map (fun j => z.cells[j % z.cells.size]!) = ((List.replicate len (Q2c t)).flatten).toArray := by
  apply Array.ext'
  rw [← hzs, Q2P, hz2]
 have harr0 : len * t.size = 0 → (Array.range (len * t.size)).map (fun j => (#[] : Array Value)[j % (#[] : Array Value).size]!) = ((List.replicate len (Q2c t)).flatten).toArray := by
  intro hn0
  have : (List.replicate len (Q2c t)).flatten = [] := List.eq_nil_of_length_eq_zero (by simp [(Q1O m t).length, hn0])
  rw [this, hn0]; simp
 obtain ⟨cells', hf, hc, hsh⟩ := Q6c (m := m) (μ := μ) parts vals.toList (.vec t (List.replicate len t.zero)) c ((List.replicate len (Q2c t)).flatten).toArray
  (by show DRel m (.arr _ t) _ _; rw [List.length_replicate]; simpa using hrel) hp h
 have hcl := hc.length
 simp only [AVal.size, Array.length_toList] at hcl
 have hsz : c.sh = .arr len t := by rw [hsh]; simp [AVal.sh]
 have hpo := rh.push (a := c) (cs := cells') (E := e) (fz := (0, 0)) (dr := w.drawn) (by omega) (fun j _ h => by omega) (by rw [← hcl, ← Array.length_toList, List.take_length]; exact hc) (fun hq => hvb _ (by rw [← Q8b parts h]; exact hq))
 refine ⟨.slice (some ⟨w.heap.size, 0, none⟩) len len, _, _, ?_, ?_, hpo⟩
 ·simp only [Instr.buildSlice, run_bind, Qa hu, Q0N (Q4i hi), hs]
  rw [if_neg (by omega)]
  rw [Q9s]
  split
  ·rename_i hn0
   simp only [run_bind, QP]
   rw [harr0 hn0]
   simp only [hf, Q3o, run_bind, QP]
  ·simp only [run_bind, QP, Q1y hi hz1]
   rw [harr1]
   simp only [hf, Q3o, run_bind, QP]
 ·have := Q7h (m := m) (μ := μ) (H := H) (w := w) (t := t) (n := len) (cap := len) (cs := cells') (E := e) (Nat.le_refl _) (by rw [hcl, hsz]; exact Nat.le_refl _)
  rw [hsz]
  exact this
theorem Q90 {P : Program} {m : Mem} {μ : LMap} {H : Heap} {w : World} {arr : TypeId} {x : AVal} {v : Value} {r : Res} (rh : RH m μ H w) (hx : VRel m μ x v)
  (h : Q5U P H arr x = some r) (hvc : r.vc = true) :
  r.H = H ∧ ∃ u, (Instr.arrayAt arr v).run P w = .ok u w ∧ VRel m μ r.v u := by
 unfold Q5U at h
 split at h
 ·rename_i n e t xs hu
  split at h
  ·cases h
  ·rename_i hn
   cases h
   simp only [decide_eq_true_eq] at hvc
   obtain ⟨a, cap, he, hcap, hd⟩ := hx.one rfl rfl
   cases he
   obtain ⟨ad, c0, rfl, hsp, hm0, _⟩ := hd 0 (by omega)
   refine ⟨rfl, .pointer (some ad), ?_, ?_⟩
   ·simp only [Instr.arrayAt, run_bind, Qa hu]
    rw [if_neg (by omega)]; rfl
   ·obtain ⟨cs, hmb, _, _⟩ := Q2v hm0
    have each : ∀ i, i < xs.length → ad.off + i * t.size + t.size ≤ cs.size ∧ DRel m t (xs.getD i t.zero) ((cs.toList.drop (ad.off + i * t.size)).take t.size) := by
     intro i hi
     obtain ⟨ad', c, e, _, hm, hdi⟩ := hd i hi
     cases e
     obtain ⟨cs', hmb', hle', hc'⟩ := Q2v hm
     rw [hmb] at hmb'
     cases hmb'
     subst hc'
     exact ⟨hle', hdi⟩
    have hlast := (each (n - 1) (by omega)).1
    have hkk : n * t.size = (n - 1) * t.size + t.size := by
     rw [← Nat.succ_mul]; congr 1; omega
    refine ⟨ad, (cs.toList.drop ad.off).take (n * t.size), rfl, hsp, ?_, ?_⟩
    ·show m.cells ad.block ad.off (n * t.size) = _
     simp only [Mem.cells, hmb]
     rw [if_pos (by omega)]
    ·simp only [DRel]
     refine ⟨by simp; omega, by simp; omega, fun i hi => ?_⟩
     have hmi : (i + 1) * t.size ≤ n * t.size := Nat.mul_le_mul_right _ hi
     rw [Nat.add_mul] at hmi
     rw [Q0Z _ _ _ _ _ (by omega)]
     have e1 : (xs.take n).getD i t.zero = xs.getD i t.zero := by
      simp only [List.getD_eq_getElem?_getD, List.getElem?_take, if_pos hi]
     rw [e1]
     exact (each i (by omega)).2
 ·rename_i n e id hu
  split at h
  ·rename_i t xs hi
   split at h
   ·cases h
   ·rename_i hn
    cases h
    simp only [decide_eq_true_eq] at hvc
    obtain ⟨l, a, cap, hl, hsh, hcap, rfl, ha⟩ := Q30 rh hi hx
    have ha' : a = some ⟨l.b, l.off, none⟩ := by
     rcases ha with ⟨h, _⟩ | h
     ·exact h
     ·omega
    subst ha'
    refine ⟨rfl, .pointer (some ⟨l.b, l.off, none⟩), ?_, ?_⟩
    ·simp only [Instr.arrayAt, run_bind, Qa hu]
     rw [if_neg (by omega)]; rfl
    ·exact ⟨l, 0, xs.length, t, hl, by simp only [Sh.offP, hsh], by omega, by simp⟩
  ·cases h
 ·rename_i n e id p off len hu
  split at h
  ·cases h
  ·rename_i hn
   cases h
   simp only [decide_eq_true_eq] at hvc
   obtain ⟨l, o, N, t, a, cap, hl, ho, hle, hlc, he, ha⟩ := hx.one rfl rfl
   cases he
   have ha' : a = some ⟨l.b, l.off + o + off * t.size, none⟩ := by
    rcases ha with ⟨h, _⟩ | h
    ·exact h
    ·omega
   subst ha'
   refine ⟨rfl, .pointer (some ⟨l.b, l.off + o + off * t.size, none⟩), ?_, ?_⟩
   ·simp only [Instr.arrayAt, run_bind, Qa hu]
    rw [if_neg (by omega)]; rfl
   ·exact ⟨l, o, N, t, hl, ho, by omega, rfl⟩
 ·cases h
theorem Qbd {m : Mem} {μ : LMap} : ∀ {s : AVal} {i : Nat} {x : AVal} {vs : List Value}, TRel m μ s vs → nthA s i = some x → ∃ v, vs[i]? = some v ∧ Q1k m μ x v
 | .pair a b, 0, x, vs, h, hn => by
  simp only [TRel] at h
  obtain ⟨v, r, rfl, hv, _⟩ := h
  simp only [nthA, Option.some.injEq] at hn
  subst hn
  exact ⟨v, rfl, hv⟩
 | .pair a b, i + 1, x, vs, h, hn => by
  simp only [TRel] at h
  obtain ⟨v, r, rfl, _, hr⟩ := h
  simp only [nthA] at hn
  obtain ⟨u, h1, h2⟩ := Qbd hr hn
  exact ⟨u, by simpa using h1, h2⟩
 | .unit, _, _, _, _, hn | .undef, _, _, _, _, hn | .int _ _, _, _, _, _, hn | .bool _, _, _, _, _, hn | .str _, _, _, _, _, hn | .nilp, _, _, _, _, hn | .ptr _ _, _, _, _, _, hn | .nils, _, _, _, _, hn
 | .sl _ _ _ _, _, _, _, _, hn | .ros _ _, _, _, _, _, hn | .rop _ _, _, _, _, _, hn | .arr _ _ _, _, _, _, _, hn | .vec _ _, _, _, _, _, hn | .vsl _, _, _, _, _, hn | .parr _ _ _ _, _, _, _, _, hn | .fn _ _, _, _, _, _, hn
 | .tup _, _, _, _, _, hn => by simp [nthA] at hn
theorem Q9V {m : Mem} {μ : LMap} {x : AVal} {v : Value} (h : Q1k m μ x v) : VRel m μ x v := by
 cases x <;> first | exact h | exact h.elim
theorem Does.ofVal {P : Program} {m : Mem} {μ : LMap} {H H' : Heap} {w : World} {s : Sem Value} {x : AVal} (h : ∃ u w' μ', s.run P w = .ok u w' ∧ VRel m μ' x u ∧ Post m μ H w m μ' H' w') : Does P m μ H w (do pure (.value (← s))) x H' := by
 obtain ⟨u, w', μ', h1, h2, h3⟩ := h
 exact ⟨.value u, u, w', μ', by simp only [run_bind, h1]; rfl, .inl rfl, h2, h3⟩
theorem Does.ofSame {P : Program} {m : Mem} {μ : LMap} {H H' : Heap} {w : World} {s : Sem Value} {x : AVal} (rh : RH m μ H w) (h : H' = H ∧ ∃ u, s.run P w = .ok u w ∧ VRel m μ x u) : Does P m μ H w (do pure (.value (← s))) x H' := by
 obtain ⟨rfl, u, h1, h2⟩ := h
 exact Does.val rh h1 h2
theorem Q7e {m : Mem} {μ : LMap} {sl : List AVal} {a : Act} (rs : RS m μ sl a) (o : Option Operand) : Q4g m μ (o.map (Q0i sl)) (o.map a.eval) := by
 cases o with
 | none => trivial
 | some x => exact Q04 rs x
theorem Q6q {m : Mem} {μ : LMap} {sl : List AVal} {a : Act} (rs : RS m μ sl a) : ∀ (l : List (Nat × Operand)), Q3V m μ (l.map fun p => (p.1, Q0i sl p.2)) (l.map fun p => (p.1, a.eval p.2))
 | [] => trivial
 | p :: l => ⟨rfl, Q04 rs p.2, Q6q rs l⟩
theorem Q9D {m : Mem} {μ : LMap} {sl : List AVal} {a : Act} (rs : RS m μ sl a) : ∀ (l : List Operand), (∀ x ∈ l, Q1N (Q0i sl x) = true ∧ (Q0i sl x).isAgg = false) →
  CRel m μ (l.foldr (fun x r => .pair (Q0i sl x) r) .unit) (l.map a.eval)
 | [], _ => rfl
 | x :: l, h => by
  have hx := h x (by simp)
  have h1 := (Q04 rs x).one hx.2 hx.1
  have h2 := Q9D rs l (fun y hy => h y (by simp [hy]))
  simp only [List.foldr_cons, List.map_cons, CRel]
  have hs : (Q0i sl x).size = 1 := by rw [AVal.size, Q50 hx.2]; rfl
  rw [hs]
  exact ⟨h1, h2⟩
end Go.Am
namespace Go.Am
open Go
theorem RH.map_mem {m : Mem} {μ : LMap} {H : Heap} {w : World} (h : RH m μ H w) {b : Nat} {es : Array MapEntry} {c : Nat} (hb : w.heap[b]? = some (.map es c)) : m b = none := by
 cases hm : m b with
 | none => rfl
 | some cs =>
  obtain ⟨E, fz, h1⟩ := h.mem b cs hm
  rw [hb] at h1; cases h1
theorem RH.mapNew {m : Mem} {μ : LMap} {H : Heap} {w : World} (h : RH m μ H w) (kt vt : Ty) :
  Post m μ H w m (fun i => if i = H.length then some ⟨w.heap.size, 0, .unit, 0, 0, true⟩ else μ i) (H ++ [some (.mpc kt vt [])]) { w with heap := w.heap.push (.map #[] 0) } := by
 have hdom : μ H.length = none := h.dom _ (Nat.le_refl _)
 have hμ : μ.le (fun j => if j = H.length then some ⟨w.heap.size, 0, .unit, 0, 0, true⟩ else μ j) := by
  intro j l' hl'
  show (if j = H.length then _ else μ j) = some l'
  rw [if_neg (fun e => by subst e; rw [hdom] at hl'; cases hl')]; exact hl'
 have hpush : ∀ b, b < w.heap.size → (w.heap.push (Obj.map #[] 0))[b]? = w.heap[b]? := fun b hb => by rw [Array.getElem?_push, if_neg (by omega)]
 have hnew : (w.heap.push (Obj.map #[] 0))[w.heap.size]? = some (Obj.map #[] 0) := by rw [Array.getElem?_push, if_pos rfl]
 refine ⟨⟨?_, ?_, ?_, ?_, ?_, ?_, ?_, ?_⟩, Mem.le_refl _, hμ, rfl, rfl, rfl, by show w.heap.size ≤ (w.heap.push _).size; simp, fun b hb _ => hpush b hb, ?_, fun _ _ h => .inl h, ⟨by simp, fun i hi h => by show (if i = H.length then _ else μ i) = none; rw [if_neg (by omega)]; exact h⟩⟩
 ·intro b cs hb
  obtain ⟨E, fz, h1⟩ := h.mem b cs hb
  exact ⟨E, fz, (hpush b (Q0Q h1)).trans h1⟩
 ·intro j x hj
  rcases Q0z hj with ⟨h1, h2⟩ | ⟨h1, h2⟩
  ·subst h1; subst h2
   exact ⟨⟨w.heap.size, 0, .unit, 0, 0, true⟩, by simp, rfl, .inl ⟨rfl, rfl, rfl, rfl⟩⟩
  ·obtain ⟨lj, hbj⟩ := h.blk j x h2
   refine ⟨lj, hμ _ _ hbj.loc, hbj.sh, ?_⟩
   rcases hbj.cells with ⟨p1, p2, p3, p4⟩ | ⟨p0, q1, c, E1, fz1, q2, q3⟩
   ·exact .inl ⟨p1, p2, p3, p4.mono (Mem.le_refl m) hμ⟩
   ·exact .inr ⟨p0, q1, c, E1, fz1, (hpush lj.b (Q0Q q2)).trans q2, q3.1, q3.2.1, q3.2.2.1, q3.2.2.2.mono (Mem.le_refl m) hμ⟩
 ·intro j k x y lj lk hj hk hlj hlk z1 z2 he
  rcases Q0z hj with ⟨h1, h2⟩ | ⟨h1, h2⟩
  ·subst h1
   simp only [if_true, Option.some.injEq] at hlj
   subst hlj; simp at z1
  ·rcases Q0z hk with ⟨h4, h5⟩ | ⟨h4, h5⟩
   ·subst h4
    simp only [if_true, Option.some.injEq] at hlk
    subst hlk; simp at z2
   ·have hlj : μ j = some lj := by simpa [Nat.ne_of_lt h1] using hlj
    have hlk : μ k = some lk := by simpa [Nat.ne_of_lt h4] using hlk
    exact h.inj j k x y lj lk h2 h5 hlj hlk z1 z2 he
 ·intro j hj
  simp only [List.length_append, List.length_cons, List.length_nil] at hj
  show (if j = H.length then _ else μ j) = none
  rw [if_neg (by omega)]; exact h.dom j (by omega)
 ·intro j x lj hj hlj hz
  rcases Q0z hj with ⟨h1, h2⟩ | ⟨h1, h2⟩
  ·subst h1
   simp only [if_true, Option.some.injEq] at hlj
   subst hlj; simp at hz
  ·have hlj : μ j = some lj := by simpa [Nat.ne_of_lt h1] using hlj
   obtain ⟨cs1, fz1, k1⟩ := h.typ j x lj h2 hlj hz
   exact ⟨cs1, fz1, (hpush lj.b (Q0Q k1)).trans k1⟩
 ·intro j x lj hj hx hlj hz
  rcases Q0z hj with ⟨h1, h2⟩ | ⟨h1, h2⟩
  ·subst h1
   simp only [if_true, Option.some.injEq] at hlj
   subst hlj; simp at hz
  ·have hlj : μ j = some lj := by simpa [Nat.ne_of_lt h1] using hlj
   exact h.vb j x lj h2 hx hlj hz
 ·intro j x lj hj hlj hpz
  rcases Q0z hj with ⟨h1, h2⟩ | ⟨h1, h2⟩
  ·subst h1; subst h2
   simp only [if_true, Option.some.injEq] at hlj
   subst hlj
   exact ⟨rfl, kt, vt, [], #[], 0, rfl, hnew, [], .refl _, by simp, ⟨rfl, fun i x e h1 => by simp at h1⟩, fun e he => by simp at he, by simp⟩
  ·have hlj : μ j = some lj := by simpa [Nat.ne_of_lt h1] using hlj
   obtain ⟨h0, kt', vt', xs, es, c, e1, e2, e3⟩ := h.mp j x lj h2 hlj hpz
   exact ⟨h0, kt', vt', xs, es, c, e1, (hpush lj.b (Q0Q e2)).trans e2, e3⟩
 ·have old : ∀ {k : Nat} {y : AVal} {lk : Loc}, k < H.length → H[k]? = some (some y) → μ k = some lk → lk.mp = true → lk.b < w.heap.size := by
   intro k y lk _ h2 hlk pk
   obtain ⟨_, _, _, _, es, c, _, e2, _⟩ := h.mp k y lk h2 hlk pk
   exact Q0Q e2
  intro j k x y lj lk hj hk pj pk hlj hlk he
  rcases Q0z hj with ⟨h1, h2⟩ | ⟨h1, h2⟩
  ·rcases Q0z hk with ⟨h4, h5⟩ | ⟨h4, h5⟩
   ·omega
   ·subst h1
    simp only [if_true, Option.some.injEq] at hlj
    have hlk : μ k = some lk := by simpa [Nat.ne_of_lt h4] using hlk
    have := old h4 h5 hlk pk
    subst hlj; simp only at he; omega
  ·rcases Q0z hk with ⟨h4, h5⟩ | ⟨h4, h5⟩
   ·subst h4
    simp only [if_true, Option.some.injEq] at hlk
    have hlj : μ j = some lj := by simpa [Nat.ne_of_lt h1] using hlj
    have := old h1 h2 hlj pj
    subst hlk; simp only at he; omega
   ·have hlj : μ j = some lj := by simpa [Nat.ne_of_lt h1] using hlj
    have hlk : μ k = some lk := by simpa [Nat.ne_of_lt h4] using hlk
    exact h.mpi j k x y lj lk h2 h5 pj pk hlj hlk he
 ·rintro b' ⟨j, x, lj, hj, hlj, q, he⟩ hb
  rcases Q0z hj with ⟨h1, h2⟩ | ⟨h1, h2⟩
  ·subst h1
   simp only [if_true, Option.some.injEq] at hlj
   subst hlj; simp only at he; omega
  ·have hlj : μ j = some lj := by simpa [Nat.ne_of_lt h1] using hlj
   exact ⟨j, x, lj, h2, hlj, q, he⟩
theorem RH.mapPut {m : Mem} {μ : LMap} {H : Heap} {w : World} (h : RH m μ H w) {id : Nat} {kt vt : Ty} {xs xs' : List (kt.den × vt.den)} {l : Loc} {es es' : Array MapEntry} {c c' : Nat} (hi : H[id]? = some (some (.mpc kt vt xs)))
  (hl : μ id = some l) (hp : l.mp = true) (hw : w.heap[l.b]? = some (.map es c)) (hr : Q2t m kt vt xs' es'.toList c') :
  Post m μ H w m μ (H.set id (some (.mpc kt vt xs'))) { w with heap := w.heap.setIfInBounds l.b (.map es' c') } := by
 have hil : id < H.length := (List.getElem?_eq_some_iff.1 hi).1
 have hlt := Q0Q hw
 have keep : ∀ b, b ≠ l.b → (w.heap.setIfInBounds l.b (Obj.map es' c'))[b]? = w.heap[b]? := fun b hb => by simp [Ne.symm hb]
 have here : (w.heap.setIfInBounds l.b (Obj.map es' c'))[l.b]? = some (Obj.map es' c') := by simp [hlt]
 have look : ∀ {j : Nat} {x : AVal}, (H.set id (some (.mpc kt vt xs')))[j]? = some (some x) → (j = id ∧ x = .mpc kt vt xs') ∨ (j ≠ id ∧ H[j]? = some (some x)) := by
  intro j x hj
  by_cases hji : j = id
  ·subst hji; rw [List.getElem?_set_self hil] at hj; exact .inl ⟨rfl, (Option.some.inj (Option.some.inj hj)).symm⟩
  ·rw [List.getElem?_set_ne (Ne.symm hji)] at hj; exact .inr ⟨hji, hj⟩
 have old : ∀ {j : Nat} {x : AVal}, (H.set id (some (.mpc kt vt xs')))[j]? = some (some x) → ∃ y, H[j]? = some (some y) := by
  intro j x hj
  rcases look hj with ⟨h1, _⟩ | ⟨_, h1⟩
  ·subst h1; exact ⟨_, hi⟩
  ·exact ⟨x, h1⟩
 have h0 := (h.mp id _ l hi hl hp).1
 obtain ⟨l', hb⟩ := h.blk id _ hi
 have hll : l' = l := Option.some.inj (hb.loc.symm.trans hl)
 subst hll
 have hoff : l'.off = 0 := by
  rcases hb.cells with g | g
  ·exact g.2.1
  ·omega
 have ncell : ∀ {b : Nat} {cs : Array Value} {E : TypeId} {fz : Nat × Nat}, w.heap[b]? = some (.cells cs E fz) → b ≠ l'.b := fun h1 e => by subst e; rw [hw] at h1; cases h1
 refine ⟨⟨?_, ?_, ?_, ?_, ?_, ?_, ?_, ?_⟩, Mem.le_refl _, LMap.le_refl _, rfl, rfl, rfl, by show w.heap.size ≤ (w.heap.setIfInBounds _ _).size; simp, ?_, ?_, fun _ _ h => .inl h, ⟨by simp, fun _ _ h => h⟩⟩
 ·intro b cs hb'
  obtain ⟨E1, fz1, h1⟩ := h.mem b cs hb'
  exact ⟨E1, fz1, (keep b (ncell h1)).trans h1⟩
 ·intro j x hj
  rcases look hj with ⟨h1, h2⟩ | ⟨h1, h2⟩
  ·subst h1; subst h2
   exact ⟨l', hl, hb.sh, .inl ⟨h0, hoff, rfl, rfl⟩⟩
  ·obtain ⟨lj, hbj⟩ := h.blk j x h2
   refine ⟨lj, hbj.loc, hbj.sh, ?_⟩
   rcases hbj.cells with g | ⟨p0, q1, cs, E1, fz1, q2, q3⟩
   ·exact .inl g
   ·exact .inr ⟨p0, q1, cs, E1, fz1, (keep lj.b (ncell q2)).trans q2, q3⟩
 ·intro j k x y lj lk hj hk hlj hlk p1 p2 he
  obtain ⟨x', hx'⟩ := old hj
  obtain ⟨y', hy'⟩ := old hk
  exact h.inj j k x' y' lj lk hx' hy' hlj hlk p1 p2 he
 ·intro j hj; rw [List.length_set] at hj; exact h.dom j hj
 ·intro j x lj hj hlj hz
  obtain ⟨x', hx'⟩ := old hj
  obtain ⟨cs1, fz1, k1⟩ := h.typ j x' lj hx' hlj hz
  exact ⟨cs1, fz1, (keep lj.b (ncell k1)).trans k1⟩
 ·intro j x lj hj hx hlj hz
  rcases look hj with ⟨h1, h2⟩ | ⟨h1, h2⟩
  ·subst h1; subst h2
   cases hx
  ·exact h.vb j x lj h2 hx hlj hz
 ·intro j x lj hj hlj hpz
  rcases look hj with ⟨h1, h2⟩ | ⟨h1, h2⟩
  ·subst h1; subst h2
   have e : lj = l' := Option.some.inj (hlj.symm.trans hl)
   subst e
   exact ⟨h0, kt, vt, xs', es', c', rfl, here, hr⟩
  ·obtain ⟨g0, kt', vt', ys, es1, c1, e1, e2, e3⟩ := h.mp j x lj h2 hlj hpz
   exact ⟨g0, kt', vt', ys, es1, c1, e1, (keep lj.b (fun e => h1 (h.mpi j id x _ lj l' h2 hi hpz hp hlj hl e))).trans e2, e3⟩
 ·intro j k x y lj lk hj hk pj pk hlj hlk he
  obtain ⟨x', hx'⟩ := old hj
  obtain ⟨y', hy'⟩ := old hk
  exact h.mpi j k x' y' lj lk hx' hy' pj pk hlj hlk he
 ·intro b _ ho
  exact keep b (fun e => ho ⟨id, _, l', hi, hl, .inr hp, e.symm⟩)
 ·rintro b ⟨j, x, lj, hj, hlj, q, he⟩ _
  obtain ⟨x', hx'⟩ := old hj
  exact ⟨j, x', lj, hx', hlj, q, he⟩
end Go.Am
namespace Go.Am
open Go
theorem Qcm {s t : ByteArray} : Q3W s t = true ↔ s = t := by
 unfold Q3W
 rw [beq_iff_eq]
 constructor
 ·intro h
  rw [ByteArray.toList_eq, ByteArray.toList_eq] at h
  cases s; cases t
  simpa using h
 ·rintro rfl; rfl
theorem Q7f : ∀ {t : Ty} (x y : t.den), keyB t = true → ∃ r, eqD t x y = some r ∧ (r = true ↔ x = y)
 | .int _, x, y, _ => ⟨_, rfl, by simp⟩
 | .bool, x, y, _ => ⟨_, rfl, by simp⟩
 | .str, x, y, _ => ⟨_, rfl, Qcm⟩
 | .unit, x, y, _ => ⟨_, rfl, by simp⟩
 | .pair a b, x, y, h => by
  simp only [keyB, Bool.and_eq_true] at h
  obtain ⟨p, h1, h2⟩ := Q7f x.1 y.1 h.1
  obtain ⟨q, h3, h4⟩ := Q7f x.2 y.2 h.2
  refine ⟨p && q, by simp only [eqD, h1, h3, Option.bind_some], ?_⟩
  rw [Bool.and_eq_true, h2, h4]
  constructor
  ·rintro ⟨e1, e2⟩; exact Prod.ext e1 e2
  ·intro e; rw [e]; exact ⟨rfl, rfl⟩
 | .arr n (.int k), x, y, _ => ⟨_, rfl, by simp⟩
 | .arr _ .bool, _, _, h | .arr _ .str, _, _, h | .arr _ .unit, _, _, h | .arr _ (.pair _ _), _, _, h | .arr _ (.arr _ _), _, _, h | .arr _ (.sl _), _, _, h | .sl _, _, _, h => by simp [keyB] at h
theorem Q7I {t : Ty} (x y : t.den) (h : keyB t = true) : eqD t x y = some (eqK t x y) := by
 obtain ⟨r, h1, _⟩ := Q7f x y h
 unfold eqK
 rw [h1]; rfl
theorem Q3I {t : Ty} {x y : t.den} (h : keyB t = true) : eqK t x y = true ↔ x = y := by
 obtain ⟨r, h1, h2⟩ := Q7f x y h
 unfold eqK
 rw [h1]; exact h2
theorem Q9g : ∀ {t : Ty} (x y : t.den), keyB t = true → eqA (toA t x) (toA t y) = some (eqK t x y)
 | .int _, x, y, _ => by simp [toA, eqA, eqK, eqD]
 | .bool, x, y, _ => by simp [toA, eqA, eqK, eqD]
 | .str, x, y, _ => by simp [toA, eqA, eqK, eqD]
 | .unit, x, y, _ => by simp [toA, eqA, eqK, eqD]
 | .pair a b, x, y, h => by
  have h' := h
  simp only [keyB, Bool.and_eq_true] at h
  have e := Q7I (t := .pair a b) x y h'
  simp only [eqD, Q7I _ _ h.1, Q7I _ _ h.2, Option.bind_some] at e
  rw [← e]
  simp only [toA, eqA, Q9g x.1 y.1 h.1, Q9g x.2 y.2 h.2, Option.bind_some]
 | .arr n (.int k), x, y, _ => by simp [toA, eqA, eqK, eqD]
 | .arr _ .bool, _, _, h | .arr _ .str, _, _, h | .arr _ .unit, _, _, h | .arr _ (.pair _ _), _, _, h | .arr _ (.arr _ _), _, _, h | .arr _ (.sl _), _, _, h | .sl _, _, _, h => by simp [keyB] at h
theorem DV.rel {m : Mem} {μ : LMap} {t : Ty} {x : t.den} {v : Value} (h : DV m t x v) : VRel m μ (toA t x) v := by
 have h0 : Q1k m μ (toA t x) v := by
  unfold DV Q1k at *
  cases ha : toA t x <;> rw [ha] at h <;> first | exact h | skip
  all_goals
   simp only at h ⊢
   split at h
   ·obtain ⟨cs, h1, h2⟩ := h
    rw [if_pos ‹_›]
    refine ⟨cs, h1, ?_⟩
    rw [← ha] at h2 ⊢
    exact Q1n.2 (Q1n.1 h2)
   ·rw [if_neg ‹_›]
    rw [← ha] at h ⊢
    exact Q1n.2 (Q1n.1 h)
 exact Q9V h0
theorem DV.of {m : Mem} {μ : LMap} {t : Ty} {a : AVal} {x : t.den} {v : Value} (h : Q12 t a = some x) (hv : VRel m μ a v) : DV m t x v := by
 have hag : a.isAgg = (toA t x).isAgg := by cases t <;> cases a <;> simp_all [Q12, toA, AVal.isAgg]
 have hne : ∀ s, a ≠ .tup s := by rintro s rfl; cases t <;> simp [Q12] at h
 have hnu : a ≠ .undef := by rintro rfl; cases t <;> simp [Q12] at h
 have hr : ∀ {cs : List Value}, CRel m μ a cs → DRel m t x cs := fun hc => (Q1Y (m := m) (μ := μ) h).2 hc
 have tne : toA t x ≠ .undef ∧ ∀ s, toA t x ≠ .tup s := by cases t <;> simp [toA]
 unfold DV
 cases hb : a.isAgg with
 | true =>
  obtain ⟨cs, rfl, hc⟩ := hv.agg hb
  rw [hb] at hag
  have := hr hc
  have h2 : CRel m (fun _ => none) (toA t x) cs.toList := Q1n.2 this
  unfold Q1k
  split
  ·trivial
  ·exact absurd ‹_› (tne.2 _)
  ·rw [if_pos hag.symm]; exact ⟨cs, rfl, h2⟩
 | false =>
  rw [hb] at hag
  have h1 : CRel m μ a [v] := by
   cases a <;> first | (cases hb; done) | exact hv | exact absurd rfl hnu | exact absurd rfl (hne _)
  have h2 : CRel m (fun _ => none) (toA t x) [v] := Q1n.2 (hr h1)
  unfold Q1k
  split
  ·trivial
  ·exact absurd ‹_› (tne.2 _)
  ·rw [if_neg (by rw [← hag]; simp)]; exact h2
theorem DV.cases {m : Mem} {t : Ty} {x : t.den} {v : Value} (h : DV m t x v) : (∃ cs, v = .agg cs ∧ (toA t x).isAgg = true ∧ DRel m t x cs.toList) ∨ ((toA t x).isAgg = false ∧ DRel m t x [v]) := by
 have h' := h.rel (μ := fun _ => none)
 cases hb : (toA t x).isAgg with
 | true =>
  obtain ⟨cs, e, hc⟩ := h'.agg hb
  exact .inl ⟨cs, e, rfl, Q1n.1 hc⟩
 | false =>
  refine .inr ⟨rfl, ?_⟩
  have hok : Q1N (toA t x) = true := by cases t <;> first | rfl | (cases hb; done)
  exact Q1n.1 (h'.one hb hok)
def litV : Value → Bool
 | .int _ _ => true
 | .bool _ => true
 | .string _ => true
 | _ => false
theorem DRel.lits {m : Mem} : ∀ {t : Ty} {x : t.den} {cs : List Value}, keyB t = true → DRel m t x cs → ∀ v ∈ cs, litV v = true
 | .int _, _, _, _, h => by simp only [DRel] at h; subst h; simp [litV]
 | .bool, _, _, _, h => by simp only [DRel] at h; subst h; simp [litV]
 | .str, _, _, _, h => by simp only [DRel] at h; subst h; simp [litV]
 | .unit, _, _, _, h => by simp only [DRel] at h; subst h; simp
 | .pair a b, x, cs, hk, h => by
  simp only [keyB, Bool.and_eq_true] at hk
  simp only [DRel] at h
  intro v hv
  rw [← List.take_append_drop a.size cs, List.mem_append] at hv
  rcases hv with hv | hv
  ·exact DRel.lits hk.1 h.1 v hv
  ·exact DRel.lits hk.2 h.2 v hv
 | .arr n (.int k), xs, cs, hk, h => by
  simp only [DRel, Ty.size, Nat.mul_one] at h
  intro v hv
  obtain ⟨i, hi, rfl⟩ := List.mem_iff_getElem.1 hv
  have := h.2.2 i (by omega)
  rw [List.drop_eq_getElem_cons hi] at this
  simp only [List.take_succ_cons, List.take_zero, List.cons.injEq, and_true] at this
  rw [this]; rfl
 | .arr _ .bool, _, _, h, _ | .arr _ .str, _, _, h, _ | .arr _ .unit, _, _, h, _ | .arr _ (.pair _ _), _, _, h, _ | .arr _ (.arr _ _), _, _, h, _ | .arr _ (.sl _), _, _, h, _ | .sl _, _, _, h, _ => by simp [keyB] at h
theorem DRel.same {m : Mem} : ∀ {t : Ty} {x : t.den} {cs ds : List Value}, keyB t = true → DRel m t x cs → DRel m t x ds → cs = ds
 | .int _, _, _, _, _, h, g => by simp only [DRel] at h g; rw [h, g]
 | .bool, _, _, _, _, h, g => by simp only [DRel] at h g; rw [h, g]
 | .str, _, _, _, _, h, g => by simp only [DRel] at h g; rw [h, g]
 | .unit, _, _, _, _, h, g => by simp only [DRel] at h g; rw [h, g]
 | .pair a b, x, cs, ds, hk, h, g => by
  simp only [keyB, Bool.and_eq_true] at hk
  simp only [DRel] at h g
  rw [← List.take_append_drop a.size cs, ← List.take_append_drop a.size ds, DRel.same hk.1 h.1 g.1, DRel.same hk.2 h.2 g.2]
 | .arr n (.int k), xs, cs, ds, hk, h, g => by
  simp only [DRel, Ty.size, Nat.mul_one] at h g
  refine List.ext_getElem (by omega) fun i a b => ?_
  have h1 := h.2.2 i (by omega)
  have g1 := g.2.2 i (by omega)
  rw [List.drop_eq_getElem_cons a] at h1
  rw [List.drop_eq_getElem_cons b] at g1
  simp only [List.take_succ_cons, List.take_zero, List.cons.injEq, and_true] at h1 g1
  rw [h1, g1]
 | .arr _ .bool, _, _, _, h, _, _ | .arr _ .str, _, _, _, h, _, _ | .arr _ .unit, _, _, _, h, _, _ | .arr _ (.pair _ _), _, _, _, h, _, _ | .arr _ (.arr _ _), _, _, _, h, _, _ | .arr _ (.sl _), _, _, _, h, _, _ | .sl _, _, _, _, h, _, _ => by simp [keyB] at h
theorem DV.same {m : Mem} {t : Ty} {x : t.den} {v u : Value} (hk : keyB t = true) (h : DV m t x v) (g : DV m t x u) : v = u := by
 rcases h.cases with ⟨cs, rfl, h1, h2⟩ | ⟨h1, h2⟩
 ·rcases g.cases with ⟨ds, rfl, _, g2⟩ | ⟨g1, _⟩
  ·have := DRel.same hk h2 g2
   rw [Array.toList_inj.1 this]
  ·rw [h1] at g1; cases g1
 ·rcases g.cases with ⟨ds, _, g1, _⟩ | ⟨_, g2⟩
  ·rw [h1] at g1; cases g1
  ·exact (List.cons.inj (DRel.same hk h2 g2)).1
theorem Q8L (n : Nat) {v : Value} (h : litV v = true) : Instr.sameBits n v v = true := by
 cases v <;> first | (cases h; done) | skip
 ·cases n <;> simp [Instr.sameBits]
 ·cases n <;> simp [Instr.sameBits]
 ·cases n <;> simp [Instr.sameBits, MapKept.bytes_beq]
theorem Q8N {P : Program} {m : Mem} {t : Ty} {x : t.den} {v : Value} (w : World) (hk : keyB t = true) (h : DV m t x v) : (Instr.keyThatStays v v).run P w = .ok v w := by
 have : Instr.sameBits 10000 v v = true := by
  rcases h.cases with ⟨cs, rfl, _, h2⟩ | ⟨_, h2⟩
  ·have hl := h2.lits hk
   simp only [Instr.sameBits, beq_self_eq_true, Bool.true_and, List.all_eq_true]
   intro p hp
   obtain ⟨i, hi, rfl⟩ := List.mem_iff_getElem.1 hp
   rw [List.getElem_zip]
   simp only [List.length_zip, Nat.min_self] at hi
   exact Q8L _ (hl _ (List.getElem_mem _))
  ·exact Q8L _ (h2.lits hk v (by simp))
 simp [Instr.keyThatStays, this]
end Go.Am
set_option linter.unusedSimpArgs false
namespace Go.Am
open Go
theorem Q4l {P : Program} {m : Mem} {μ : LMap} {em : Bool} {d : Nat} {g : TypeId → AVal → Bool} (hg : ∀ T a x w, g T a = true → VRel m μ a x → (Instr.checkKey em d T x).run P w = .ok () w)
  (hag : ∀ T a, g T a = true → Q1H P T = some a.isAgg ∧ Q16 P T = some (P.cellsOf T)) :
  ∀ (fs : List Field) (off : Nat) (a : AVal) (cs : Array Value) (w : World), Q7u g P.cellsOf off fs a = true → CRel m μ a (cs.toList.drop off) → off + a.size = cs.size →
   (forIn fs PUnit.unit (fun (f : Field) (_ : PUnit) => (do
    if f.name ≠ "_" then
     Instr.checkKey em d f.type (← part f.type cs f.offset)
     pure (ForInStep.yield PUnit.unit)
    else pure (ForInStep.yield PUnit.unit) : Sem (ForInStep PUnit)))).run P w = .ok PUnit.unit w
 | [], off, a, cs, w, h, _, _ => rfl
 | f :: fs, off, a, cs, w, h, ha, hla => by
  cases a <;> simp [Q7u] at h
  rename_i a1 a2
  obtain ⟨⟨⟨⟨h1, h2⟩, h3⟩, h4⟩, h5⟩ := h
  simp only [AVal.size, AVal.sh, Sh.size] at hla
  simp only [CRel] at ha
  obtain ⟨g1, g2⟩ := hag _ _ h4
  rw [h3] at g2
  obtain ⟨x, hx1, hx2⟩ := Q4t (P := P) (m := m) (μ := μ) (T := f.type) (x := a1) (cs := cs) (o := off) w g1 g2 (by rw [AVal.size]; omega) ha.1
  have hr := hg _ _ _ w h4 hx2
  rw [List.forIn_cons]
  simp only [ne_eq, h1, not_false_eq_true, if_true, h2, run_bind, hx1, hr, QP]
  have ha2 := ha.2
  rw [List.drop_drop] at ha2
  exact Q4l hg hag fs (off + a1.size) a2 cs w h5 ha2 (by simp only [AVal.size]; omega)
theorem Q4Q {P : Program} {m : Mem} {em : Bool} {k : IntKind} {e : TypeId} {xs : List Int} {cs : Array Value} {n : Nat} (d : Nat) (hu : P.underlying e = some (.int k)) (hs : Q16 P e = some 1) (hx : DRel m (.arr n (.int k)) xs cs.toList) (w : World) :
  ∀ (l s : Nat), s + l = n → (forIn (List.range' s l) PUnit.unit (fun i (_ : PUnit) => (do
    Instr.checkKey em (d + 1) e (← part e cs (i * (← sizeOf e)))
    pure (ForInStep.yield PUnit.unit) : Sem (ForInStep PUnit)))).run P w = .ok PUnit.unit w
 | 0, s, _ => rfl
 | l + 1, s, h => by
  rw [List.range'_succ, List.forIn_cons]
  have hc : (Instr.checkKey em (d + 1) e (.int k (xs.getD s 0))).run P w = .ok () w := by
   rw [Instr.checkKey]
   simp only [run_bind, Qa hu]
   rfl
  simp only [run_bind, Q0N hs, Nat.mul_one, Q7Y hu hx (show s < n by omega), hc, QP]
  exact Q4Q d hu hs hx w l (s + 1) (by omega)
theorem Q2a {P : Program} {m : Mem} {μ : LMap} {em : Bool} : ∀ (n d : Nat) (T : TypeId) (a : AVal) (v : Value) (w : World), n + 1 ≤ d → eqTy P n T a = true → VRel m μ a v → (Instr.checkKey em d T v).run P w = .ok () w
 | 0, _, _, _, _, _, _, h, _ => by simp [eqTy] at h
 | n + 1, d, T, a, v, w, hd, h, hv => by
  obtain ⟨d, rfl⟩ : ∃ e, d = e + 1 := ⟨d - 1, by omega⟩
  simp only [eqTy] at h
  split at h
  ·rename_i b hu
   have e1 := hv.one rfl rfl
   cases e1
   rw [Instr.checkKey]
   simp only [run_bind, Qa hu]
   rfl
  ·rename_i k k' z hu
   have e1 := hv.one rfl rfl
   cases e1
   rw [Instr.checkKey]
   simp only [run_bind, Qa hu]
   rfl
  ·rename_i s hu
   have e1 := hv.one rfl rfl
   cases e1
   rw [Instr.checkKey]
   simp only [run_bind, Qa hu]
   rfl
  ·rename_i a fs hu
   simp only [Bool.and_eq_true, Bool.not_eq_true'] at h
   obtain ⟨⟨h1, h2⟩, h3⟩ := h
   obtain ⟨cs, rfl, hc⟩ := hv.agg h1
   rw [Instr.checkKey]
   simp only [run_bind, Qa hu]
   rw [← Array.forIn_toList]
   have l1 := hc.length
   have := Q4l (P := P) (m := m) (μ := μ) (em := em) (d := d) (g := eqTy P n) (fun T a x w h1 h2 => Q2a n d T a x w (by omega) h1 h2) (fun T a h => Qak h) fs.toList 0 _ cs w h3 (by simpa using hc) (by simpa using l1.symm)
   rw [this]
   rfl
  ·rename_i len e n' k xs hu
   simp only [Bool.and_eq_true, beq_iff_eq] at h
   obtain ⟨⟨rfl, h2⟩, h3⟩ := h
   split at h2
   ·rename_i k' hk
    simp only [decide_eq_true_eq] at h2
    subst h2
    obtain ⟨cs, rfl, hc⟩ := hv.agg rfl
    obtain ⟨d, rfl⟩ : ∃ e, d = e + 1 := ⟨d - 1, by omega⟩
    rw [Instr.checkKey]
    simp only [run_bind, Qa hu]
    rw [Std.Legacy.Range.forIn_eq_forIn_range']
    simp only [Std.Legacy.Range.size, Nat.sub_zero, Nat.add_sub_cancel, Nat.div_one]
    rw [Q4Q (em := em) d hk h3 hc w len 0 (by omega)]
    rfl
   ·cases h2
  ·cases h
def fnd {β : Type} (t : Ty) (k : t.den) : List (t.den × β) → Option Nat
 | [] => none
 | x :: l => bif eqK t k x.1 then some 0 else (fnd t k l).map (· + 1)
theorem Q4A {β : Type} {t : Ty} {k : t.den} : ∀ {l : List (t.den × β)} {j : Nat}, fnd t k l = some j → ∃ x, l[j]? = some x ∧ eqK t k x.1 = true ∧ mget t k l = some x.2 ∧ ∀ v, mset t k v l = l.set j (k, v) ∧ mdel t k l = l.eraseIdx j
 | x :: l, j, h => by
  simp only [fnd] at h
  cases c : eqK t k x.1 with
  | true =>
   rw [c] at h
   cases h
   exact ⟨x, rfl, c, by simp [mget, c], fun v => ⟨by simp [mset, c], by simp [mdel, c]⟩⟩
  | false =>
   rw [c] at h
   simp only [cond_false, Option.map_eq_some_iff] at h
   obtain ⟨i, h1, rfl⟩ := h
   obtain ⟨y, g1, g2, g3, g4⟩ := Q4A h1
   exact ⟨y, by simpa using g1, g2, by simp [mget, c, g3], fun v => ⟨by simp [mset, c, (g4 v).1], by simp [mdel, c, (g4 v).2]⟩⟩
theorem Q68 {β : Type} {t : Ty} {k : t.den} : ∀ {l : List (t.den × β)}, fnd t k l = none → mget t k l = none ∧ mdel t k l = l ∧ ∀ v, mset t k v l = l ++ [(k, v)]
 | [], _ => ⟨rfl, rfl, fun _ => rfl⟩
 | x :: l, h => by
  simp only [fnd] at h
  cases c : eqK t k x.1 with
  | true => rw [c] at h; cases h
  | false =>
   rw [c] at h
   simp only [cond_false, Option.map_eq_none_iff] at h
   obtain ⟨g1, g2, g3⟩ := Q68 h
   exact ⟨by simp [mget, c, g1], by simp [mdel, c, g2], fun v => by simp [mset, c, g3 v]⟩
theorem MRel.cons {m : Mem} {kt vt : Ty} {x : kt.den × vt.den} {xs : List (kt.den × vt.den)} {e : MapEntry} {es : List MapEntry} : MRel m kt vt (x :: xs) (e :: es) ↔ (DV m kt x.1 e.key ∧ DV m vt x.2 e.val) ∧ MRel m kt vt xs es := by
 constructor
 ·intro h
  exact ⟨h.2 0 x e rfl rfl, by simpa using h.1, fun i y f h1 h2 => h.2 (i + 1) y f (by simpa using h1) (by simpa using h2)⟩
 ·rintro ⟨h1, h2⟩
  refine ⟨by simp [h2.1], fun i y f g1 g2 => ?_⟩
  cases i with
  | zero => cases g1; cases g2; exact h1
  | succ i => exact h2.2 i y f (by simpa using g1) (by simpa using g2)
theorem Q4U {P : Program} {m : Mem} {kt vt : Ty} {K : TypeId} {k : kt.den} {kv : Value} (w : World) (hkb : keyB kt = true) (he : eqTy P 40 K (toA kt k) = true) (hk : DV m kt k kv) :
  ∀ (xs : List (kt.den × vt.den)) (es : List MapEntry) (i : Nat), MRel m kt vt xs es → (Instr.findAsking K kv es i).run P w = .ok ((fnd kt k xs).map fun j => (i + j, (es.getD j default).val)) w
 | [], es, i, h => by
  have : es = [] := List.eq_nil_of_length_eq_zero (by rw [h.1]; rfl)
  subst this
  rfl
 | x :: xs, es, i, h => by
  cases es with
  | nil => have := h.1; simp at this
  | cons e es =>
   rw [MRel.cons] at h
   have hr := Q6A (P := P) (m := m) (μ := fun _ => none) 40 10000 K _ _ _ kv e.key w (by decide) he (Q9g k x.1 hkb) hk.rel h.1.1.rel
   have hr' : (Op.equal K kv e.key).run P w = .ok (eqK kt k x.1) w := hr
   simp only [Instr.findAsking, run_bind, hr']
   simp only [fnd]
   cases c : eqK kt k x.1 with
   | true => simp [QP]
   | false =>
    simp only [Bool.false_eq_true, if_false, cond_false]
    rw [Q4U w hkb he hk xs es (i + 1) h.2]
    congr 1
    rw [Option.map_map]
    congr 1
    funext j
    simp only [Function.comp, List.getD_cons_succ]
    congr 1
    omega
theorem Q9G {P : Program} {m : Mem} {kt : Ty} {K : TypeId} {d : TypeDesc} {k : kt.den} (hu : P.underlying K = some d) (he : eqTy P 40 K (toA kt k) = true) (hkb : keyB kt = true) {kv : Value} (hk : DV m kt k kv) :
  (∀ (y : kt.den) (u : Value), DV m kt y u → Instr.sameNow d kv u = some (eqK kt k y)) ∨ (∀ (y : kt.den) (u : Value), DV m kt y u → Instr.sameNow d kv u = none) := by
 have agg : (toA kt k).isAgg = true → (∀ (y : kt.den) (u : Value), DV m kt y u → Instr.sameNow d kv u = none) := by
  intro ha y u _
  rcases hk.cases with ⟨cs, rfl, _, _⟩ | ⟨h1, _⟩
  ·cases d <;> rfl
  ·rw [ha] at h1; cases h1
 have one : ∀ {y : kt.den} {u : Value}, (toA kt y).isAgg = false → DV m kt y u → DRel m kt y [u] := by
  intro y u ha h
  rcases h.cases with ⟨_, _, h1, _⟩ | ⟨_, h2⟩
  ·rw [ha] at h1; cases h1
  ·exact h2
 unfold eqTy at he
 rw [hu] at he
 cases kt with
 | int q =>
  left
  intro y u h
  have e1 := one rfl hk
  have e2 := one rfl h
  cases e1; cases e2
  cases d <;> simp [toA, AVal.isAgg] at he
  simp [Instr.sameNow, eqK, eqD]
 | bool =>
  left
  intro y u h
  have e1 := one rfl hk
  have e2 := one rfl h
  cases e1; cases e2
  cases d <;> simp [toA, AVal.isAgg] at he
  simp [Instr.sameNow, eqK, eqD]
 | str =>
  left
  intro y u h
  have e1 := one rfl hk
  have e2 := one rfl h
  cases e1; cases e2
  cases d <;> simp [toA, AVal.isAgg] at he
  simp only [Instr.sameNow, eqK, eqD, Option.getD_some, Option.some.injEq]
  rw [Bool.eq_iff_iff, MapKept.bytes_beq, Qcm]
 | unit => exact .inr (agg rfl)
 | pair a b => exact .inr (agg rfl)
 | arr n t => exact .inr (agg rfl)
 | sl t => simp [keyB] at hkb
theorem Q73 {m : Mem} {kt vt : Ty} {d : TypeDesc} {k : kt.den} {kv : Value} (h1 : ∀ (y : kt.den) (u : Value), DV m kt y u → Instr.sameNow d kv u = some (eqK kt k y)) :
  ∀ (xs : List (kt.den × vt.den)) (es : List MapEntry) (i : Nat), MRel m kt vt xs es → Instr.findNow d kv es i = some ((fnd kt k xs).map fun j => (i + j, (es.getD j default).val))
 | [], es, i, h => by
  have : es = [] := List.eq_nil_of_length_eq_zero (by rw [h.1]; rfl)
  subst this
  rfl
 | x :: xs, es, i, h => by
  cases es with
  | nil => have := h.1; simp at this
  | cons e es =>
   rw [MRel.cons] at h
   simp only [Instr.findNow, h1 _ _ h.1.1, fnd]
   cases c : eqK kt k x.1 with
   | true => simp
   | false =>
    simp only [cond_false]
    rw [Q73 h1 xs es (i + 1) h.2]
    congr 1
    rw [Option.map_map]
    congr 1
    funext j
    simp only [Function.comp, List.getD_cons_succ]
    congr 1
    omega
theorem Q4F {P : Program} {m : Mem} {kt vt : Ty} {K : TypeId} {d : TypeDesc} {k : kt.den} {kv : Value} (w : World) (hu : P.underlying K = some d) (hkb : keyB kt = true) (he : eqTy P 40 K (toA kt k) = true) (hk : DV m kt k kv)
  {xs : List (kt.den × vt.den)} {es : List MapEntry} (h : MRel m kt vt xs es) : (Instr.findKey K kv es).run P w = .ok ((fnd kt k xs).map fun j => (j, (es.getD j default).val)) w := by
 unfold Instr.findKey
 simp only [run_bind, Qa hu]
 rcases Q9G hu he hkb hk with h1 | h1
 ·rw [Q73 h1 xs es 0 h]
  simp [QP]
 ·cases es with
  | nil =>
   have : xs = [] := List.eq_nil_of_length_eq_zero (by rw [← h.1]; rfl)
   subst this
   rfl
  | cons e es =>
   cases xs with
   | nil => have := h.1; simp at this
   | cons x xs =>
    have hx := (MRel.cons.1 h).1.1
    simp only [Instr.findNow, h1 _ _ hx]
    rw [Q4U w hkb he hk (x :: xs) (e :: es) 0 h]
    simp
section
variable {β : Type} {t : Ty}
theorem Q4z {x y : t.den} (h : keyB t = true) (hne : x ≠ y) : eqK t x y = false := by
 cases c : eqK t x y with
 | false => rfl
 | true => exact absurd ((Q3I h).1 c) hne
theorem QbE (h : keyB t = true) (k : t.den) {xs ys : List (t.den × β)} (hp : ys.Perm xs) : (ys.map fun x => x.1).Nodup → mget t k ys = mget t k xs := by
 induction hp with
 | nil => intro _; rfl
 | cons x _ ih =>
  intro hn
  rw [List.map_cons, List.nodup_cons] at hn
  simp only [mget, ih hn.2]
 | swap x y l =>
  intro hn
  simp only [List.map_cons, List.nodup_cons, List.mem_cons, not_or] at hn
  simp only [mget]
  cases c1 : eqK t k y.1 with
  | false => rfl
  | true =>
   have e1 := (Q3I h).1 c1
   have : eqK t k x.1 = false := Q4z h (fun e => hn.1.1 (e1.symm.trans e))
   rw [this]; rfl
 | trans h1 _ ih1 ih2 =>
  intro hn
  exact (ih1 hn).trans (ih2 ((h1.map _).nodup_iff.1 hn))
theorem Q6m (h : keyB t = true) (k : t.den) (v : β) {xs ys : List (t.den × β)} (hp : ys.Perm xs) : (ys.map fun x => x.1).Nodup → (mset t k v ys).Perm (mset t k v xs) := by
 induction hp with
 | nil => intro _; exact .refl _
 | cons x hp ih =>
  intro hn
  rw [List.map_cons, List.nodup_cons] at hn
  simp only [mset]
  cases eqK t k x.1 with
  | true => exact hp.cons _
  | false => exact (ih hn.2).cons _
 | swap x y l =>
  intro hn
  simp only [List.map_cons, List.nodup_cons, List.mem_cons, not_or] at hn
  simp only [mset]
  cases c1 : eqK t k y.1 with
  | false =>
   cases c2 : eqK t k x.1 with
   | false => exact .swap _ _ _
   | true => exact .swap _ _ _
  | true =>
   have e1 := (Q3I h).1 c1
   have : eqK t k x.1 = false := Q4z h (fun e => hn.1.1 (e1.symm.trans e))
   rw [this]; exact .swap _ _ _
 | trans h1 _ ih1 ih2 =>
  intro hn
  exact (ih1 hn).trans (ih2 ((h1.map _).nodup_iff.1 hn))
theorem Q8K (h : keyB t = true) (k : t.den) {xs ys : List (t.den × β)} (hp : ys.Perm xs) : (ys.map fun x => x.1).Nodup → (mdel t k ys).Perm (mdel t k xs) := by
 induction hp with
 | nil => intro _; exact .refl _
 | cons x hp ih =>
  intro hn
  rw [List.map_cons, List.nodup_cons] at hn
  simp only [mdel]
  cases eqK t k x.1 with
  | true => exact hp
  | false => exact (ih hn.2).cons _
 | swap x y l =>
  intro hn
  simp only [List.map_cons, List.nodup_cons, List.mem_cons, not_or] at hn
  simp only [mdel]
  cases c1 : eqK t k y.1 with
  | false =>
   cases c2 : eqK t k x.1 with
   | false => exact .swap _ _ _
   | true => exact .refl _
  | true =>
   have e1 := (Q3I h).1 c1
   have : eqK t k x.1 = false := Q4z h (fun e => hn.1.1 (e1.symm.trans e))
   rw [this]; exact .refl _
 | trans h1 _ ih1 ih2 =>
  intro hn
  exact (ih1 hn).trans (ih2 ((h1.map _).nodup_iff.1 hn))
theorem Q9Y (h : keyB t = true) (k : t.den) (v : β) : ∀ {l : List (t.den × β)} {y : t.den}, y ∈ (mset t k v l).map (fun x => x.1) → y = k ∨ y ∈ l.map fun x => x.1
 | [], y, hy => by simp [mset] at hy; exact .inl hy
 | x :: l, y, hy => by
  simp only [mset] at hy
  cases c : eqK t k x.1 with
  | true =>
   rw [c] at hy
   simp only [cond_true, List.map_cons, List.mem_cons] at hy
   rcases hy with hy | hy
   ·exact .inl hy
   ·exact .inr (by simp only [List.map_cons, List.mem_cons]; exact .inr hy)
  | false =>
   rw [c] at hy
   simp only [cond_false, List.map_cons, List.mem_cons] at hy
   rcases hy with hy | hy
   ·exact .inr (by simp only [List.map_cons, List.mem_cons]; exact .inl hy)
   ·rcases Q9Y h k v hy with g | g
    ·exact .inl g
    ·exact .inr (by simp only [List.map_cons, List.mem_cons]; exact .inr g)
theorem Q23 (h : keyB t = true) (k : t.den) (v : β) : ∀ {l : List (t.den × β)}, (l.map fun x => x.1).Nodup → ((mset t k v l).map fun x => x.1).Nodup
 | [], _ => by simp [mset]
 | x :: l, hn => by
  rw [List.map_cons, List.nodup_cons] at hn
  simp only [mset]
  cases c : eqK t k x.1 with
  | true =>
   rw [cond_true, List.map_cons, List.nodup_cons]
   rw [(Q3I h).1 c]
   exact hn
  | false =>
   rw [cond_false, List.map_cons, List.nodup_cons]
   refine ⟨fun hy => ?_, Q23 h k v hn.2⟩
   rcases Q9Y h k v hy with g | g
   ·rw [← g] at c
    rw [(Q3I h).2 rfl] at c; cases c
   ·exact hn.1 g
theorem Q9t (k : t.den) : ∀ {l : List (t.den × β)}, ((mdel t k l).map fun x => x.1).Sublist (l.map fun x => x.1)
 | [] => .refl _
 | x :: l => by
  simp only [mdel]
  cases eqK t k x.1 with
  | true => exact .cons _ (.refl _)
  | false => exact .cons_cons _ (Q9t k)
theorem Q80 (k : t.den) {l : List (t.den × β)} (hn : (l.map fun x => x.1).Nodup) : ((mdel t k l).map fun x => x.1).Nodup := hn.sublist (Q9t k)
end
end Go.Am
set_option linter.unusedSimpArgs false
namespace Go.Am
open Go
theorem Q2M {P : Program} {w : World} {r : Nat} {es : Array MapEntry} {c : Nat} (o : Obj) (h : w.heap[r]? = some (.map es c)) : (setObj r o).run P w = .ok () { w with heap := w.heap.setIfInBounds r o } := by
 simp only [setObj, Sem.run, h]
theorem Q2o {P : Program} {T : TypeId} {kt vt : Ty} (h : Q5r P T = some (kt, vt)) : ∃ K V, P.underlying T = some (.map K V) ∧ keyB kt = true := by
 unfold Q5r at h
 split at h
 ·rename_i K V hu
  obtain ⟨a, h1, h2⟩ := Option.bind_eq_some_iff.1 h
  obtain ⟨b, h3, h4⟩ := Option.bind_eq_some_iff.1 h2
  split at h4
  ·rename_i hk
   cases h4
   exact ⟨K, V, hu, hk⟩
  ·cases h4
 ·cases h
theorem Q5I {P : Program} {T K V : TypeId} {k : AVal} {vt : Ty} (hu : P.underlying T = some (.map K V)) (h : Q9X P T k vt = true) :
  eqTy P 40 K k = true ∧ ∃ i z, P.info? V = some i ∧ i.zero = some z ∧ z.cells.toList = Q2c vt ∧ Q8Y z = (toA vt vt.zero).isAgg := by
 unfold Q9X at h
 rw [hu] at h
 simp only [Bool.and_eq_true] at h
 obtain ⟨h1, h2⟩ := h
 refine ⟨h1, ?_⟩
 split at h2
 ·rename_i i hi
  simp only [Bool.and_eq_true] at h2
  obtain ⟨z, g1, g2⟩ := Q4S h2.1
  have h3 := h2.2
  rw [g1] at h3
  simp only [beq_iff_eq] at h3
  exact ⟨i, z, hi, g1, g2, h3⟩
 ·cases h2
theorem QcS {m : Mem} {vt : Ty} {z : Value} (h1 : z.cells.toList = Q2c vt) (h2 : Q8Y z = (toA vt vt.zero).isAgg) : DV m vt vt.zero z := by
 have hr := Q1O m vt
 rw [← h1] at hr
 have hc : CRel m (fun _ => none) (toA vt vt.zero) z.cells.toList := Q1n.2 hr
 have tne : toA vt vt.zero ≠ .undef ∧ ∀ s, toA vt vt.zero ≠ .tup s := by cases vt <;> simp [toA]
 unfold DV Q1k
 split
 ·trivial
 ·exact absurd ‹_› (tne.2 _)
 ·by_cases c : (toA vt vt.zero).isAgg = true
  ·rw [if_pos c]
   rw [c] at h2
   cases z <;> first | (cases h2; done) | exact ⟨_, rfl, hc⟩
  ·rw [if_neg c]
   have : Q8Y z = false := by rw [h2]; simpa using c
   cases z <;> first | (cases this; done) | exact hc
theorem Q7z {P : Program} {K : TypeId} {kt : Ty} {a : AVal} {k : kt.den} (hkb : keyB kt = true) (h : Q12 kt a = some k) (he : eqTy P 40 K a = true) : eqTy P 40 K (toA kt k) = true := by
  have : toA kt k = a := by
    have key : ∀ (t : Ty) (a : AVal) (x : t.den), keyB t = true → Q12 t a = some x → toA t x = a := by
      intro t
      induction t with
      | int q => intro a x _ h; cases a <;> simp only [Q12] at h <;> try (cases h; done)
                 split at h
                 · rename_i e; cases h; subst e; rfl
                 · cases h
      | bool => intro a x _ h; cases a <;> simp only [Q12] at h <;> first | (cases h; done) | (cases h; rfl)
      | str => intro a x _ h; cases a <;> simp only [Q12] at h <;> first | (cases h; done) | (cases h; rfl)
      | unit => intro a x _ h; cases a <;> simp only [Q12] at h <;> first | (cases h; done) | rfl
      | pair t1 t2 ih1 ih2 =>
        intro a x hk h
        simp only [keyB, Bool.and_eq_true] at hk
        cases a <;> simp only [Q12] at h <;> try (cases h; done)
        obtain ⟨u, g1, g2⟩ := Option.bind_eq_some_iff.1 h
        obtain ⟨v, g3, g4⟩ := Option.bind_eq_some_iff.1 g2
        cases g4
        simp only [toA, ih1 _ _ hk.1 g1, ih2 _ _ hk.2 g3]
      | arr n t ih =>
        intro a x hk h
        cases a <;> simp only [Q12] at h <;> try (cases h; done)
        split at h
        · rename_i e1
          split at h
          · rename_i e2
            subst e1; subst e2; cases h; rfl
          · cases h
        · cases h
      | sl t ih => intro a x hk h; simp [keyB] at hk
    exact key kt a k hkb h
  rw [this]; exact he
theorem Q8d {P : Program} {m : Mem} {μ : LMap} {H : Heap} {w : World} {T : TypeId} {o : Option AVal} {ov : Option Value} {r : Res} (rh : RH m μ H w) (ho : ∀ x, o = some x → ∃ v, ov = some v ∧ VRel m μ x v) (hn : o = none → ov = none) (h : Q3p P H T o = some r) :
  ∃ u w' μ', (Instr.makeMap T ov).run P w = .ok u w' ∧ VRel m μ' r.v u ∧ Post m μ H w m μ' r.H w' := by
 have fin : ∀ {kt vt : Ty}, Q5r P T = some (kt, vt) → ((∃ q z, ov = some (.int q z)) ∨ ov = none) →
   ∃ u w' μ', (Instr.makeMap T ov).run P w = .ok u w' ∧ VRel m μ' (.mp H.length) u ∧ Post m μ H w m μ' (H ++ [some (.mpc kt vt [])]) w' := by
  intro kt vt ht hv
  obtain ⟨K, V, hu, _⟩ := Q2o ht
  have hp := rh.mapNew kt vt
  refine ⟨.map (some w.heap.size), _, _, ?_, ⟨⟨w.heap.size, 0, .unit, 0, 0, true⟩, if_pos rfl, rfl, rfl⟩, hp⟩
  rcases hv with ⟨q, z, rfl⟩ | rfl
  ·simp only [Instr.makeMap, run_bind, Qa hu]
   rfl
  ·simp only [Instr.makeMap, run_bind]
   rfl
 unfold Q3p at h
 split at h
 ·rename_i kt vt ht
  cases h
  exact fin ht (.inr (hn rfl))
 ·rename_i kt vt q z ht
  cases h
  obtain ⟨v, hv, hr⟩ := ho _ rfl
  have e := hr.one rfl rfl
  cases e
  exact fin ht (.inl ⟨q, z, hv⟩)
 ·cases h
theorem Q94 {P : Program} {m : Mem} {μ : LMap} {H : Heap} {w : World} {T : TypeId} {x k : AVal} {vx vk : Value} {ok : Bool} {r : Res} (rh : RH m μ H w) (hx : VRel m μ x vx) (hk : VRel m μ k vk) (h : Q52 P H T x k ok = some r) :
  r.H = H ∧ ∃ u, (Instr.lookup T vx vk ok).run P w = .ok u w ∧ VRel m μ r.v u := by
 cases x <;> simp only [Q52] at h <;> try (cases h; done)
 rename_i id
 split at h
 ·rename_i kt vt xs hi
  split at h
  ·rename_i hok
   simp only [Bool.and_eq_true, decide_eq_true_eq] at hok
   obtain ⟨hT, hO⟩ := hok
   obtain ⟨key, hkey, h2⟩ := Option.bind_eq_some_iff.1 h
   cases h2
   obtain ⟨K, V, hu, hkb⟩ := Q2o hT
   obtain ⟨he, i, z, hz1, hz2, hz3, hz4⟩ := Q5I hu hO
   obtain ⟨l, es, c, hl, hp, rfl, hw, hm⟩ := Q4d rh hi hx
   have hkd := DV.of hkey hk
   have he' := Q7z hkb hkey he
   have hkt := (Q2o hT)
   have hKu : ∃ d, P.underlying K = some d := by
    unfold eqTy at he
    cases hd : P.underlying K with
    | none => rw [hd] at he; simp at he
    | some d => exact ⟨d, rfl⟩
   obtain ⟨d, hd⟩ := hKu
   have hck : (Instr.checkKey es.isEmpty 10000 K vk).run P w = .ok () w := Q2a 40 10000 K k vk w (by decide) he hk
   obtain ⟨ys, hpm, hnd, hm, _⟩ := hm
   have hmg := QbE hkb key hpm hnd
   have hf := Q4F w hd hkb he' hkd hm
   refine ⟨rfl, ?_⟩
   rw [← hmg]
   have hval : ∃ u, DV m vt ((mget kt key ys).getD vt.zero) u ∧ (Instr.lookup T (.map (some l.b)) vk ok).run P w = .ok (if ok = true then .tuple #[u, .bool (mget kt key ys).isSome] else u) w := by
    cases hq : fnd kt key ys with
    | none =>
     obtain ⟨g1, _, _⟩ := Q68 hq
     rw [hq] at hf
     refine ⟨z, ?_, ?_⟩
     ·rw [g1]; exact QcS hz3 hz4
     ·simp only [Instr.lookup, run_bind, Qa hu, Q1f hw, QP, hck, hf, Option.map_none, Q1y hz1 hz2, g1]
      rfl
    | some j =>
     obtain ⟨y, g1, g2, g3, _⟩ := Q4A hq
     rw [hq] at hf
     have hj : j < es.toList.length := by rw [hm.1]; exact (List.getElem?_eq_some_iff.1 g1).1
     have hgd : (es.toList.getD j default) = es.toList[j] := by rw [List.getD_eq_getElem?_getD, List.getElem?_eq_getElem hj]; rfl
     have hdv := (hm.2 j y es.toList[j] g1 (List.getElem?_eq_getElem hj)).2
     refine ⟨(es.toList.getD j default).val, ?_, ?_⟩
     ·rw [g3, hgd]; exact hdv
     ·simp only [Instr.lookup, run_bind, Qa hu, Q1f hw, QP, hck, hf, Option.map_some, g3]
      rfl
   obtain ⟨u, hd1, hd2⟩ := hval
   refine ⟨_, hd2, ?_⟩
   unfold mapV
   cases ok with
   | true =>
    simp only [if_true]
    refine ⟨_, rfl, u, [.bool (mget kt key ys).isSome], rfl, ?_, .bool _, [], rfl, rfl, rfl⟩
    have := hd1.rel (μ := μ)
    have tne : toA vt ((mget kt key ys).getD vt.zero) ≠ .undef ∧ ∀ s, toA vt ((mget kt key ys).getD vt.zero) ≠ .tup s := by cases vt <;> simp [toA]
    unfold VRel at this
    split at this
    ·exact absurd ‹_› (tne.2 _)
    ·exact this
   | false =>
    simp only [Bool.false_eq_true, if_false]
    exact hd1.rel
  ·cases h
 ·cases h
end Go.Am
set_option linter.unusedSimpArgs false
namespace Go.Am
open Go
theorem MRel.set {m : Mem} {kt vt : Ty} {xs : List (kt.den × vt.den)} {es : List MapEntry} (h : MRel m kt vt xs es) {j : Nat} {k : kt.den} {v : vt.den} {e : MapEntry} (he : DV m kt k e.key ∧ DV m vt v e.val) : MRel m kt vt (xs.set j (k, v)) (es.set j e) := by
 refine ⟨by rw [List.length_set, List.length_set]; exact h.1, fun i y f g1 g2 => ?_⟩
 by_cases hij : j = i
 ·subst hij
  have l1 : j < xs.length := by
   have := (List.getElem?_eq_some_iff.1 g1).1
   simpa using this
  rw [List.getElem?_set_self l1] at g1
  rw [List.getElem?_set_self (by rw [h.1]; exact l1)] at g2
  cases g1; cases g2
  exact he
 ·rw [List.getElem?_set_ne hij] at g1 g2
  exact h.2 i y f g1 g2
theorem MRel.push {m : Mem} {kt vt : Ty} {xs : List (kt.den × vt.den)} {es : List MapEntry} (h : MRel m kt vt xs es) {k : kt.den} {v : vt.den} {e : MapEntry} (he : DV m kt k e.key ∧ DV m vt v e.val) : MRel m kt vt (xs ++ [(k, v)]) (es ++ [e]) := by
 refine ⟨by simp [h.1], fun i y f g1 g2 => ?_⟩
 rcases Nat.lt_or_ge i xs.length with c | c
 ·rw [List.getElem?_append_left c] at g1
  rw [List.getElem?_append_left (by rw [h.1]; exact c)] at g2
  exact h.2 i y f g1 g2
 ·rw [List.getElem?_append_right c] at g1
  rw [List.getElem?_append_right (by rw [h.1]; exact c)] at g2
  rw [h.1] at g2
  have : i - xs.length = 0 := by
   have := (List.getElem?_eq_some_iff.1 g1).1
   simp at this
   omega
  rw [this] at g1 g2
  cases g1; cases g2
  exact he
theorem MRel.erase {m : Mem} {kt vt : Ty} {xs : List (kt.den × vt.den)} {es : List MapEntry} (h : MRel m kt vt xs es) (j : Nat) : MRel m kt vt (xs.eraseIdx j) (es.eraseIdx j) := by
 refine ⟨by rw [List.length_eraseIdx, List.length_eraseIdx, h.1], fun i y f g1 g2 => ?_⟩
 rw [List.getElem?_eraseIdx] at g1 g2
 split at g1
 ·rw [if_pos ‹_›] at g2; exact h.2 i y f g1 g2
 ·rw [if_neg ‹_›] at g2; exact h.2 (i + 1) y f g1 g2
theorem Q77 {P : Program} {m : Mem} {μ : LMap} {H : Heap} {w : World} {T : TypeId} {x k v : AVal} {vx vk vv : Value} {r : Res} (rh : RH m μ H w) (hx : VRel m μ x vx) (hk : VRel m μ k vk) (hv : VRel m μ v vv) (h : Q2N P H T x k v = some r) :
  r.v = .undef ∧ ∃ w', (Instr.mapUpdate T vx vk vv).run P w = .ok () w' ∧ Post m μ H w m μ r.H w' := by
 cases x <;> simp only [Q2N] at h <;> try (cases h; done)
 rename_i id
 split at h
 ·rename_i kt vt xs hi
  split at h
  ·rename_i hok
   simp only [Bool.and_eq_true, decide_eq_true_eq] at hok
   obtain ⟨hT, hO⟩ := hok
   obtain ⟨key, hkey, h2⟩ := Option.bind_eq_some_iff.1 h
   obtain ⟨val, hval, h3⟩ := Option.bind_eq_some_iff.1 h2
   cases h3
   obtain ⟨K, V, hu, hkb⟩ := Q2o hT
   obtain ⟨he, _⟩ := Q5I hu hO
   obtain ⟨l, es, c, hl, hp, rfl, hw, hm⟩ := Q4d rh hi hx
   have hkd := DV.of hkey hk
   have hvd := DV.of hval hv
   have he' := Q7z hkb hkey he
   have hKu : ∃ d, P.underlying K = some d := by
    unfold eqTy at he
    cases hd : P.underlying K with
    | none => rw [hd] at he; simp at he
    | some d => exact ⟨d, rfl⟩
   obtain ⟨d, hd⟩ := hKu
   have hck : (Instr.checkKey false 10000 K vk).run P w = .ok () w := Q2a 40 10000 K k vk w (by decide) he hk
   obtain ⟨ys, hpm, hnd, hm, hbn, hbd⟩ := hm
   have hf := Q4F w hd hkb he' hkd hm
   refine ⟨rfl, ?_⟩
   cases hq : fnd kt key ys with
   | none =>
    obtain ⟨_, _, g3⟩ := Q68 hq
    rw [hq] at hf
    have hnew : Q2t m kt vt (mset kt key val xs) (es.push { key := vk, val := vv, born := c }).toList (c + 1) := by
     have g3' := g3 val
     refine ⟨mset kt key val ys, Q6m hkb key val hpm hnd, Q23 hkb key val hnd, ?_, fun e he => ?_, ?_⟩
     ·rw [g3', Array.toList_push]
      exact hm.push ⟨hkd, hvd⟩
     ·rw [Array.toList_push] at he
      rcases List.mem_append.1 he with he | he
      ·exact Nat.lt_succ_of_lt (hbn e he)
      ·rw [List.mem_singleton] at he; subst he; exact Nat.lt_succ_self _
     ·rw [Array.toList_push, List.map_append, List.nodup_append]
      refine ⟨hbd, by simp, fun a ha b hb => ?_⟩
      obtain ⟨e, he, rfl⟩ := List.mem_map.1 ha
      simp only [List.map_cons, List.map_nil, List.mem_singleton] at hb
      subst hb
      exact Nat.ne_of_lt (hbn e he)
    refine ⟨_, ?_, rh.mapPut (c' := c + 1) hi hl hp hw hnew⟩
    simp only [Instr.mapUpdate, run_bind, Qa hu, Q1f hw, hck, hf, Option.map_none]
    exact Q2M _ hw
   | some j =>
    obtain ⟨y, g1, g2, _, g4⟩ := Q4A hq
    rw [hq] at hf
    have hj : j < es.toList.length := by rw [hm.1]; exact (List.getElem?_eq_some_iff.1 g1).1
    have hj' : j < es.size := by simpa using hj
    have hold := (hm.2 j y es.toList[j] g1 (List.getElem?_eq_getElem hj)).1
    have hky : key = y.1 := (Q3I hkb).1 g2
    have hsame : es[j].key = vk := by
     rw [← hky] at hold
     have := DV.same hkb hold hkd
     simpa using this
    have hst := Q8N (P := P) w hkb hkd
    have hnew : Q2t m kt vt (mset kt key val xs) (es.modify j fun e => { e with key := vk, val := vv }).toList c := by
     have e1 : (es.modify j fun e => { e with key := vk, val := vv }).toList = es.toList.set j { es[j] with key := vk, val := vv } := by
      apply List.ext_getElem?
      intro i
      rw [Array.getElem?_toList, Array.getElem?_modify]
      by_cases hij : j = i
      ·subst hij
       rw [if_pos rfl, List.getElem?_set_self hj, Array.getElem?_eq_getElem hj']
       rfl
      ·rw [if_neg hij, List.getElem?_set_ne hij, Array.getElem?_toList]
     refine ⟨mset kt key val ys, Q6m hkb key val hpm hnd, Q23 hkb key val hnd, ?_, fun e he => ?_, ?_⟩
     ·rw [(g4 val).1, e1]
      exact hm.set ⟨hkd, hvd⟩
     ·rw [e1] at he
      rcases List.mem_or_eq_of_mem_set he with he | he
      ·exact hbn e he
      ·subst he; exact hbn es[j] (by simp)
     ·rw [e1, List.map_set]
      have : (es.toList.map fun e => e.born).set j es[j].born = es.toList.map fun e => e.born := by
       apply List.ext_getElem?
       intro i
       by_cases hij : j = i
       ·subst hij
        rw [List.getElem?_set_self (by simpa using hj'), List.getElem?_map, List.getElem?_eq_getElem hj]
        simp
       ·rw [List.getElem?_set_ne hij]
      rw [this]; exact hbd
    refine ⟨_, ?_, rh.mapPut (c' := c) hi hl hp hw hnew⟩
    have hkk : (((es[j]?).map (·.key)).getD vk) = vk := by
     rw [Array.getElem?_eq_getElem hj']
     exact hsame
    simp only [Instr.mapUpdate, run_bind, Qa hu, Q1f hw, hck, hf, Option.map_some, hkk, hst]
    exact Q2M _ hw
  ·cases h
 ·cases h
theorem Q8Z {P : Program} {m : Mem} {μ : LMap} {H : Heap} {w : World} {T ty : TypeId} {x k : AVal} {vx vk : Value} {r : Res} {ats : Array TypeId} {as : Array Value} (rh : RH m μ H w) (hx : VRel m μ x vx) (hk : VRel m μ k vk) (h : Q5a P H T x k = some r)
  (hT0 : ats[0]? = some T) (hA0 : as[0]? = some vx) (hA1 : as[1]? = some vk) :
  ∃ u w' μ', (Builtin.delete_ ats ty as).run P w = .ok u w' ∧ VRel m μ' r.v u ∧ Post m μ H w m μ' r.H w' := by
 cases x <;> simp only [Q5a] at h <;> try (cases h; done)
 rename_i id
 split at h
 ·rename_i kt vt xs hi
  split at h
  ·rename_i hok
   simp only [Bool.and_eq_true, decide_eq_true_eq] at hok
   obtain ⟨hT, hO⟩ := hok
   obtain ⟨key, hkey, h2⟩ := Option.bind_eq_some_iff.1 h
   cases h2
   obtain ⟨K, V, hu, hkb⟩ := Q2o hT
   obtain ⟨he, _⟩ := Q5I hu hO
   obtain ⟨l, es, c, hl, hp, rfl, hw, hm⟩ := Q4d rh hi hx
   have hkd := DV.of hkey hk
   have he' := Q7z hkb hkey he
   have hKu : ∃ d, P.underlying K = some d := by
    unfold eqTy at he
    cases hd : P.underlying K with
    | none => rw [hd] at he; simp at he
    | some d => exact ⟨d, rfl⟩
   obtain ⟨d, hd⟩ := hKu
   have hck : (Instr.checkKey es.isEmpty 10000 K vk).run P w = .ok () w := Q2a 40 10000 K k vk w (by decide) he hk
   obtain ⟨ys, hpm, hnd, hm, hbn, hbd⟩ := hm
   have hf := Q4F w hd hkb he' hkd hm
   cases hq : fnd kt key ys with
   | none =>
    obtain ⟨_, g2, _⟩ := Q68 hq
    rw [hq] at hf
    have hnew : Q2t m kt vt (mdel kt key xs) es.toList c := ⟨mdel kt key ys, Q8K hkb key hpm hnd, Q80 key hnd, by rw [g2]; exact hm, hbn, hbd⟩
    refine ⟨.tuple #[], _, μ, ?_, ⟨#[], rfl, rfl⟩, rh.mapPut (c' := c) hi hl hp hw hnew⟩
    simp only [Builtin.delete_, hT0, hA0, hA1, run_bind, Qa hu, Q1f hw, hck, hf, Option.map_none, Q2M _ hw]
    rfl
   | some j =>
    obtain ⟨y, g1, g2, _, g4⟩ := Q4A hq
    rw [hq] at hf
    have hj : j < es.toList.length := by rw [hm.1]; exact (List.getElem?_eq_some_iff.1 g1).1
    have hj' : j < es.size := by simpa using hj
    have hnew : Q2t m kt vt (mdel kt key xs) (es.eraseIdxIfInBounds j).toList c := by
     have e1 : (es.eraseIdxIfInBounds j).toList = es.toList.eraseIdx j := by
      unfold Array.eraseIdxIfInBounds
      rw [dif_pos hj', Array.toList_eraseIdx]
     refine ⟨mdel kt key ys, Q8K hkb key hpm hnd, Q80 key hnd, ?_, fun e he => ?_, ?_⟩
     ·rw [(g4 y.2).2, e1]; exact hm.erase j
     ·rw [e1] at he; exact hbn e (List.mem_of_mem_eraseIdx he)
     ·rw [e1]; exact hbd.sublist ((List.eraseIdx_sublist _ _).map _)
    refine ⟨.tuple #[], _, μ, ?_, ⟨#[], rfl, rfl⟩, rh.mapPut (c' := c) hi hl hp hw hnew⟩
    simp only [Builtin.delete_, hT0, hA0, hA1, run_bind, Qa hu, Q1f hw, hck, hf, Option.map_some, Q2M _ hw]
    rfl
  ·cases h
 ·cases h
end Go.Am
namespace Go.Am
open Go
set_option maxHeartbeats 2000000 in
theorem Q9w {P : Program} {m : Mem} {μ : LMap} {sl : List AVal} {H : Heap} {w : World} {a : Act} {o : Oper} {r : Res} (rh : RH m μ H w) (rs : RS m μ sl a) (h : Q5m P sl H o = some r) (hvc : r.vc = true) :
  Does P m μ H w (execOp a.eval o) r.v r.H := by
 obtain ⟨dst, op, type, pos, after, guard⟩ := o
 unfold Q5m at h
 simp only at h
 split at h <;> simp only [execOp]
 ·cases h; exact Does.pureV rh (Q04 rs _)
 ·cases h; exact Does.pureV rh (Q04 rs _)
 ·rename_i c x y
  split at h
  ·rename_i t hc
   cases h
   have hv := Q04 rs c
   rw [hc] at hv
   have e' : a.eval c = .bool t := hv.isBool
   refine ⟨.value (if t then a.eval x else a.eval y), _, w, μ, ?_, .inl rfl, ?_, .refl rh⟩
   ·rw [e']; simp only [run_bind, asBool, QP]
   ·cases t
    ·exact Q04 rs y
    ·exact Q04 rs x
  ·cases h
 ·rename_i T
  cases hz : Q4s P T with
  | none => rw [hz] at h; cases h
  | some z =>
   rw [hz] at h
   cases h
   obtain ⟨i, zv, h1, h2, h3⟩ := Q6p (m := m) (μ := μ) hz
   have := Does.allocA T rh h3 (Qcr hz) (P := P)
   obtain ⟨nx, v, w', μ', q1, q2, q3, q4⟩ := this
   refine ⟨nx, v, w', μ', ?_, q2, q3, q4⟩
   rw [← q1]
   simp only [Instr.alloc, run_bind, Q1y h1 h2]
 ·rename_i T x
  split at h
  ·rename_i hok
   cases h
   exact Does.allocA T rh (Q34 (Q04 rs x) hok) (Q8T hok)
  ·cases h
 ·rename_i T parts
  cases hz : Q4s P T with
  | none => rw [hz] at h; cases h
  | some z =>
   rw [hz] at h
   simp only [Option.bind_some] at h
   split at h
   ·rename_i hok
    cases hb : Q4e P T z (parts.toList.map fun p => (p.1, Q0i sl p.2)) with
    | none => rw [hb] at h; cases h
    | some v =>
     rw [hb] at h
     cases h
     obtain ⟨u, h1, h2⟩ := Q9Q (P := P) (m := m) (μ := μ) (w := w) (vals := parts.map fun (i, x) => (i, a.eval x)) hz hok (by simpa using Q6q rs parts.toList) hb
     exact Does.val rh h1 h2
   ·cases h
 ·rename_i T len parts
  split at h
  ·rename_i e hu
   split at h
   ·rename_i t i ht hi
    split at h
    ·rename_i hok
     simp only [Bool.and_eq_true, beq_iff_eq, bne_iff_ne, decide_eq_true_eq] at hok
     obtain ⟨⟨⟨h1, h2⟩, h3⟩, h4⟩ := hok
     cases hb : Q28 t.size (.vec t (List.replicate len t.zero)) (parts.toList.map fun p => (p.1, Q0i sl p.2)) with
     | none => rw [hb] at h; cases h
     | some c =>
      rw [hb] at h
      cases h
      exact Does.ofVal (Q6H (vals := parts.map fun (i, x) => (i, a.eval x)) rh hu hi h1 h2 h3 h4 (by simpa using Q6q rs parts.toList) hb (fun _ h => Q6D ht h))
    ·cases h
   ·cases h
  ·cases h
 ·exact Does.ofSame rh (Q7L rh (Q04 rs _) h)
 ·rename_i T x y
  obtain ⟨hv, w', h1, h2⟩ := Q9C rh (Q04 rs x) (Q04 rs y) h
  refine ⟨.skip, undef, w', μ, by simp only [run_bind, h1, QP], .inr ⟨rfl, rfl⟩, by rw [hv]; trivial, h2⟩
 ·rename_i x
  have hv := Q04 rs x
  split at h
  ·rename_i i p hx
   cases h
   rw [hx] at hv
   obtain ⟨l, o, s, g1, g2, he⟩ := hv.one rfl rfl
   have e' : a.eval x = .pointer (some ⟨l.b, l.off + o, none⟩) := (List.cons.inj he).1
   rw [e']
   exact Does.pureV rh ⟨l, o, s, g1, g2, rfl⟩
  ·rename_i t y hx
   cases h
   rw [hx] at hv
   obtain ⟨ad, c, he, g⟩ := hv.one rfl rfl
   have e' : a.eval x = .pointer (some ad) := (List.cons.inj he).1
   rw [e']
   exact Does.pureV rh ⟨ad, c, rfl, g⟩
  ·rename_i f c hx
   cases h
   rw [hx] at hv
   obtain ⟨cap, he, g⟩ := hv.one rfl rfl
   have e' : a.eval x = .func (.func f) #[] cap := (List.cons.inj he).1
   rw [e']
   exact Does.pureV rh ⟨cap, rfl, g⟩
  ·cases h
 ·rename_i op T x y yT
  obtain ⟨hH, z, h1, h2⟩ := QaX (P := P) (w := w) (xo := x) (yo := y) rh (Q04 rs x) (Q04 rs y) h hvc
  rw [hH]
  exact Does.val rh h1 h2
 ·rename_i op T x
  cases hb : unA op (Q0i sl x) with
  | none => rw [hb] at h; cases h
  | some q =>
   rw [hb] at h
   cases h
   obtain ⟨u, h1, h2⟩ := QbD (P := P) w hb (Q04 rs x)
   exact Does.val rh h1 h2
 ·exact Does.ofVal (Q8i rh (Q04 rs _) h)
 ·exact Does.ofSame rh (Q90 rh (Q04 rs _) h hvc)
 ·rename_i f first caps
  split at h
  ·rename_i hok
   cases h
   simp only [Bool.and_eq_true] at hok
   obtain ⟨h1, h2⟩ := hok
   have hf : first.map a.eval = #[] := by
    have : first = #[] := by simpa using h1
    rw [this]; simp
   rw [hf]
   refine Does.val rh (v := .func (.func f) #[] (caps.map a.eval)) rfl ⟨caps.map a.eval, rfl, ?_⟩
   have := Q9D rs caps.toList (fun x hx => by
    have := List.all_eq_true.1 h2 x hx
    simp only [Bool.and_eq_true, Bool.not_eq_true'] at this
    exact this)
   simpa using this
  ·cases h
 ·exact Does.ofVal (Q75 rh (Q04 rs _) (Q04 rs _) h hvc)
 ·rename_i T x lo hi mx
  cases mx with
  | some q => exact Does.ofSame rh (Q9i rh (Q04 rs x) (Q7e rs lo) (Q7e rs hi) (Q04 rs q) h hvc)
  | none => exact Does.ofSame rh (Q9x rh (Q04 rs x) (Q7e rs lo) (Q7e rs hi) h hvc)
 ·exact Does.ofSame rh (Q76 rh (Q04 rs _) h)
 ·exact Does.ofSame rh (Q9M (Q04 rs _) h)
 ·exact Does.ofSame rh (Q74 rh (Q04 rs _) (Q04 rs _) h hvc)
 ·exact Does.ofSame rh (Qad (Q04 rs _) (Q04 rs _) h hvc)
 ·rename_i T o
  exact Does.ofVal (Q8d rh (fun x hx => by
   cases o with
   | none => cases hx
   | some q => simp only [Option.map_some, Option.some.injEq] at hx; subst hx; exact ⟨_, rfl, Q04 rs q⟩) (fun hx => by
   cases o with
   | none => rfl
   | some q => cases hx) h)
 ·exact Does.ofSame rh (Q94 rh (Q04 rs _) (Q04 rs _) h)
 ·rename_i T x k v
  obtain ⟨hv, w', h1, h2⟩ := Q77 rh (Q04 rs x) (Q04 rs k) (Q04 rs v) h
  refine ⟨.skip, undef, w', μ, by simp only [run_bind, h1, QP], .inr ⟨rfl, rfl⟩, by rw [hv]; trivial, h2⟩
 ·rename_i t i
  have hv := Q04 rs t
  split at h
  ·rename_i s hs
   rw [hs] at hv
   cases hn : nthA s i with
   | none => rw [hn] at h; cases h
   | some x =>
    rw [hn] at h
    cases h
    obtain ⟨vs, he, ht⟩ := hv
    obtain ⟨v, h1, h2⟩ := Qbd ht hn
    refine Does.val rh (v := v) ?_ (Q9V h2)
    rw [he]
    simp only [Instr.extract]
    have : vs[i]? = some v := by simpa using h1
    rw [this]; rfl
  ·cases h
 ·rename_i b args ats
  have hA : ∀ (i : Nat) (x : Operand), args.toList[i]? = some x → (args.map a.eval)[i]? = some (a.eval x) := by
   intro i x hx
   have : args[i]? = some x := by simpa using hx
   simp [Array.getElem?_map, this]
  have hT : ∀ (i : Nat) (T : TypeId), ats.toList[i]? = some T → ats[i]? = some T := by
   intro i T hx; simpa using hx
  split at h
  ·rename_i T tl x xl h1 h2
   have := QbP (ty := type) (ats := ats) (as := args.map a.eval) rh (Q04 rs x) h (hT 0 T (by rw [h1]; rfl)) (hA 0 x (by rw [h2]; rfl))
   exact Does.ofSame rh this
  ·rename_i T tl x k xl h1 h2
   exact Does.ofVal (Q8Z (ty := type) (ats := ats) (as := args.map a.eval) rh (Q04 rs x) (Q04 rs k) h (hT 0 T (by rw [h1]; rfl)) (hA 0 x (by rw [h2]; rfl)) (hA 1 k (by rw [h2]; rfl)))
  ·rename_i S X tl s x xl h1 h2
   exact Does.ofVal (Q9l (ats := ats) (as := args.map a.eval) type rh (Q04 rs s) (Q04 rs x) h hvc (hT 0 S (by rw [h1]; rfl)) (hT 1 X (by rw [h1]; rfl)) (hA 0 s (by rw [h2]; rfl)) (hA 1 x (by rw [h2]; rfl)))
  ·rename_i D tl d x xl h1 h2
   exact Does.ofVal (QaU (ats := ats) (as := args.map a.eval) type rh (Q04 rs d) (Q04 rs x) h (hT 0 D (by rw [h1]; rfl)) (hA 0 d (by rw [h2]; rfl)) (hA 1 x (by rw [h2]; rfl)))
  ·rename_i x y h2
   have hl : (args.map a.eval).toList = [a.eval x, a.eval y] := by simp [h2]
   have vx := Q04 rs x
   have vy := Q04 rs y
   split at h
   ·rename_i k p k' q hp hq
    split at h
    ·rename_i hk
     subst hk
     cases h
     rw [hp] at vx; rw [hq] at vy
     have e1 := vx.isInt
     have e2 := vy.isInt
     refine Does.val rh (v := .int k (if q < p then q else p)) ?_ rfl
     simp only [Builtin.min_, hl, e1, e2]
     rfl
    ·cases h
   ·cases h
  ·rename_i x y h2
   have hl : (args.map a.eval).toList = [a.eval x, a.eval y] := by simp [h2]
   have vx := Q04 rs x
   have vy := Q04 rs y
   split at h
   ·rename_i k p k' q hp hq
    split at h
    ·rename_i hk
     subst hk
     cases h
     rw [hp] at vx; rw [hq] at vy
     have e1 := vx.isInt
     have e2 := vy.isInt
     refine Does.val rh (v := .int k (if q > p then q else p)) ?_ rfl
     simp only [Builtin.max_, hl, e1, e2]
     rfl
    ·cases h
   ·cases h
  ·cases h
 ·cases h
end Go.Am
namespace Go.Am
open Go
theorem Qcx {sl sl2 : List AVal} {x : Operand} (h : ∀ t, x = .tmp t → sl2.getD t .undef = sl.getD t .undef) : Q0i sl2 x = Q0i sl x := by
 cases x <;> first | rfl | exact h _ rfl
theorem Q2q {P : Program} {sl sl2 : List AVal} {H : Heap} {o : Oper} (h : ∀ x ∈ o.op.operands, Q0i sl2 x = Q0i sl x) : Q5m P sl2 H o = Q5m P sl H o := by
 obtain ⟨dst, op, type, pos, after, guard⟩ := o
 have pairs : ∀ ps : Array (Nat × Operand), (∀ x, x ∈ (ps.toList.map (·.2)).toArray → Q0i sl2 x = Q0i sl x) →
   (ps.toList.map fun p => (p.1, Q0i sl2 p.2)) = (ps.toList.map fun p => (p.1, Q0i sl p.2)) := fun ps hp =>
  List.map_congr_left fun p hm => by
   rw [hp p.2 (by simp; exact ⟨p.1, by simpa using hm⟩)]
 cases op <;> simp only [Op.operands] at h <;> simp only [Q5m]
 case build t ps => rw [pairs ps h]
 case buildSlice t n ps => rw [pairs ps h]
 case makeFunc fn first captured =>
  cases fn <;> try rfl
  have hc : ∀ x ∈ captured.toList, Q0i sl2 x = Q0i sl x := fun x hx => h x (by simp at hx; simp [hx])
  have h1 : (captured.toList.all fun x => Q1N (Q0i sl2 x) && !(Q0i sl2 x).isAgg) = (captured.toList.all fun x => Q1N (Q0i sl x) && !(Q0i sl x).isAgg) := by
   rw [Bool.eq_iff_iff]
   simp only [List.all_eq_true]
   exact ⟨fun g x hx => by rw [← hc x hx]; exact g x hx, fun g x hx => by rw [hc x hx]; exact g x hx⟩
  have h2 : (captured.toList.foldr (fun x r => AVal.pair (Q0i sl2 x) r) .unit) = (captured.toList.foldr (fun x r => AVal.pair (Q0i sl x) r) .unit) := by
   have : ∀ l : List Operand, (∀ x ∈ l, Q0i sl2 x = Q0i sl x) → (l.foldr (fun x r => AVal.pair (Q0i sl2 x) r) .unit) = (l.foldr (fun x r => AVal.pair (Q0i sl x) r) .unit) := by
    intro l
    induction l with
    | nil => intro _; rfl
    | cons x l ih => intro g; simp only [List.foldr_cons]; rw [g x (by simp), ih fun y hy => g y (by simp [hy])]
   exact this _ hc
  dsimp only
  rw [h1, h2]
 case slice t x lo hi mx =>
  rw [h x (by simp)]
  have g : ∀ y : Option Operand, (∀ x ∈ y.toArray, Q0i sl2 x = Q0i sl x) → y.map (Q0i sl2) = y.map (Q0i sl) := by
   intro y hy; cases y with
   | none => rfl
   | some y => simp only [Option.map_some]; rw [hy y (by simp)]
  rw [g lo fun x hx => h x (by simp at hx; simp [hx]), g hi fun x hx => h x (by simp at hx; simp [hx])]
  cases mx with
  | none => rfl
  | some q => dsimp only; rw [h q (by simp)]
 case makeMap t r =>
  cases r with
  | none => rfl
  | some y => simp only [Option.map_some]; rw [h y (by simp)]
 case call c =>
  obtain ⟨callee, args, argTypes⟩ := c
  cases callee <;> try rfl
  rename_i b
  have hc : ∀ x ∈ args.toList, Q0i sl2 x = Q0i sl x := fun x hx => h x (by simp at hx; simp [Call.operands, hx])
  revert hc
  dsimp only
  generalize args.toList = l
  intro hc
  generalize argTypes.toList = ts
  rcases l with _ | ⟨y, _ | ⟨z, _ | ⟨u, l⟩⟩⟩ <;> rcases ts with _ | ⟨S, _ | ⟨X, ts⟩⟩ <;> cases b <;> try rfl
  all_goals dsimp only
  all_goals first
   | done
   | rfl
   | (have e1 := hc _ (.head _); rw [e1]; done)
   | (have e1 := hc _ (.head _); have e2 := hc _ (.tail _ (.head _)); rw [e1, e2]; done)
   | (have e1 := hc _ (.head _); have e2 := hc _ (.tail _ (.head _)); simp only [e1, e2]; done)
 all_goals first | rfl | (simp_all; done)
end Go.Am
