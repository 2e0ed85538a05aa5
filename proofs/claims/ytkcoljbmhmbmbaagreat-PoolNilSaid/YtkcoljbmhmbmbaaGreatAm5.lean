/- A part of a proof: a machine of abstract values that tells what functions of the program compute, and the plain facts on them. -/
import Derived.Test.YtkcoljbmhmbmbaaGreatAm4
import Derived.Test.YtkcoljbmhmbmbaaGreatAm1
set_option linter.unusedVariables false
set_option linter.unusedSimpArgs false
set_option linter.unnecessarySimpa false
set_option linter.unusedSectionVars false
namespace Go.Am
open Go
open Classical
def Frz (μ : LMap) (H : Heap) (ids : List Nat) (b : Nat) : Prop := ∃ i a l, i ∈ ids ∧ H[i]? = some (some a) ∧ μ i = some l ∧ 0 < l.tot ∧ l.b = b
noncomputable def frzM (m : Mem) (μ : LMap) (H : Heap) (w : World) (ids : List Nat) : Mem := fun b =>
 if Frz μ H ids b then (match w.heap[b]? with | some (.cells cs _ _) => some cs | _ => none) else m b
theorem Q1h : ∀ {ids : List Nat} {H : Heap} {j : Nat} {x : AVal}, (Q0v ids H)[j]? = some (some x) → j ∉ ids ∧ H[j]? = some (some x)
 | [], _, _, _, h => ⟨by simp, h⟩
 | i :: l, H, j, x, h => by
  simp only [Q0v] at h
  obtain ⟨h1, h2⟩ := Q1h h
  obtain ⟨h3, h4⟩ := Q1X h2
  exact ⟨by simp [h1, h3], h4⟩
theorem Q1G : ∀ {ids : List Nat} {H : Heap}, (Q0v ids H).length = H.length
 | [], _ => rfl
 | i :: l, H => by simp only [Q0v]; rw [Q1G, List.length_set]
section
variable {m : Mem} {μ : LMap} {H : Heap} {w : World} {ids : List Nat}
theorem Q5d (rh : RH m μ H w) {b : Nat} (hb : Frz μ H ids b) : m b = none ∧ ∃ cs E fz, w.heap[b]? = some (.cells cs E fz) ∧ frzM m μ H w ids b = some cs := by
 have hb' := hb
 obtain ⟨i, a, l, _, h2, h3, h4, rfl⟩ := hb
 obtain ⟨l', hblk⟩ := rh.blk i a h2
 have : l' = l := Option.some.inj (hblk.loc.symm.trans h3)
 subst this
 rcases hblk.cells with ⟨p1, _⟩ | ⟨_, gm, cs, E, fz, g1, _⟩
 ·omega
 ·exact ⟨gm, cs, E, fz, g1, by simp only [frzM, if_pos hb', g1]⟩
theorem Q2V (rh : RH m μ H w) : m.le (frzM m μ H w ids) := by
 intro b c hc
 unfold frzM
 split
 ·rename_i hb
  rw [(Q5d rh hb).1] at hc; cases hc
 ·exact hc
theorem Q3h (rh : RH m μ H w) : Post m μ H w (frzM m μ H w ids) μ (Q0v ids H) w := by
 refine ⟨⟨?_, ?_, ?_, ?_, fun i a l hi hl hz => rh.typ i a l (Q1h hi).2 hl hz, fun i a l hi hv hl hz => rh.vb i a l (Q1h hi).2 hv hl hz,
  rh.mpk (Q2V rh) (fun i a l hi hl _ => ⟨i, (Q1h hi).2, hl⟩) (fun _ _ _ hb => hb), fun i j a b li lj hi hj => rh.mpi i j a b li lj (Q1h hi).2 (Q1h hj).2⟩, Q2V rh, LMap.le_refl _, rfl, rfl, rfl, Nat.le_refl _, fun _ _ _ => rfl, ?_, ?_, ⟨by rw [Q1G]; exact Nat.le_refl _, fun _ _ h => h⟩⟩
 ·intro b cs hb
  unfold frzM at hb
  split at hb
  ·rename_i hf
   obtain ⟨_, cs', E, fz, h1, _⟩ := Q5d rh hf
   rw [h1] at hb
   simp only [Option.some.injEq] at hb
   subst hb
   exact ⟨E, fz, h1⟩
  ·exact rh.mem b cs hb
 ·intro i a hi
  obtain ⟨h1, h2⟩ := Q1h hi
  obtain ⟨l, hb⟩ := rh.blk i a h2
  refine ⟨l, hb.loc, hb.sh, ?_⟩
  rcases hb.cells with ⟨p1, p2, p3, p4⟩ | ⟨p0, gm, cs, E, fz, g1, g2, g3, g4, g5⟩
  ·exact .inl ⟨p1, p2, p3, p4.mono (Q2V rh) (LMap.le_refl _)⟩
  ·refine .inr ⟨p0, ?_, cs, E, fz, g1, g2, g3, g4, g5.mono (Q2V rh) (LMap.le_refl _)⟩
   unfold frzM
   rw [if_neg]
   ·exact gm
   ·rintro ⟨j, b, lj, k1, k2, k3, k4, k5⟩
    have := rh.inj i j a b l lj h2 k2 hb.loc k3 p0 k4 k5.symm
    exact h1 (this ▸ k1)
 ·intro i j a b li lj hi hj
  exact rh.inj i j a b li lj (Q1h hi).2 (Q1h hj).2
 ·intro i hi
  exact rh.dom i (by rw [Q1G] at hi; exact hi)
 ·rintro b ⟨i, a, l, hi, h2, h3, h4⟩ _
  exact ⟨i, a, l, (Q1h hi).2, h2, h3, h4⟩
 ·intro b c hc
  by_cases hf : Frz μ H ids b
  ·obtain ⟨i, a, l, _, h2, h3, h4, h5⟩ := hf
   exact .inr (.inl ⟨i, a, l, h2, h3, .inl h4, h5⟩)
  ·unfold frzM at hc
   rw [if_neg hf] at hc
   exact .inl hc
theorem Q99 (rh : RH m μ H w) {id : Nat} {c y : AVal} {p : List Nat} {l : Loc} {o N off len cap : Nat} {t : Ty} {xs : List t.den} {a : Option Addr} (hid : id ∈ ids) (hi : H[id]? = some (some c)) (hg : getP c p = some y)
  (hl : μ id = some l) (ho : l.sh.offP p = some (o, .arr N t)) (hy : ∀ cs, CRel m μ y cs → DRel m (.arr N t) xs cs) (hle : off + len ≤ N) (hlc : len ≤ cap) (ha : a = some ⟨l.b, l.off + o + off * t.size, none⟩ ∨ cap = 0) (ht : t.size ≠ 0) :
  DRel (frzM m μ H w ids) (.sl t) ((xs.drop off).take len) [.slice a len cap] := by
 obtain ⟨cs0, h0⟩ := Q5v rh hi hg hl ho
 have hlen : ((xs.drop off).take len).length = len := by
  have := (hy _ h0).1
  simp [this]; omega
 simp only [DRel]
 refine ⟨a, cap, by rw [hlen], by omega, fun i hi' => ?_⟩
 rw [hlen] at hi'
 have ha' : a = some ⟨l.b, l.off + o + off * t.size, none⟩ := by
  rcases ha with h | h
  ·exact h
  ·omega
 subst ha'
 have hN : 1 ≤ N := by omega
 have hpos : 0 < (Sh.arr N t).size := by
  simp only [Sh.size]
  exact Nat.mul_pos (by omega) (Nat.pos_of_ne_zero ht)
 obtain ⟨hs, hsh, hle2, h1⟩ := Q2j rh hi hg hl ho
 obtain ⟨htot, hm, cs, E, fz, g1, g2, g3, g4, _, g6⟩ := h1 hpos
 have hf : Frz μ H ids l.b := ⟨id, c, l, hid, hi, hl, htot, rfl⟩
 obtain ⟨_, cs', E', fz', k1, k2⟩ := Q5d rh hf
 rw [g1] at k1
 cases k1
 have hd := hy _ g6
 have hsub := Q3A (k := len) hd hle
 simp only [Sh.size] at hle2 g6
 have hmul : (off + len) * t.size ≤ N * t.size := Nat.mul_le_mul_right _ hle
 rw [Nat.add_mul] at hmul
 rw [Sh.size, Q0Z _ _ _ _ _ (by omega)] at hsub
 obtain ⟨_, _, d3⟩ := hsub
 have hm1 : (i + 1) * t.size ≤ len * t.size := Nat.mul_le_mul_right _ hi'
 rw [Nat.add_mul] at hm1
 have d4 := d3 i hi'
 rw [Q0Z _ _ _ _ _ (by omega)] at d4
 refine ⟨_, (cs.toList.drop (l.off + o + off * t.size + i * t.size)).take t.size, rfl, rfl, ?_, d4.mono (Q2V rh)⟩
 unfold Mem.cells
 rw [k2]
 simp only
 rw [if_pos (by omega)]
theorem Q3f (rh : RH m μ H w) : ∀ {a a' : AVal} {ids' : List Nat} {cs : List Value}, frzA H a = some (a', ids') → (∀ i, i ∈ ids' → i ∈ ids) → CRel m μ a cs → a'.sh = a.sh ∧ a'.isAgg = a.isAgg ∧ CRel (frzM m μ H w ids) μ a' cs
 | .vsl id, a', ids', cs, h, hin, hc => by
  simp only [frzA] at h
  split at h
  ·rename_i t xs hi
   cases ht : (t.size == 0) with
   | true => rw [ht] at h; cases h
   | false =>
    rw [ht] at h
    simp only [cond_false, Option.some.injEq, Prod.mk.injEq] at h
    obtain ⟨rfl, rfl⟩ := h
    refine ⟨rfl, rfl, ?_⟩
    obtain ⟨v, hv⟩ := hc.one rfl
    subst hv
    obtain ⟨l, a, cap, hl, hsh, hcap, he, ha⟩ := Q30 rh hi (Q3c hc rfl)
    subst he
    have := Q99 (ids := ids) (off := 0) (len := xs.length) (cap := cap) (a := a) (t := t) (xs := xs) rh (hin id (by simp)) hi (p := []) (y := .vec t xs) rfl hl (o := 0) (N := xs.length) (by rw [hsh]; rfl)
     (fun cs h => by simpa only [CRel] using h) (by omega) hcap (by rcases ha with h | h; exact .inl (by rw [h.1]; simp); exact .inr h) (by simpa using ht)
    simpa only [CRel, List.drop_zero, List.take_length] using this
  ·cases h
 | .sl id p off len, a', ids', cs, h, hin, hc => by
  simp only [frzA] at h
  split at h
  ·rename_i t xs idv hv
   cases ht : (t.size == 0) with
   | true => rw [ht] at h; cases h
   | false =>
    rw [ht] at h
    simp only [cond_false, Option.some.injEq, Prod.mk.injEq] at h
    obtain ⟨rfl, rfl⟩ := h
    refine ⟨rfl, rfl, ?_⟩
    simp only [CRel] at hc
    obtain ⟨l, o, n, t', a, cap, hl, ho, hle, hcap, he, ha⟩ := hc
    subst he
    simp only [Q2U] at hv
    have ha' : a = some ⟨l.b, l.off + o + off * t'.size, none⟩ ∨ cap = 0 := by
     rcases ha with h | h
     ·exact .inl h.1
     ·exact .inr h
    split at hv
    ·rename_i c hi
     split at hv
     ·rename_i n' t2 ys hg
      cases hv
      have hs := (Q2j rh hi hg hl ho).1
      simp only [AVal.sh] at hs
      cases hs
      have := Q99 (ids := ids) rh (hin id (by simp)) hi hg hl ho (fun cs h => by simpa only [CRel] using h) hle hcap ha' (by simpa using ht)
      simpa only [CRel] using this
     ·rename_i t2 ys hg
      cases hv
      have hs := (Q2j rh hi hg hl ho).1
      simp only [AVal.sh] at hs
      cases hs
      have := Q99 (ids := ids) rh (hin id (by simp)) hi hg hl ho (fun cs h => by simpa only [CRel] using h) hle hcap ha' (by simpa using ht)
      simpa only [CRel] using this
     ·cases hv
    ·cases hv
  ·cases h
 | .pair a b, a', ids', cs, h, hin, hc => by
  simp only [frzA, Option.bind_eq_some_iff, Option.some.injEq] at h
  obtain ⟨x, hx, y, hy, h⟩ := h
  cases h
  simp only [CRel] at hc
  obtain ⟨s1, _, r1⟩ := Q3f rh hx (fun i hi => hin i (by simp [hi])) hc.1
  obtain ⟨s2, _, r2⟩ := Q3f rh hy (fun i hi => hin i (by simp [hi])) hc.2
  refine ⟨by simp only [AVal.sh, s1, s2], rfl, ?_⟩
  simp only [CRel]
  have hs : x.1.size = a.size := by unfold AVal.size; rw [s1]
  rw [hs]
  exact ⟨r1, r2⟩
 | .undef, a', ids', cs, h, hin, hc => by simp only [CRel] at hc
 | .tup _, a', ids', cs, h, hin, hc => by simp only [CRel] at hc
 | .int _ _, a', ids', cs, h, hin, hc | .bool _, a', ids', cs, h, hin, hc | .str _, a', ids', cs, h, hin, hc | .nilp, a', ids', cs, h, hin, hc | .nils, a', ids', cs, h, hin, hc | .unit, a', ids', cs, h, hin, hc | .ros _ _, a', ids', cs, h, hin, hc
 | .rop _ _, a', ids', cs, h, hin, hc | .arr _ _ _, a', ids', cs, h, hin, hc | .ptr _ _, a', ids', cs, h, hin, hc | .sfp _ _ _, a', ids', cs, h, hin, hc | .mp _, a', ids', cs, h, hin, hc | .nilm, a', ids', cs, h, hin, hc => by
  simp only [frzA, Option.some.injEq, Prod.mk.injEq] at h
  obtain ⟨rfl, rfl⟩ := h
  exact ⟨rfl, rfl, hc.mono (Q2V rh) (LMap.le_refl _)⟩
 | .mpc _ _ _, a', ids', cs, h, hin, hc | .vbs _, a', ids', cs, h, hin, hc | .vec _ _, a', ids', cs, h, hin, hc | .parr _ _ _ _, a', ids', cs, h, hin, hc | .fn _ _, a', ids', cs, h, hin, hc => by simp [frzA] at h
theorem QcW {a a' : AVal} {ids' : List Nat} (h : frzA H a = some (a', ids')) : a'.isVb = false := by
 cases a with
 | vsl id =>
  simp only [frzA] at h
  split at h
  ·rename_i t xs _
   cases hz : (t.size == 0) with
   | true => rw [hz] at h; cases h
   | false => rw [hz] at h; cases h; rfl
  ·cases h
 | sl id p off len =>
  simp only [frzA] at h
  split at h
  ·rename_i t xs _ _
   cases hz : (t.size == 0) with
   | true => rw [hz] at h; cases h
   | false => rw [hz] at h; cases h; rfl
  ·cases h
 | pair a b =>
  simp only [frzA, Option.bind_eq_some_iff, Option.some.injEq, Prod.mk.injEq] at h
  obtain ⟨_, _, _, _, rfl, _⟩ := h; rfl
 | tup a =>
  simp only [frzA, Option.bind_eq_some_iff, Option.some.injEq, Prod.mk.injEq] at h
  obtain ⟨_, _, rfl, _⟩ := h; rfl
 | _ =>
  first
   | (simp only [frzA, Option.some.injEq, Prod.mk.injEq] at h; obtain ⟨rfl, _⟩ := h; rfl)
   | (simp [frzA] at h)
theorem Q7D {a : AVal} {a' : AVal} {ids' : List Nat} (h : frzA H a = some (a', ids')) : (a' = .undef ↔ a = .undef) ∧ ((∃ s, a' = .tup s) ↔ ∃ s, a = .tup s) := by
  cases a <;> simp only [frzA, Option.bind_eq_some_iff, Option.some.injEq, Prod.mk.injEq] at h
  all_goals first
    | (obtain ⟨rfl, _⟩ := h; simp; done)
    | (obtain ⟨x, _, y, _, rfl, _⟩ := h; simp; done)
    | (obtain ⟨x, _, rfl, _⟩ := h; simp; done)
    | (cases h; done)
    | skip
  all_goals
    (split at h <;> try (cases h; done))
  all_goals
    (rw [Bool.cond_eq_ite] at h
     split at h
     · cases h
     · simp only [Option.some.injEq, Prod.mk.injEq] at h
       obtain ⟨rfl, _⟩ := h; simp)
theorem Q7R (rh : RH m μ H w) {a a' : AVal} {ids' : List Nat} {v : Value} (h : frzA H a = some (a', ids')) (hin : ∀ i, i ∈ ids' → i ∈ ids) (hv : Q1k m μ a v) : Q1k (frzM m μ H w ids) μ a' v := by
 obtain ⟨hu, ht⟩ := Q7D h
 by_cases h0 : a = .undef
 ·rw [hu.2 h0]; trivial
 by_cases h1 : ∃ s, a = .tup s
 ·obtain ⟨s, rfl⟩ := h1; exact hv.elim
 have h1' : ∀ s, a ≠ .tup s := fun s e => h1 ⟨s, e⟩
 rw [Q1K h0 h1'] at hv
 rw [Q1K (fun e => h0 (hu.1 e)) (fun s e => h1 (ht.1 ⟨s, e⟩))]
 split at hv
 ·rename_i ha
  obtain ⟨cs, h2, h3⟩ := hv
  obtain ⟨_, g2, g3⟩ := Q3f rh h hin h3
  rw [if_pos (by rw [g2]; exact ha)]
  exact ⟨cs, h2, g3⟩
 ·rename_i ha
  obtain ⟨_, g2, g3⟩ := Q3f rh h hin hv
  rw [if_neg (by rw [g2]; exact ha)]
  exact g3
theorem Q8D (rh : RH m μ H w) : ∀ {a a' : AVal} {ids' : List Nat} {vs : List Value}, frzA H a = some (a', ids') → (∀ i, i ∈ ids' → i ∈ ids) → TRel m μ a vs → TRel (frzM m μ H w ids) μ a' vs
 | .unit, a', ids', vs, h, _, hv => by simp only [frzA, Option.some.injEq, Prod.mk.injEq] at h; obtain ⟨rfl, _⟩ := h; exact hv
 | .pair a b, a', ids', vs, h, hin, hv => by
  simp only [frzA, Option.bind_eq_some_iff, Option.some.injEq] at h
  obtain ⟨x, hx, y, hy, h⟩ := h
  cases h
  obtain ⟨v, r, h1, h2, h3⟩ := hv
  exact ⟨v, r, h1, Q7R rh hx (fun i hi => hin i (by simp [hi])) h2, Q8D rh hy (fun i hi => hin i (by simp [hi])) h3⟩
 | .undef, _, _, _, _, _, hv | .int _ _, _, _, _, _, _, hv | .bool _, _, _, _, _, _, hv | .str _, _, _, _, _, _, hv | .nilp, _, _, _, _, _, hv | .nils, _, _, _, _, _, hv | .ros _ _, _, _, _, _, _, hv | .rop _ _, _, _, _, _, _, hv | .arr _ _ _, _, _, _, _, _, hv | .vec _ _, _, _, _, _, _, hv
 | .ptr _ _, _, _, _, _, _, hv | .sl _ _ _ _, _, _, _, _, _, hv | .vsl _, _, _, _, _, _, hv | .parr _ _ _ _, _, _, _, _, _, hv | .sfp _ _ _, _, _, _, _, _, hv | .vbs _, _, _, _, _, _, hv | .mp _, _, _, _, _, _, hv | .nilm, _, _, _, _, _, hv | .mpc _ _ _, _, _, _, _, _, hv | .fn _ _, _, _, _, _, _, hv | .tup _, _, _, _, _, _, hv => hv.elim
theorem Q8G (rh : RH m μ H w) {a a' : AVal} {ids' : List Nat} {v : Value} (h : frzA H a = some (a', ids')) (hin : ∀ i, i ∈ ids' → i ∈ ids) (hv : VRel m μ a v) : VRel (frzM m μ H w ids) μ a' v := by
 by_cases h1 : ∃ s, a = .tup s
 ·obtain ⟨s, rfl⟩ := h1
  simp only [frzA, Option.bind_eq_some_iff, Option.some.injEq, Prod.mk.injEq] at h
  obtain ⟨x, hx, rfl, rfl⟩ := h
  obtain ⟨vs, h2, h3⟩ := hv
  exact ⟨vs, h2, Q8D rh hx hin h3⟩
 ·have h2 : ¬ ∃ s, a' = .tup s := fun e => h1 ((Q7D h).2.1 e)
  have e : VRel m μ a v = Q1k m μ a v := by
   cases a <;> first | rfl | exact absurd ⟨_, rfl⟩ h1
  have e' : VRel (frzM m μ H w ids) μ a' v = Q1k (frzM m μ H w ids) μ a' v := by
   cases a' <;> first | rfl | exact absurd ⟨_, rfl⟩ h2
  rw [e] at hv; rw [e']
  exact Q7R rh h hin hv
end
end Go.Am
namespace Go.Am
open Go
theorem RS.setv {m m' : Mem} {μ μ' : LMap} {sl : List AVal} {a : Act} (rs : RS m μ sl a) (hm : m.le m') (hμ : μ.le μ') {i : Nat} {x : AVal} (h : ∀ v, VRel m μ (sl.getD i .undef) v → VRel m' μ' x v) : RS m' μ' (sl.set i x) a := by
 refine ⟨by simp [rs.size], rs.defers, fun j y hj => ?_⟩
 by_cases hij : i = j
 ·subst hij
  have hlt : i < sl.length := by
   rcases Nat.lt_or_ge i sl.length with h1 | h1
   ·exact h1
   ·rw [List.getElem?_eq_none (by simpa using h1)] at hj; cases hj
  rw [List.getElem?_set_self hlt] at hj
  cases hj
  obtain ⟨v, h1, h2⟩ := rs.rel i sl[i] (by simp)
  exact ⟨v, h1, h v (by rw [List.getD_eq_getElem?_getD, List.getElem?_eq_getElem hlt]; exact h2)⟩
 ·rw [List.getElem?_set_ne hij] at hj
  obtain ⟨v, h1, h2⟩ := rs.rel j y hj
  exact ⟨v, h1, h2.mono hm hμ⟩
theorem QbO {np : Nat} {st : St} {i : Nat} {a' : AVal} {ids : List Nat} (h : frzA st.H (st.sl.getD i .undef) = some (a', ids)) : Q1a np st ⟨st.sl.set i a', Q0v ids st.H⟩ := fun m μ w a rh rs => by
 refine ⟨frzM m μ st.H w ids, μ, ?_, (Q3h rh).toW⟩
 exact rs.setv (Q2V rh) (LMap.le_refl _) fun v hv => Q8G rh h (fun _ h => h) hv
theorem RH.retell {m : Mem} {μ : LMap} {H : Heap} {w : World} {i : Nat} {a a' : AVal} (rh : RH m μ H w) (hi : H[i]? = some (some a)) (hs : a'.sh = a.sh) (hr : ∀ cs, CRel m μ a cs → CRel m μ a' cs) (hv : a'.isVb = true → a.isVb = true) (hnm : a.isMp = false) : Post m μ H w m μ (H.set i (some a')) w := by
 have hlt : i < H.length := (List.getElem?_eq_some_iff.1 hi).1
 have look : ∀ {j : Nat} {x : AVal}, (H.set i (some a'))[j]? = some (some x) → (j = i ∧ x = a') ∨ H[j]? = some (some x) := by
  intro j x hj
  by_cases e : i = j
  ·subst e
   rw [List.getElem?_set_self hlt] at hj
   simp only [Option.some.injEq] at hj
   exact .inl ⟨rfl, hj.symm⟩
  ·rw [List.getElem?_set_ne e] at hj; exact .inr hj
 have look2 : ∀ {j : Nat} {x : AVal}, (H.set i (some a'))[j]? = some (some x) → ∃ y, H[j]? = some (some y) := by
  intro j x hj
  rcases look hj with ⟨rfl, _⟩ | h
  ·exact ⟨a, hi⟩
  ·exact ⟨x, h⟩
 refine ⟨⟨rh.mem, ?_, ?_, fun j hj => rh.dom j (by simpa using hj), fun j x l hj hl hz => by obtain ⟨y, h1⟩ := look2 hj; exact rh.typ j y l h1 hl hz, fun j x l hj hq hl hz => by
  rcases look hj with ⟨rfl, rfl⟩ | h
  ·exact rh.vb _ a l hi (hv hq) hl hz
  ·exact rh.vb j x l h hq hl hz, rh.mpk (Mem.le_refl _) (fun j x l hj hl hpz => by
   rcases look hj with ⟨rfl, rfl⟩ | h
   ·obtain ⟨_, kt, vt, xs, es, cc, e, _⟩ := rh.mp _ a l hi hl hpz
    rw [e] at hnm; cases hnm
   ·exact ⟨j, h, hl⟩) (fun _ _ _ hb => hb), fun j k x y lj lk hj hk => by
   obtain ⟨x', h1⟩ := look2 hj
   obtain ⟨y', h2⟩ := look2 hk
   exact rh.mpi j k x' y' lj lk h1 h2⟩, Mem.le_refl _, LMap.le_refl _, rfl, rfl, rfl, Nat.le_refl _, fun _ _ _ => rfl, ?_, fun _ _ h => .inl h, ⟨by simp, fun _ _ h => h⟩⟩
 ·intro j x hj
  rcases look hj with ⟨rfl, rfl⟩ | h
  ·obtain ⟨l, hb⟩ := rh.blk _ a hi
   refine ⟨l, hb.loc, by rw [hb.sh, hs], ?_⟩
   rw [hs]
   rcases hb.cells with ⟨p1, p2, p3, p4⟩ | ⟨p0, gm, cs, E, fz, g1, g2, g3, g4, g5⟩
   ·exact .inl ⟨p1, p2, p3, hr _ p4⟩
   ·exact .inr ⟨p0, gm, cs, E, fz, g1, g2, g3, g4, hr _ g5⟩
  ·exact rh.blk j x h
 ·intro j j' x y l l' hj hj'
  obtain ⟨x', h1⟩ := look2 hj
  obtain ⟨y', h2⟩ := look2 hj'
  exact rh.inj j j' x' y' l l' h1 h2
 ·rintro b ⟨j, x, l, hj, hl, hz, he⟩ _
  obtain ⟨y, h1⟩ := look2 hj
  exact ⟨j, y, l, h1, hl, hz, he⟩
theorem Q4K {m m' : Mem} {μ μ' : LMap} (hm : m.le m') (hμ : μ.le μ') {a x x' a' : AVal} {p : List Nat} {o : Nat} {s : Sh} (ho : a.sh.offP p = some (o, s)) (hg : getP a p = some x) (hset : setP a p x' = some a') (hsx : x'.sh = x.sh)
  (hr : ∀ cs, CRel m μ x cs → CRel m' μ' x' cs) : ∀ cs, CRel m μ a cs → CRel m' μ' a' cs := by
 intro cs hc
 obtain ⟨hle, x1, h1, h2, h3⟩ := Q1E hc ho
 rw [hg] at h1
 cases h1
 have h4 := Q3Q (hc.mono hm hμ) ho (hr _ h3) (by rw [hsx, h2]) hset
 have hl := hc.length
 simp only [AVal.size] at hl
 have e : Q0R cs o ((cs.drop o).take s.size) = cs := by
  have hlen : ((cs.drop o).take s.size).length = s.size := by simp; omega
  unfold Q0R
  rw [hlen, List.append_assoc, ← List.drop_drop, List.take_append_drop, List.take_append_drop]
 rw [e] at h4
 exact h4.2
theorem Q6Q : ∀ {ids : List Nat} {H : Heap} {i : Nat} {x : Option AVal}, Q0v ids (H.set i x) = if i ∈ ids then Q0v ids H else (Q0v ids H).set i x
 | [], H, i, x => by simp [Q0v]
 | j :: ids, H, i, x => by
  simp only [Q0v, List.mem_cons]
  by_cases hij : j = i
  ·subst hij
   rw [List.set_set]; simp
  ·rw [List.set_comm _ _ (Ne.symm hij), Q6Q]
   simp only [Ne.symm hij, false_or]
theorem Q6W {m : Mem} {μ : LMap} {H : Heap} {w : World} (rh : RH m μ H w) {id off len : Nat} {t : Ty} {xs : List t.den} {v0 : Value} (hv0 : CRel m μ (.sl id [] off len) [v0]) (hi : H[id]? = some (some (.vec t xs))) :
  ∃ μ', Post m μ H w m μ' (H.set id none ++ [some (.vec t ((xs.drop off).take len))]) w ∧ ∀ v, CRel m μ (.sl id [] off len) [v] → CRel m μ' (.vsl H.length) [v] := by
 obtain ⟨l, o, n, t', ad, cap, hl, ho, hle, hlc, hve, ha⟩ := hv0
 obtain ⟨l', hb⟩ := rh.blk id _ hi
 have : l' = l := Option.some.inj (hb.loc.symm.trans hl)
 subst this
 have hsh := hb.sh
 simp only [Sh.offP, Option.some.injEq, Prod.mk.injEq] at ho
 obtain ⟨rfl, ho⟩ := ho
 rw [ho] at hsh
 simp only [AVal.sh, Sh.arr.injEq] at hsh
 obtain ⟨rfl, rfl⟩ := hsh
 simp only [Nat.add_zero, forall_const] at ha
 have hlen : ((xs.drop off).take len).length = len := by simp; omega
 have hmul : (off + len) * t'.size ≤ xs.length * t'.size := Nat.mul_le_mul_right _ hle
 rw [Nat.add_mul] at hmul
 have key : ∀ (μ' : LMap) (L : Loc), μ' H.length = some L → L.sh = (AVal.vec t' ((xs.drop off).take len)).sh → L.b = l'.b → L.tot = l'.tot → (∀ cap, l'.off + (off + cap) * t'.size ≤ l'.tot → L.off = l'.off + off * t'.size) →
   ∀ v, CRel m μ (.sl id [] off len) [v] → CRel m μ' (.vsl H.length) [v] := by
  intro μ' L hL hLs hLb hLt hLo v hv
  obtain ⟨l2, o2, n2, t2, ad, cap, hl2, ho2, hle2, hlc2, hve, ha⟩ := hv
  rw [hl] at hl2
  cases hl2
  simp only [Sh.offP, Option.some.injEq, Prod.mk.injEq] at ho2
  obtain ⟨rfl, ho2⟩ := ho2
  rw [ho] at ho2
  cases ho2
  cases hve
  refine ⟨L, len, t', ad, cap, hL, by rw [hLs]; simp only [AVal.sh, hlen], hlc2, rfl, ?_⟩
  rcases ha with ⟨h1, h2⟩ | h1
  ·refine .inl ⟨by rw [h1, hLb, hLo cap (h2 rfl)]; simp, ?_⟩
   have := h2 rfl
   rw [hLo cap this, hLt]
   rw [Nat.add_mul] at this
   omega
  ·exact .inr h1
 rcases hb.cells with ⟨p1, p2, p3, p4⟩ | ⟨p0, gm, cs, E, fz, g1, g2, g3, g4, g5⟩
 ·have hk := rh.kill id
  have hz : xs.length * t'.size = 0 := p3
  have hlen0 : (H.set id none).length = H.length := by simp
  have hp := hk.rh.phantom (a := .vec t' ((xs.drop off).take len)) (by simp only [AVal.sh, Sh.size, hlen]; omega) (by
   simp only [CRel] at p4 ⊢
   rw [hlen]
   have := Q3A (k := len) p4 hle
   simpa using this) l'.b
  rw [hlen0] at hp
  have hpost := hk.trans hp
  refine ⟨_, hpost, ?_⟩
  refine key _ ⟨l'.b, 0, (AVal.vec t' ((xs.drop off).take len)).sh, 0, 0, false⟩ (by simp) rfl rfl p1.symm fun cap hc => ?_
  rw [Nat.add_mul] at hc
  simp only
  omega
 ·simp only [AVal.sh, Sh.size] at g4
  have hp := rh.move (a' := .vec t' ((xs.drop off).take len)) (off' := l'.off + off * t'.size) (cs' := cs) (E := E) (fz := fz) (w' := w) hi hl p0 g1 { blk := g1, keep := fun _ _ => rfl, size := rfl, os := rfl, tape := rfl, output := rfl } rfl (by simp only [AVal.sh, Sh.size, hlen]; omega) (by
   simp only [CRel, AVal.sh, Sh.size] at g5 ⊢
   rw [hlen]
   have := Q3A (k := len) g5 hle
   rw [Q0Z _ _ _ _ _ (by omega)] at this
   exact this) (fun h => by rw [Q6l _ xs] at h; exact h)
  refine ⟨_, hp, ?_⟩
  exact key _ ⟨l'.b, l'.off + off * t'.size, (AVal.vec t' ((xs.drop off).take len)).sh, l'.tot, l'.E, false⟩ (by simp) rfl rfl rfl fun cap hc => rfl
theorem QbG {np : Nat} {st : St} {i id off len : Nat} {t : Ty} {xs : List t.den} (h : st.sl.getD i .undef = .sl id [] off len) (hi : st.H[id]? = some (some (.vec t xs))) :
  Q1a np st ⟨st.sl.set i (.vsl st.H.length), st.H.set id none ++ [some (.vec t ((xs.drop off).take len))]⟩ := fun m μ w a rh rs => by
 have hlt : i < st.sl.length := by
  rcases Nat.lt_or_ge i st.sl.length with h1 | h1
  ·exact h1
  ·rw [List.getD_eq_getElem?_getD, List.getElem?_eq_none h1] at h; cases h
 obtain ⟨v, _, hv⟩ := rs.rel i st.sl[i] (by simp)
 have he : st.sl[i] = .sl id [] off len := by rw [← h, List.getD_eq_getElem?_getD, List.getElem?_eq_getElem hlt]; rfl
 rw [he] at hv
 obtain ⟨μ', hp, hk⟩ := Q6W rh (hv.one rfl rfl) hi
 refine ⟨m, μ', rs.setv (Mem.le_refl _) hp.μl fun v hv => ?_, hp.toW⟩
 rw [h] at hv
 exact Q3c (a := .vsl st.H.length) (hk v (hv.one rfl rfl)) rfl
theorem Q6k {st st' : St} {id : Nat} {p : List Nat} {v : AVal} (h : Q24.set st v (.blk id p) = some st') :
  ∃ c c' o s, st.H[id]? = some (some c) ∧ c.sh.offP p = some (o, s) ∧ setP c p v = some c' ∧ c'.sh = c.sh ∧ st' = ⟨st.sl, st.H.set id (some c')⟩ := by
 simp only [Q24.set] at h
 split at h
 ·rename_i c hc
  split at h
  ·rename_i os ho
   rw [Option.bind_eq_some_iff] at h
   obtain ⟨c', h1, h2⟩ := h
   split at h2
   ·rename_i hs
    simp only [decide_eq_true_eq] at hs
    simp only [Option.some.injEq] at h2
    exact ⟨c, c', os.1, os.2, hc, ho, h1, hs, h2.symm⟩
   ·cases h2
  ·cases h
 ·cases h
theorem QaL {np : Nat} {st st' : St} {id : Nat} {p : List Nat} {x a' : AVal} {ids : List Nat} (hx : Q21 st.H id p = some x) (h : frzA st.H x = some (a', ids)) (hs : Q24.set st a' (.blk id p) = some st') : Q1a np st ⟨st'.sl, Q0v ids st'.H⟩ := fun m μ w a rh rs => by
 obtain ⟨c, c', o, s, h1, h2, h3, h4, rfl⟩ := Q6k hs
 have hp := Q3h (ids := ids) rh
 refine ⟨frzM m μ st.H w ids, μ, rs.mono (Q2V rh) (LMap.le_refl _), ?_⟩
 simp only [Q6Q]
 by_cases hid : id ∈ ids
 ·rw [if_pos hid]; exact hp.toW
 ·rw [if_neg hid]
  have hg : getP c p = some x := by simpa [Q21, h1] using hx
  have hsx : a'.sh = x.sh ∧ ∀ cs, CRel m μ x cs → CRel (frzM m μ st.H w ids) μ a' cs := by
   obtain ⟨l, hb⟩ := rh.blk id c h1
   have : ∃ cs, CRel m μ c cs := by
    rcases hb.cells with ⟨_, _, _, p4⟩ | ⟨_, _, cs, E, fz, _, _, _, _, g5⟩
    ·exact ⟨_, p4⟩
    ·exact ⟨_, g5⟩
   obtain ⟨cs, hcs⟩ := this
   obtain ⟨_, x1, k1, _, k3⟩ := Q1E hcs h2
   rw [hg] at k1; cases k1
   exact ⟨(Q3f (ids := ids) rh h (fun _ h => h) k3).1, fun cs hc => (Q3f (ids := ids) rh h (fun _ h => h) hc).2.2⟩
  obtain ⟨l, hb⟩ := rh.blk id c h1
  have hd : (Q0v ids st.H)[id]? = some (some c) := by
   have : ∀ {ids : List Nat} {H : Heap} {x : Nat}, x ∉ ids → (Q0v ids H)[x]? = H[x]? := by
    intro ids
    induction ids with
    | nil => intro H x _; rfl
    | cons j l ih =>
     intro H x hx
     simp only [List.mem_cons, not_or] at hx
     rw [Q0v, ih hx.2, List.getElem?_set_ne (Ne.symm hx.1)]
   rw [this hid]; exact h1
  have hr : ∀ cs, CRel m μ c cs → CRel (frzM m μ st.H w ids) μ c' cs := Q4K (Q2V rh) (LMap.le_refl _) h2 hg h3 hsx.1 hsx.2
  have hvb : c'.isVb = true → c.isVb = true := Q6a h3 (QcW h)
  have hnm : c.isMp = false := Q4k hg (by
   cases hq : x.isMp with
   | false => rfl
   | true => cases x <;> first | (cases hq; done) | (simp [frzA] at h))
  have hp2 : Q11 np (frzM m μ st.H w ids) μ (Q0v ids st.H) w (frzM m μ st.H w ids) μ ((Q0v ids st.H).set id (some c')) w := by
   have hlt : id < (Q0v ids st.H).length := (List.getElem?_eq_some_iff.1 hd).1
   have look : ∀ {j : Nat} {x : AVal}, ((Q0v ids st.H).set id (some c'))[j]? = some (some x) → (j = id ∧ x = c') ∨ (Q0v ids st.H)[j]? = some (some x) := by
    intro j x hj
    by_cases e : id = j
    ·subst e
     rw [List.getElem?_set_self hlt] at hj
     simp only [Option.some.injEq] at hj
     exact .inl ⟨rfl, hj.symm⟩
    ·rw [List.getElem?_set_ne e] at hj; exact .inr hj
   have look2 : ∀ {j : Nat} {x : AVal}, ((Q0v ids st.H).set id (some c'))[j]? = some (some x) → ∃ y, (Q0v ids st.H)[j]? = some (some y) := by
    intro j x hj
    rcases look hj with ⟨rfl, _⟩ | h
    ·exact ⟨c, hd⟩
    ·exact ⟨x, h⟩
   refine ⟨⟨hp.rh.mem, ?_, ?_, fun j hj => hp.rh.dom j (by simpa using hj), fun j x l hj hl hz => by obtain ⟨y, k1⟩ := look2 hj; exact hp.rh.typ j y l k1 hl hz, fun j x l hj hq hl hz => by
    rcases look hj with ⟨rfl, rfl⟩ | h
    ·exact hp.rh.vb _ c l hd (hvb hq) hl hz
    ·exact hp.rh.vb j x l h hq hl hz, hp.rh.mpk (Mem.le_refl _) (fun j x l hj hl hpz => by
     rcases look hj with ⟨rfl, rfl⟩ | h
     ·obtain ⟨_, kt, vt, xs, es, cc, e, _⟩ := hp.rh.mp _ c l hd hl hpz
      rw [e] at hnm; cases hnm
     ·exact ⟨j, h, hl⟩) (fun _ _ _ hb => hb), fun j k x y lj lk hj hk => by
     obtain ⟨x', h1⟩ := look2 hj
     obtain ⟨y', h2⟩ := look2 hk
     exact hp.rh.mpi j k x' y' lj lk h1 h2⟩, Mem.le_refl _, fun _ _ _ h => h, rfl, rfl, rfl, Nat.le_refl _, fun _ _ _ => rfl, ?_, fun _ _ h => .inl h⟩
   ·intro j x hj
    rcases look hj with ⟨rfl, rfl⟩ | h
    ·-- the same cells, told anew, by what the whole heap says of them
     obtain ⟨l2, hb2⟩ := hp.rh.blk _ c hd
     have hll : l2 = l := Option.some.inj (hb2.loc.symm.trans hb.loc)
     subst hll
     refine ⟨l2, hb.loc, by rw [hb.sh, h4], ?_⟩
     rw [h4]
     rcases hb.cells with ⟨p1, p2, p3, p4⟩ | ⟨p0, gm, cs, E, fz, g1, g2, g3, g4, g5⟩
     ·exact .inl ⟨p1, p2, p3, hr _ p4⟩
     ·rcases hb2.cells with ⟨q1, _⟩ | ⟨_, gm2, _⟩
      ·omega
      ·exact .inr ⟨p0, gm2, cs, E, fz, g1, g2, g3, g4, hr _ g5⟩
    ·exact hp.rh.blk j x h
   ·intro j j' x y l l' hj hj'
    obtain ⟨x', k1⟩ := look2 hj
    obtain ⟨y', k2⟩ := look2 hj'
    exact hp.rh.inj j j' x' y' l l' k1 k2
   ·rintro b ⟨j, x, l, hj, hl, hz, he⟩ _
    obtain ⟨y, k1⟩ := look2 hj
    exact ⟨j, y, l, k1, hl, hz, he⟩
  exact hp.toW.trans hp2
theorem QaI {np : Nat} {st st' : St} {id : Nat} {p : List Nat} {id2 off len : Nat} {t : Ty} {xs : List t.den} (hx : Q21 st.H id p = some (.sl id2 [] off len)) (hi : st.H[id2]? = some (some (.vec t xs)))
  (hs : Q24.set st (.vsl st.H.length) (.blk id p) = some st') : Q1a np st ⟨st'.sl, st'.H.set id2 none ++ [some (.vec t ((xs.drop off).take len))]⟩ := fun m μ w a rh rs => by
 obtain ⟨c, c', o, s, h1, h2, h3, h4, rfl⟩ := Q6k hs
 have hg : getP c p = some (.sl id2 [] off len) := by simpa [Q21, h1] using hx
 obtain ⟨l, hb⟩ := rh.blk id c h1
 have : ∃ cs, CRel m μ c cs := by
  rcases hb.cells with ⟨_, _, _, p4⟩ | ⟨_, _, cs, E, fz, _, _, _, _, g5⟩
  ·exact ⟨_, p4⟩
  ·exact ⟨_, g5⟩
 obtain ⟨cs, hcs⟩ := this
 obtain ⟨_, x1, k1, _, k3⟩ := Q1E hcs h2
 rw [hg] at k1; cases k1
 obtain ⟨v0, hv0⟩ := k3.one rfl
 rw [hv0] at k3
 obtain ⟨μ', hp, hk⟩ := Q6W rh k3 hi
 refine ⟨m, μ', rs.mono (Mem.le_refl _) hp.μl, ?_⟩
 have hr : ∀ cs, CRel m μ c cs → CRel m μ' c' cs := Q4K (Mem.le_refl _) hp.μl h2 hg h3 rfl (fun cs hc => by
  obtain ⟨v, rfl⟩ := hc.one rfl
  exact hk v hc)
 have hvb : c'.isVb = true → c.isVb = true := Q6a h3 rfl
 have hnm : c.isMp = false := Q4k hg rfl
 by_cases hid : id = id2
 ·subst hid
  simp only [List.set_set]
  exact hp.toW
 ·have hlt : id < st.H.length := (List.getElem?_eq_some_iff.1 h1).1
  have e : (st.H.set id (some c')).set id2 none ++ [some (AVal.vec t ((xs.drop off).take len))] = (st.H.set id2 none ++ [some (AVal.vec t ((xs.drop off).take len))]).set id (some c') := by
   rw [List.set_comm _ _ hid, List.set_append_left _ _ (by simpa using hlt)]
  simp only [e]
  have hd : (st.H.set id2 none ++ [some (.vec t ((xs.drop off).take len))])[id]? = some (some c) := by
   rw [List.getElem?_append_left (by simpa using hlt), List.getElem?_set_ne (Ne.symm hid)]; exact h1
  generalize hH : st.H.set id2 none ++ [some (.vec t ((xs.drop off).take len))] = H2 at hp hd ⊢
  have hp2 : Q11 np m μ' H2 w m μ' (H2.set id (some c')) w := by
   have hlt : id < H2.length := (List.getElem?_eq_some_iff.1 hd).1
   have look : ∀ {j : Nat} {x : AVal}, (H2.set id (some c'))[j]? = some (some x) → (j = id ∧ x = c') ∨ H2[j]? = some (some x) := by
    intro j x hj
    by_cases e : id = j
    ·subst e
     rw [List.getElem?_set_self hlt] at hj
     simp only [Option.some.injEq] at hj
     exact .inl ⟨rfl, hj.symm⟩
    ·rw [List.getElem?_set_ne e] at hj; exact .inr hj
   have look2 : ∀ {j : Nat} {x : AVal}, (H2.set id (some c'))[j]? = some (some x) → ∃ y, H2[j]? = some (some y) := by
    intro j x hj
    rcases look hj with ⟨rfl, _⟩ | h
    ·exact ⟨c, hd⟩
    ·exact ⟨x, h⟩
   refine ⟨⟨hp.rh.mem, ?_, ?_, fun j hj => hp.rh.dom j (by simpa using hj), fun j x l hj hl hz => by obtain ⟨y, k1⟩ := look2 hj; exact hp.rh.typ j y l k1 hl hz, fun j x l hj hq hl hz => by
    rcases look hj with ⟨rfl, rfl⟩ | h
    ·exact hp.rh.vb _ c l hd (hvb hq) hl hz
    ·exact hp.rh.vb j x l h hq hl hz, hp.rh.mpk (Mem.le_refl _) (fun j x l hj hl hpz => by
     rcases look hj with ⟨rfl, rfl⟩ | h
     ·obtain ⟨_, kt, vt, xs, es, cc, e, _⟩ := hp.rh.mp _ c l hd hl hpz
      rw [e] at hnm; cases hnm
     ·exact ⟨j, h, hl⟩) (fun _ _ _ hb => hb), fun j k x y lj lk hj hk => by
     obtain ⟨x', h1⟩ := look2 hj
     obtain ⟨y', h2⟩ := look2 hk
     exact hp.rh.mpi j k x' y' lj lk h1 h2⟩, Mem.le_refl _, fun _ _ _ h => h, rfl, rfl, rfl, Nat.le_refl _, fun _ _ _ => rfl, ?_, fun _ _ h => .inl h⟩
   ·intro j x hj
    rcases look hj with ⟨rfl, rfl⟩ | h
    ·refine ⟨l, hp.μl _ _ hb.loc, by rw [hb.sh, h4], ?_⟩
     rw [h4]
     rcases hb.cells with ⟨p1, p2, p3, p4⟩ | ⟨p0, gm, cs, E, fz, g1, g2, g3, g4, g5⟩
     ·exact .inl ⟨p1, p2, p3, hr _ p4⟩
     ·exact .inr ⟨p0, gm, cs, E, fz, g1, g2, g3, g4, hr _ g5⟩
    ·exact hp.rh.blk j x h
   ·intro j j' x y l l' hj hj'
    obtain ⟨x', k1⟩ := look2 hj
    obtain ⟨y', k2⟩ := look2 hj'
    exact hp.rh.inj j j' x' y' l l' k1 k2
   ·rintro b ⟨j, x, l, hj, hl, hz, he⟩ _
    obtain ⟨y, k1⟩ := look2 hj
    exact ⟨j, y, l, k1, hl, hz, he⟩
  exact hp.toW.trans hp2
theorem Qa4 {m : Mem} {μ : LMap} {H : Heap} {w : World} (rh : RH m μ H w) (t : Ty) :
  ∃ μ', Post m μ H w m μ' (H ++ [some (.vec t [])]) w ∧ ∀ v, CRel m μ .nils [v] → CRel m μ' (.vsl H.length) [v] := by
 have hp := rh.phantom (a := .vec t []) (by simp [AVal.sh, Sh.size]) (by simp [CRel, DRel]) 0
 refine ⟨_, hp, fun v hv => ?_⟩
 simp only [CRel] at hv ⊢
 refine ⟨⟨0, 0, (AVal.vec t []).sh, 0, 0, false⟩, 0, t, none, 0, by simp, rfl, Nat.le_refl _, hv, .inr rfl⟩
theorem Qds {np : Nat} {st : St} {i : Nat} {t : Ty} (h : st.sl.getD i .undef = .nils) : Q1a np st ⟨st.sl.set i (.vsl st.H.length), st.H ++ [some (.vec t [])]⟩ := fun m μ w a rh rs => by
 obtain ⟨μ', hp, hk⟩ := Qa4 rh t
 refine ⟨m, μ', rs.setv (Mem.le_refl _) hp.μl fun v hv => ?_, hp.toW⟩
 rw [h] at hv
 exact Q3c (a := .vsl st.H.length) (hk v (hv.one rfl rfl)) rfl
theorem Q98 {np : Nat} {m m' : Mem} {μ μ' : LMap} {H2 : Heap} {w : World} {id : Nat} {c c' : AVal} {l : Loc} (rh : RH m' μ' H2 w) (hd : H2[id]? = some (some c)) (h4 : c'.sh = c.sh) (hb : Blk m μ w id c l) (hμ : μ.le μ')
  (hno : 0 < l.tot → m' l.b = none) (hr : ∀ cs, CRel m μ c cs → CRel m' μ' c' cs) (hv : c'.isVb = true → c.isVb = true) (hnm : c.isMp = false) : Q11 np m' μ' H2 w m' μ' (H2.set id (some c')) w := by
 have hlt : id < H2.length := (List.getElem?_eq_some_iff.1 hd).1
 have look : ∀ {j : Nat} {x : AVal}, (H2.set id (some c'))[j]? = some (some x) → (j = id ∧ x = c') ∨ H2[j]? = some (some x) := by
  intro j x hj
  by_cases e : id = j
  ·subst e
   rw [List.getElem?_set_self hlt] at hj
   simp only [Option.some.injEq] at hj
   exact .inl ⟨rfl, hj.symm⟩
  ·rw [List.getElem?_set_ne e] at hj; exact .inr hj
 have look2 : ∀ {j : Nat} {x : AVal}, (H2.set id (some c'))[j]? = some (some x) → ∃ y, H2[j]? = some (some y) := by
  intro j x hj
  rcases look hj with ⟨rfl, _⟩ | h
  ·exact ⟨c, hd⟩
  ·exact ⟨x, h⟩
 refine ⟨⟨rh.mem, ?_, ?_, fun j hj => rh.dom j (by simpa using hj), fun j x l hj hl hz => by obtain ⟨y, h1⟩ := look2 hj; exact rh.typ j y l h1 hl hz, fun j x l hj hq hl hz => by
  rcases look hj with ⟨rfl, rfl⟩ | h
  ·exact rh.vb _ c l hd (hv hq) hl hz
  ·exact rh.vb j x l h hq hl hz, rh.mpk (Mem.le_refl _) (fun j x l hj hl hpz => by
   rcases look hj with ⟨rfl, rfl⟩ | h
   ·obtain ⟨_, kt, vt, xs, es, cc, e, _⟩ := rh.mp _ c l hd hl hpz
    rw [e] at hnm; cases hnm
   ·exact ⟨j, h, hl⟩) (fun _ _ _ hb => hb), fun j k x y lj lk hj hk => by
   obtain ⟨x', h1⟩ := look2 hj
   obtain ⟨y', h2⟩ := look2 hk
   exact rh.mpi j k x' y' lj lk h1 h2⟩, Mem.le_refl _, fun _ _ _ h => h, rfl, rfl, rfl, Nat.le_refl _, fun _ _ _ => rfl, ?_, fun _ _ h => .inl h⟩
 ·intro j x hj
  rcases look hj with ⟨rfl, rfl⟩ | h
  ·refine ⟨l, hμ _ _ hb.loc, by rw [hb.sh, h4], ?_⟩
   rw [h4]
   rcases hb.cells with ⟨p1, p2, p3, p4⟩ | ⟨p0, gm, cs, E, fz, g1, g2, g3, g4, g5⟩
   ·exact .inl ⟨p1, p2, p3, hr _ p4⟩
   ·exact .inr ⟨p0, hno p0, cs, E, fz, g1, g2, g3, g4, hr _ g5⟩
  ·exact rh.blk j x h
 ·intro j j' x y l l' hj hj'
  obtain ⟨x', k1⟩ := look2 hj
  obtain ⟨y', k2⟩ := look2 hj'
  exact rh.inj j j' x' y' l l' k1 k2
 ·rintro b ⟨j, x, l, hj, hl, hz, he⟩ _
  obtain ⟨y, k1⟩ := look2 hj
  exact ⟨j, y, l, k1, hl, hz, he⟩
theorem QcR {np : Nat} {st st' : St} {id : Nat} {p : List Nat} {t : Ty} (hx : Q21 st.H id p = some .nils) (hs : Q24.set st (.vsl st.H.length) (.blk id p) = some st') : Q1a np st ⟨st'.sl, st'.H ++ [some (.vec t [])]⟩ := fun m μ w a rh rs => by
 obtain ⟨c, c', o, s, h1, h2, h3, h4, rfl⟩ := Q6k hs
 have hg : getP c p = some .nils := by simpa [Q21, h1] using hx
 obtain ⟨l, hb⟩ := rh.blk id c h1
 obtain ⟨μ', hp, hk⟩ := Qa4 rh t
 refine ⟨m, μ', rs.mono (Mem.le_refl _) hp.μl, ?_⟩
 have hr : ∀ cs, CRel m μ c cs → CRel m μ' c' cs := Q4K (Mem.le_refl _) hp.μl h2 hg h3 rfl (fun cs hc => by
  obtain ⟨v, rfl⟩ := hc.one rfl
  exact hk v hc)
 have hlt : id < st.H.length := (List.getElem?_eq_some_iff.1 h1).1
 have e : st.H.set id (some c') ++ [some (AVal.vec t [])] = (st.H ++ [some (AVal.vec t [])]).set id (some c') := by
  rw [List.set_append_left _ _ hlt]
 have hd : (st.H ++ [some (AVal.vec t [])])[id]? = some (some c) := by rw [List.getElem?_append_left hlt]; exact h1
 show Q11 np m μ st.H w m μ' (st.H.set id (some c') ++ [some (AVal.vec t [])]) w
 rw [e]
 refine hp.toW.trans (Q98 hp.rh hd h4 hb hp.μl (fun hz => ?_) hr (Q6a h3 rfl) (Q4k hg rfl))
 rcases hb.cells with ⟨p1, _⟩ | ⟨_, gm, _⟩
 ·omega
 ·exact gm
def Q1i.okN (np : Nat) : Q1i → Bool
 | .mask _ => true
 | .drop _ => true
 | .renum keep => Q1R keep && Q2X keep np
 | .freeze _ => true
 | .rebase _ => true
 | .own _ _ => true
 | .auto n => Nat.ble np n
def okG (np : Nat) : List Q1i → Bool
 | [] => true
 | g :: gs => g.okN np && okG np gs
theorem Q2J {np : Nat} {g : Q1i} (hg : g.okN np = true) {st st' : St} (h : g.run0 st = some st') : Q1a np st st' := by
 cases g with
 | auto n => simp [Q1i.run0] at h
 | mask keep => simp only [Q1i.run0, Option.some.injEq] at h; subst h; exact Qb8 keep
 | drop id => simp only [Q1i.run0, Option.some.injEq] at h; subst h; exact Qd6 id
 | renum keep =>
  simp only [Q1i.okN, Bool.and_eq_true] at hg
  simp only [Q1i.run0, Option.some.injEq] at h; subst h; exact Q7l hg.1 hg.2
 | freeze pl =>
  cases pl with
  | blk id p =>
   simp only [Q1i.run0, Q24.get, Option.bind_eq_some_iff, Option.map_eq_some_iff] at h
   obtain ⟨x, h1, r, h2, s', h3, h4⟩ := h
   subst h4
   exact QaL h1 h2 h3
  | slot i =>
   simp only [Q1i.run0, Q24.get, Q24.set, Option.bind_some, Option.bind_eq_some_iff, Option.map_some, Option.some.injEq] at h
   obtain ⟨r, h1, h2⟩ := h
   subst h2
   exact QbO h1
 | own pl t =>
  simp only [Q1i.run0] at h
  split at h
  ·rename_i hg0
   rw [Option.map_eq_some_iff] at h
   obtain ⟨s', h3, h4⟩ := h
   subst h4
   cases pl with
   | blk id p => exact QcR hg0 h3
   | slot i =>
    simp only [Q24.get, Option.some.injEq] at hg0
    simp only [Q24.set, Option.some.injEq] at h3
    subst h3
    exact Qds hg0
  ·cases h
 | rebase pl =>
  cases pl with
  | blk id p =>
   simp only [Q1i.run0, Q24.get] at h
   split at h
   ·rename_i id2 off len he
    split at h
    ·rename_i t xs hi
     rw [Option.map_eq_some_iff] at h
     obtain ⟨s', h3, h4⟩ := h
     subst h4
     exact QaI he hi h3
    ·cases h
   ·cases h
  | slot i =>
   simp only [Q1i.run0, Q24.get, Q24.set, Option.map_some] at h
   split at h
   ·rename_i id off len he
    split at h
    ·rename_i t xs hi
     simp only [Option.some.injEq] at h he
     subst h
     exact QbG he hi
    ·cases h
   ·cases h
theorem Qbv {i : Nat} : ∀ {l : List Nat}, inB i l = true ↔ i ∈ l
 | [] => by simp [inB]
 | j :: l => by
  simp only [inB, Bool.cond_eq_ite, List.mem_cons]
  by_cases h : i = j
  ·subst h; simp
  ·have : Nat.beq i j = false := by
    cases hb : Nat.beq i j with
    | false => rfl
    | true => exact absurd (Nat.eq_of_beq_eq_true hb) h
   rw [this]
   simp only [Bool.false_eq_true, if_false, h, false_or]
   exact Qbv
theorem Q39 : ∀ {l : List Nat}, Q1V l = true → Q1R l = true
 | [], _ => rfl
 | a :: l, h => by
  simp only [Q1V, Bool.and_eq_true, Bool.not_eq_true'] at h
  simp only [Q1R, Bool.and_eq_true, List.all_eq_true, bne_iff_ne]
  refine ⟨fun b hb e => ?_, Q39 h.2⟩
  subst e
  have := Qbv.2 hb
  rw [h.1] at this; cases this
theorem Q5g {keep : List Nat} : ∀ {n np : Nat}, np ≤ n → Q5B keep n = true → Q2X keep np = true
 | 0, np, h, _ => by rw [show np = 0 by omega]; rfl
 | n + 1, np, h, hp => by
  simp only [Q5B, Bool.and_eq_true] at hp
  by_cases he : np = n + 1
  ·subst he
   simp only [Q2X, Bool.and_eq_true, beq_iff_eq]
   refine ⟨Q5g (Nat.le_refl n) hp.1, ?_⟩
   have h2 := hp.2
   split at h2
   ·rename_i i hi
    rw [hi, Nat.eq_of_beq_eq_true h2]
   ·cases h2
  ·exact Q5g (by omega) hp.1
theorem Q7V {np m : Nat} (hm : np ≤ m) : ∀ {n : Nat} {st st' : St}, Q4j m n st = some st' → Q1a np st st'
 | 0, _, _, h => by simp [Q4j] at h
 | n + 1, st, st', h => by
  simp only [Q4j] at h
  have step : ∀ pl, (Q1i.run0 (.rebase pl) st).bind (Q4j m n) = some st' → Q1a np st st' := by
   intro pl h
   rw [Option.bind_eq_some_iff] at h
   obtain ⟨s1, h1, h2⟩ := h
   exact (Q2J (g := .rebase pl) rfl h1).trans (Q7V hm h2)
  split at h
  ·exact step _ h
  ·split at h
   ·exact step _ h
   ·rw [Bool.cond_eq_ite] at h
    split at h
    ·rename_i hc
     rw [Bool.and_eq_true] at hc
     exact Q2J (g := .renum (Q3i m st)) (by simp only [Q1i.okN, Bool.and_eq_true]; exact ⟨Q39 hc.1, Q5g hm hc.2⟩) h
    ·cases h
theorem Qc7 {np : Nat} {g : Q1i} (hg : g.okN np = true) {st st' : St} (h : g.run st = some st') : Q1a np st st' := by
 cases g with
 | auto n =>
  simp only [Q1i.okN] at hg
  exact Q7V (Nat.le_of_ble_eq_true hg) h
 | _ => exact Q2J hg h
theorem Q37 {np : Nat} : ∀ {gs : List Q1i} {st st' : St}, okG np gs = true → Q2k gs st = some st' → Q1a np st st'
 | [], st, st', _, h => by simp only [Q2k, Option.some.injEq] at h; subst h; exact .refl np st
 | g :: gs, st, st', hg, h => by
  simp only [okG, Bool.and_eq_true] at hg
  simp only [Q2k, Option.bind_eq_some_iff] at h
  obtain ⟨s, h1, h2⟩ := h
  exact (Qc7 hg.1 h1).trans (Q37 hg.2 h2)
def Goes (np : Nat) (P : Program) (c : Code) (st : St) (e : Exit) (st' : St) : Prop :=
 ∀ (m : Mem) (μ : LMap) (w : World) (a : Act) (Q : Exit → Act → World → Prop), RH m μ st.H w → RS m μ st.sl a →
  (∀ a' w' m' μ', RS m' μ' st'.sl a' → Q11 np m μ st.H w m' μ' st'.H w' → Q e a' w') → c.wp P Q a w
theorem Goes.ghost {np : Nat} {P : Program} {c : Code} {s0 st st' : St} {e : Exit} (g : Q1a np s0 st) (h : Goes np P c st e st') : Goes np P c s0 e st' := by
 intro m μ w a Q rh rs hQ
 obtain ⟨m1, μ1, rs1, p1⟩ := g m μ w a rh rs
 exact h m1 μ1 w a Q p1.rh rs1 fun a' w' m' μ' hs hp => hQ a' w' m' μ' hs (p1.trans hp)
theorem Goes.seq {np : Nat} {P : Program} {c d : Code} {st s1 st' : St} {e : Exit} (h : Goes np P c st .normal s1) (k : Goes np P d s1 e st') : Goes np P (.seq c d) st e st' := by
 intro m μ w a Q rh rs hQ
 refine wp_seq (h m μ w a _ rh rs fun a1 w1 m1 μ1 rs1 p1 => ?_)
 exact k m1 μ1 w1 a1 Q p1.rh rs1 fun a' w' m' μ' hs hp => hQ a' w' m' μ' hs (p1.trans hp)
theorem Goes.seq_out {np : Nat} {P : Program} {c d : Code} {st st' : St} {e : Exit} (h : Goes np P c st e st') (he : e ≠ .normal) : Goes np P (.seq c d) st e st' := by
 intro m μ w a Q rh rs hQ
 refine wp_seq (h m μ w a _ rh rs fun a1 w1 m1 μ1 rs1 p1 => ?_)
 have := hQ a1 w1 m1 μ1 rs1 p1
 cases e <;> first | exact absurd rfl he | exact this
def StOK (np : Nat) (P : Program) (c : Code) (s : Q2T) : Prop :=
 ∀ {ρ : Type} (st : St) (k : Exit → St → Option ρ) (r : ρ), s.f st k = some r → ∃ e st', k e st' = some r ∧ Goes np P c st e st'
def Q3 (np : Nat) (P : Program) : Code → Ann → Prop
 | _, .nil => True
 | c, .node pre sem a b => okG np pre = true ∧
  match sem with
  | some s => StOK np P c s
  | none =>
   match c with
   | .seq x y => Q3 np P x a ∧ Q3 np P y b
   | .cond _ x y => Q3 np P x a ∧ Q3 np P y b
   | .block _ x => Q3 np P x a
   | _ => True
def QaK (np : Nat) (P : Program) (a b : Ann) : Code → Prop
 | .seq x y => Q3 np P x a ∧ Q3 np P y b
 | .cond _ x y => Q3 np P x a ∧ Q3 np P y b
 | .block _ x => Q3 np P x a
 | _ => True
theorem Q3.kids {np : Nat} {P : Program} {c : Code} {ann : Ann} (h : Q3 np P c ann) (hs : ann.sem = none) : okG np ann.pre = true ∧ QaK np P ann.l ann.r c := by
 cases ann with
 | nil => refine ⟨rfl, ?_⟩; cases c <;> simp [QaK, Q3, Ann.l, Ann.r]
 | node pre sem a b =>
  simp only [Ann.sem] at hs
  subst hs
  cases c <;> (simp only [Q3] at h; exact ⟨h.1, h.2⟩)
theorem Q3.told {np : Nat} {P : Program} {c : Code} {ann : Ann} {s : Q2T} (h : Q3 np P c ann) (hs : ann.sem = some s) : okG np ann.pre = true ∧ StOK np P c s := by
 cases ann with
 | nil => cases hs
 | node pre sem a b =>
  simp only [Ann.sem] at hs
  subst hs
  cases c <;> (simp only [Q3] at h; exact ⟨h.1, h.2⟩)
def evK {ρ : Type} (C : Ctx) (a b : Ann) (st : St) (k : Exit → St → Option ρ) : Code → Option ρ
 | .skip => k .normal st
 | .region _ ops draw => Qbg C ops draw st (k .normal)
 | .seq x y => evC C x a st fun e st' => (match e with | .normal => evC C y b st' k | e => k e st')
 | .cond v t e => (match Q0i st.sl v with | .bool z => cond z (evC C t a st k) (evC C e b st k) | _ => none)
 | .block id body => evC C body a st fun e st' => (match e with | .exit i => cond (i == id) (k .normal st') (k (.exit i) st') | e => k e st')
 | .exit id => k (.exit id) st
 | .ret => k .ret st
 | _ => none
theorem QcC {ρ : Type} {C : Ctx} (c : Code) (ann : Ann) (st0 : St) (k : Exit → St → Option ρ) :
  evC C c ann st0 k = match Q2k ann.pre st0 with
   | none => none
   | some st => match ann.sem with
    | some s => s.f st k
    | none => evK C ann.l ann.r st k c := by
 rw [evC]
 cases Q2k ann.pre st0 with
 | none => rfl
 | some st =>
  dsimp only
  cases ann.sem with
  | some s => rfl
  | none => cases c <;> rfl
theorem Q1u {ρ : Type} {np : Nat} {C : Ctx} (hΓ : ∀ f, Qb C.P f (C.Γ f)) (hmix : C.P.follows .mixedOrders = true) : ∀ (c : Code) (ann : Ann) (st0 : St) (k : Exit → St → Option ρ) (r : ρ), Q3 np C.P c ann → evC C c ann st0 k = some r →
  ∃ e st', k e st' = some r ∧ Goes np C.P c st0 e st' := by
 have head : ∀ (c : Code), (∀ (ann : Ann) (st : St) (k : Exit → St → Option ρ) (r : ρ), QaK np C.P ann.l ann.r c → evK C ann.l ann.r st k c = some r → ∃ e st', k e st' = some r ∧ Goes np C.P c st e st') →
   ∀ (ann : Ann) (st0 : St) (k : Exit → St → Option ρ) (r : ρ), Q3 np C.P c ann → evC C c ann st0 k = some r → ∃ e st', k e st' = some r ∧ Goes np C.P c st0 e st' := by
  intro c H ann st0 k r hA h
  rw [QcC] at h
  cases hg : Q2k ann.pre st0 with
  | none => rw [hg] at h; cases h
  | some st =>
   rw [hg] at h
   dsimp only at h
   cases hs : ann.sem with
   | some s =>
    rw [hs] at h
    obtain ⟨h1, h2⟩ := hA.told hs
    obtain ⟨e, st', h3, h4⟩ := h2 st k r h
    exact ⟨e, st', h3, h4.ghost (Q37 h1 hg)⟩
   | none =>
    rw [hs] at h
    obtain ⟨h1, h2⟩ := hA.kids hs
    obtain ⟨e, st', h3, h4⟩ := H ann st k r h2 h
    exact ⟨e, st', h3, h4.ghost (Q37 h1 hg)⟩
 intro c
 induction c with
 | skip => exact head _ fun ann st k r _ h => ⟨_, _, h, fun m μ w a Q rh rs hQ => wp_skip (hQ _ _ _ _ rs (Post.refl rh).toW)⟩
 | ret => exact head _ fun ann st k r _ h => ⟨_, _, h, fun m μ w a Q rh rs hQ => wp_ret (hQ _ _ _ _ rs (Post.refl rh).toW)⟩
 | exit id => exact head _ fun ann st k r _ h => ⟨_, _, h, fun m μ w a Q rh rs hQ => wp_exit (hQ _ _ _ _ rs (Post.refl rh).toW)⟩
 | region id ops draw =>
  refine head _ fun ann st k r _ h => ?_
  obtain ⟨st', h1, h2⟩ := Qaj hΓ hmix h
  exact ⟨_, _, h1, fun m μ w a Q rh rs hQ => h2 id m μ w a Q rh rs fun a' w' m' μ' hs hp => hQ _ _ _ _ hs hp.toW⟩
 | seq x y ihx ihy =>
  refine head _ fun ann st k r hk h => ?_
  obtain ⟨e, s1, h1, h2⟩ := ihx _ _ _ _ hk.1 h
  cases e with
  | normal =>
   obtain ⟨e', s2, h3, h4⟩ := ihy _ _ _ _ hk.2 h1
   exact ⟨e', s2, h3, h2.seq h4⟩
  | _ => exact ⟨_, _, h1, h2.seq_out (by simp)⟩
 | cond v t e iht ihe =>
  refine head _ fun ann st k r hk h => ?_
  simp only [evK] at h
  split at h
  ·rename_i z hz
   cases z with
   | true =>
    obtain ⟨e', s', h1, h2⟩ := iht _ _ _ _ hk.1 h
    refine ⟨e', s', h1, fun m μ w a Q rh rs hQ => wp_cond_true ?_ (h2 m μ w a Q rh rs hQ)⟩
    have := Q04 rs v
    rw [hz] at this
    exact this.isBool
   | false =>
    obtain ⟨e', s', h1, h2⟩ := ihe _ _ _ _ hk.2 h
    refine ⟨e', s', h1, fun m μ w a Q rh rs hQ => wp_cond_false ?_ (h2 m μ w a Q rh rs hQ)⟩
    have := Q04 rs v
    rw [hz] at this
    exact this.isBool
  ·cases h
 | block id body ih =>
  refine head _ fun ann st k r hk h => ?_
  obtain ⟨e, s1, h1, h2⟩ := ih _ _ _ _ hk h
  cases e with
  | exit i =>
   dsimp only at h1
   by_cases hi : i = id
   ·subst hi
    rw [beq_self_eq_true, cond_true] at h1
    exact ⟨_, _, h1, fun m μ w a Q rh rs hQ => wp_block (h2 m μ w a _ rh rs fun a' w' m' μ' hs hp => by simp only [Exit.inBlock, if_true]; exact hQ _ _ _ _ hs hp)⟩
   ·rw [beq_false_of_ne hi, cond_false] at h1
    exact ⟨_, _, h1, fun m μ w a Q rh rs hQ => wp_block (h2 m μ w a _ rh rs fun a' w' m' μ' hs hp => by simp only [Exit.inBlock, if_neg hi]; exact hQ _ _ _ _ hs hp)⟩
  | _ => exact ⟨_, _, h1, fun m μ w a Q rh rs hQ => wp_block (h2 m μ w a _ rh rs fun a' w' m' μ' hs hp => hQ _ _ _ _ hs hp)⟩
 | _ => exact head _ fun ann st k r _ h => by cases h
end Go.Am
namespace Go.Am
open Go
inductive Tm where
 | undef
 | dat (t : Ty)
 | vec (t : Ty)
 | vsl (id : Nat)
 | slr (id : Nat) (p : List Nat)
 | ptr (id : Nat) (p : List Nat)
 | nilp
 | nils
 | sfp (id : Nat) (p : List Nat) (T : TypeId)
 | vbs (id : Nat)
 | mp (id : Nat)
 | nilm
 | mpd (kt vt : Ty)
 | unit
 | pair (a b : Tm)
 | fn (f : Nat) (c : Tm)
 | tup (c : Tm)
@[reducible] def Tm.den : Tm → Type
 | .dat t => t.den
 | .vec t => List t.den
 | .slr _ _ => Nat × Nat
 | .mpd kt vt => List (kt.den × vt.den)
 | .pair a b => a.den × b.den
 | .fn _ c => c.den
 | .tup c => c.den
 | _ => Unit
def Tm.inst : (t : Tm) → t.den → AVal
 | .undef, _ => .undef
 | .dat t, x => toA t x
 | .vec t, x => .vec t x
 | .vsl id, _ => .vsl id
 | .slr id p, x => .sl id p x.1 x.2
 | .ptr id p, _ => .ptr id p
 | .nilp, _ => .nilp
 | .sfp id p T, _ => .sfp id p T
 | .vbs id, _ => .vbs id
 | .mp id, _ => .mp id
 | .nilm, _ => .nilm
 | .mpd kt vt, x => .mpc kt vt x
 | .nils, _ => .nils
 | .unit, _ => .unit
 | .pair a b, x => .pair (a.inst x.1) (b.inst x.2)
 | .fn f c, x => .fn f (c.inst x)
 | .tup c, x => .tup (c.inst x)
def Qdo : List Nat → List Nat → Bool
 | [], [] => true
 | a :: l, b :: r => a == b && Qdo l r
 | _, _ => false
def Tm.mat : (t : Tm) → AVal → Option t.den
 | .undef, _ => some ()
 | .dat t, a => Q12 t a
 | .vec t, .vec t' xs => if h : t' = t then some (h ▸ xs) else none
 | .vsl id, .vsl id' => if id' = id then some () else none
 | .slr id p, .sl id' p' off len => if id' = id ∧ p' = p then some (off, len) else none
 | .ptr id p, .ptr id' p' => if id' = id ∧ p' = p then some () else none
 | .nilp, .nilp => some ()
 | .vbs id, .vbs id' => if id' = id then some () else none
 | .mp id, .mp id' => if id' = id then some () else none
 | .nilm, .nilm => some ()
 | .mpd kt vt, .mpc kt' vt' xs => if h : kt' = kt then (if h2 : vt' = vt then some (h ▸ h2 ▸ xs) else none) else none
 | .sfp id p T, .sfp id' p' T' => if id' = id ∧ p' = p ∧ T' = T then some () else none
 | .nils, .nils => some ()
 | .unit, .unit => some ()
 | .pair a b, .pair x y => (a.mat x).bind fun u => (b.mat y).bind fun v => some (u, v)
 | .fn f c, .fn f' x => if f' = f then c.mat x else none
 | .tup c, .tup x => c.mat x
 | _, _ => none
@[reducible] def tdens : List Tm → Type
 | [] => Unit
 | .undef :: ts => tdens ts
 | .vsl _ :: ts => tdens ts
 | .ptr _ _ :: ts => tdens ts
 | .nilp :: ts => tdens ts
 | .sfp _ _ _ :: ts => tdens ts
 | .vbs _ :: ts => tdens ts
 | .mp _ :: ts => tdens ts
 | .nilm :: ts => tdens ts
 | .nils :: ts => tdens ts
 | .unit :: ts => tdens ts
 | t :: ts => t.den × tdens ts
def Q1j : (ts : List Tm) → tdens ts → List AVal
 | [], _ => []
 | .undef :: ts, x => .undef :: Q1j ts x
 | .dat t :: ts, x => Tm.inst (.dat t) x.1 :: Q1j ts x.2
 | .vec t :: ts, x => Tm.inst (.vec t) x.1 :: Q1j ts x.2
 | .vsl i :: ts, x => Tm.inst (.vsl i) () :: Q1j ts x
 | .slr i p :: ts, x => Tm.inst (.slr i p) x.1 :: Q1j ts x.2
 | .ptr i p :: ts, x => Tm.inst (.ptr i p) () :: Q1j ts x
 | .nilp :: ts, x => Tm.inst .nilp () :: Q1j ts x
 | .sfp i p T :: ts, x => Tm.inst (.sfp i p T) () :: Q1j ts x
 | .vbs i :: ts, x => Tm.inst (.vbs i) () :: Q1j ts x
 | .mp i :: ts, x => Tm.inst (.mp i) () :: Q1j ts x
 | .nilm :: ts, x => Tm.inst .nilm () :: Q1j ts x
 | .mpd k v :: ts, x => Tm.inst (.mpd k v) x.1 :: Q1j ts x.2
 | .nils :: ts, x => Tm.inst .nils () :: Q1j ts x
 | .unit :: ts, x => Tm.inst .unit () :: Q1j ts x
 | .pair a b :: ts, x => Tm.inst (.pair a b) x.1 :: Q1j ts x.2
 | .fn f c :: ts, x => Tm.inst (.fn f c) x.1 :: Q1j ts x.2
 | .tup c :: ts, x => Tm.inst (.tup c) x.1 :: Q1j ts x.2
def matL : (ts : List Tm) → List AVal → Option (tdens ts)
 | [], [] => some ()
 | .undef :: ts, _ :: as => matL ts as
 | .dat t :: ts, a :: as => (Tm.mat (.dat t) a).bind fun x => (matL ts as).bind fun y => some (x, y)
 | .vec t :: ts, a :: as => (Tm.mat (.vec t) a).bind fun x => (matL ts as).bind fun y => some (x, y)
 | .vsl i :: ts, a :: as => (Tm.mat (.vsl i) a).bind fun _ => matL ts as
 | .slr i p :: ts, a :: as => (Tm.mat (.slr i p) a).bind fun x => (matL ts as).bind fun y => some (x, y)
 | .ptr i p :: ts, a :: as => (Tm.mat (.ptr i p) a).bind fun _ => matL ts as
 | .nilp :: ts, a :: as => (Tm.mat .nilp a).bind fun _ => matL ts as
 | .sfp i p T :: ts, a :: as => (Tm.mat (.sfp i p T) a).bind fun _ => matL ts as
 | .vbs i :: ts, a :: as => (Tm.mat (.vbs i) a).bind fun _ => matL ts as
 | .mp i :: ts, a :: as => (Tm.mat (.mp i) a).bind fun _ => matL ts as
 | .nilm :: ts, a :: as => (Tm.mat .nilm a).bind fun _ => matL ts as
 | .mpd k v :: ts, a :: as => (Tm.mat (.mpd k v) a).bind fun x => (matL ts as).bind fun y => some (x, y)
 | .nils :: ts, a :: as => (Tm.mat .nils a).bind fun _ => matL ts as
 | .unit :: ts, a :: as => (Tm.mat .unit a).bind fun _ => matL ts as
 | .pair b c :: ts, a :: as => (Tm.mat (.pair b c) a).bind fun x => (matL ts as).bind fun y => some (x, y)
 | .fn f c :: ts, a :: as => (Tm.mat (.fn f c) a).bind fun x => (matL ts as).bind fun y => some (x, y)
 | .tup c :: ts, a :: as => (Tm.mat (.tup c) a).bind fun x => (matL ts as).bind fun y => some (x, y)
 | _, _ => none
@[reducible] def us (n : Nat) : List Tm := List.replicate n .undef
structure StT where
 sl : List Tm
 H : List Tm
@[reducible] def StT.den (T : StT) : Type := tdens (T.sl ++ T.H)
def optH : List AVal → Heap
 | [] => []
 | .undef :: l => none :: optH l
 | a :: l => some a :: optH l
def StT.inst (T : StT) (x : T.den) : St :=
 let l := Q1j (T.sl ++ T.H) x
 ⟨l.take T.sl.length, optH (l.drop T.sl.length)⟩
def valH : Heap → List AVal
 | [] => []
 | none :: l => .undef :: valH l
 | some a :: l => a :: valH l
def QdW : Tm → Bool
 | .tup _ => false
 | _ => true
def StT.mat (T : StT) (s : St) : Option T.den :=
 if s.sl.length = T.sl.length ∧ s.H.length = T.H.length then matL (T.sl ++ T.H) (s.sl ++ valH s.H) else none
structure Out where
 e : Exit
 gs : List Q1i
 T : StT
@[reducible] def outDen : List Out → Type
 | [] => Empty
 | [o] => o.T.den
 | o :: os => o.T.den ⊕ outDen os
def Q6u : Exit → Exit → Bool
 | .normal, .normal => true
 | .ret, .ret => true
 | .exit i, .exit j => i == j
 | _, _ => false
def Out.go {ρ : Type} (o : Out) (s : St) (K : o.T.den → Option ρ) : Option ρ :=
 match Q2k o.gs s with
 | some s' => (match o.T.mat s' with | some x => K x | none => none)
 | none => none
def Q3M {ρ : Type} : (os : List Out) → Exit → St → (outDen os → Option ρ) → Option ρ
 | [], _, _, _ => none
 | [o], e, s, K => cond (Q6u e o.e) (o.go s K) none
 | o :: o' :: os, e, s, K =>
  match cond (Q6u e o.e) ((Q2k o.gs s).bind o.T.mat) none with
  | some x => K (.inl x)
  | none => Q3M (o' :: os) e s fun y => K (.inr y)
def Q27 {ρ : Type} : (os : List Out) → outDen os → (Exit → St → Option ρ) → Option ρ
 | [], _, _ => none
 | [o], x, K => K o.e (o.T.inst x)
 | o :: o' :: os, x, K => Sum.elim (fun a => K o.e (o.T.inst a)) (fun b => Q27 (o' :: os) b K) (show o.T.den ⊕ outDen (o' :: os) from x)
def Qv (T : StT) (os : List Out) (J : T.den → Option (outDen os)) : Q2T :=
 ⟨fun s K => match T.mat s with | some x => (J x).bind fun y => Q27 os y K | none => none⟩
def Q15 {σ τ : Type} (r : {ρ : Type} → σ → (σ → Option ρ) → (τ → Option ρ) → Option ρ) : Nat → σ → Option τ
 | 0, _ => none
 | k + 1, x => r x (Q15 r k) some
def Q7r {ρ : Type} (T : StT) (gs : List Q1i) (os : List Out) (kn : T.den → Option ρ) (ke : outDen os → Option ρ) (e : Exit) (s : St) : Option ρ :=
 match e with
 | .normal => Out.go ⟨.normal, gs, T⟩ s kn
 | e => Q3M os e s ke
def Q45 (C : Ctx) (c : Code) (ann : Ann) (T : StT) (os : List Out) (r : {ρ : Type} → T.den → (outDen os → Option ρ) → Option ρ) : Prop :=
 ∀ {ρ : Type} (x : T.den) (K : outDen os → Option ρ), evC C c ann (T.inst x) (fun e s => Q3M os e s K) = r x K
@[reducible] def dens : List Ty → Type
 | [] => Unit
 | t :: ts => t.den × dens ts
def argD (H : Heap) : (t : Ty) → AVal → Option (t.den × List Nat)
 | .sl t, a =>
  match a with
  | .nils => some ([], [])
  | a =>
   match Q2U H a with
   | some ⟨t', xs, ids⟩ => if h : t' = t then cond (t.size == 0) none (some (h ▸ xs, ids)) else none
   | none => none
 | .pair a b, v =>
  match v with
  | .pair x y => (argD H a x).bind fun u => (argD H b y).bind fun w => some ((u.1, w.1), u.2 ++ w.2)
  | _ => none
 | t, a => (Q12 t a).bind fun x => some (x, [])
def Q2G (H : Heap) : (ts : List Ty) → List AVal → Option (dens ts × List Nat)
 | [], [] => some ((), [])
 | t :: ts, a :: as => (argD H t a).bind fun u => (Q2G H ts as).bind fun w => some ((u.1, w.1), u.2 ++ w.2)
 | _, _ => none
def QaT : (ts : List Ty) → dens ts → AVal
 | [], _ => .unit
 | t :: ts, x => .pair (toA t x.1) (QaT ts x.2)
def resA : (ts : List Ty) → dens ts → AVal
 | [t], x => toA t x.1
 | ts, x => .tup (QaT ts x)
def Q2e : Ty → Bool
 | .sl _ => false
 | .pair a b => Q2e a && Q2e b
 | .arr _ t => Q2e t
 | _ => true
def Qn (tin tout : List Ty) (J : dens tin → Option (dens tout)) : Qj :=
 ⟨fun as H k => match Q2G H tin as with
  | some (x, ids) => cond (ids.isEmpty || tout.all Q2e) ((J x).bind fun y => k (resA tout y) H (if ids.isEmpty then .pure else .read ids)) none
  | none => none⟩
def Q7w (P : Program) (st : St) : ResultVar → Option AVal
 | .tmp t => some (st.sl.getD t .undef)
 | .cell a T =>
  match Q8F P st.H T (st.sl.getD a .undef) with
  | some r => some r.v
  | none => none
def retK {ρ : Type} (P : Program) (st : St) : (rs : List ResultVar) → (ts : List Ty) → (dens ts → Option ρ) → Option ρ
 | [], [], K => K ()
 | r :: rs, t :: ts, K =>
  match Q7w P st r with
  | some v => (match frzA st.H v with | some q => (match Q12 t q.1 with | some x => retK P st rs ts fun y => K (x, y) | none => none) | none => none)
  | none => none
 | _, _, _ => none
def finK {ρ : Type} (P : Program) (rs : List ResultVar) (ts : List Ty) (K : dens ts → Option ρ) (e : Exit) (st : St) : Option ρ :=
 match e with
 | .ret => retK P st rs ts K
 | .normal => retK P st rs ts K
 | _ => none
def Q20 : (ts : List Ty) → dens ts → List AVal
 | [], _ => []
 | t :: ts, x => toA t x.1 :: Q20 ts x.2
def Q32 (n : Nat) (args : List AVal) : St := ⟨args ++ List.replicate (n - args.length) .undef, []⟩
def Q0M (C : Ctx) (fn : Func) (c : Code) (ann : Ann) (tin tout : List Ty) (F : {ρ : Type} → dens tin → (dens tout → Option ρ) → Option ρ) : Prop :=
 ∀ {ρ : Type} (x : dens tin) (K : dens tout → Option ρ), evC C c ann (Q32 fn.ntmps (Q20 tin x)) (finK C.P fn.results.toList tout K) = F x K
def Qbs : Qj := ⟨fun _ _ _ => none⟩
def gam : List (Nat × Qj) → Nat → Qj
 | [], _ => Qbs
 | (i, s) :: l, f => if f = i then s else gam l f
def Q0V (C : Ctx) (c : Code) (ann : Ann) (T : StT) (gs : List Q1i) (os : List Out) (r : {ρ : Type} → T.den → (T.den → Option ρ) → (outDen os → Option ρ) → Option ρ) : Prop :=
 ∀ {ρ : Type} (x : T.den) (kn : T.den → Option ρ) (ke : outDen os → Option ρ), evC C c ann (T.inst x) (Q7r T gs os kn ke) = r x kn ke
def Q0e : Code → List Nat → Code
 | c, [] => c
 | .seq a b, i :: p => cond (i == 0) (Q0e a p) (Q0e b p)
 | .cond _ a b, i :: p => cond (i == 0) (Q0e a p) (Q0e b p)
 | .block _ a, _ :: p => Q0e a p
 | .loop a, _ :: p => Q0e a p
 | c, _ => c
def Func.code (fn : Func) : Code := fn.body.getD .skip
end Go.Am
namespace Go.Am
open Go
def Tm.okV : Tm → Bool
 | .undef => false
 | .pair a b => a.okV && b.okV
 | .fn _ c => c.okV
 | .tup _ => false
 | _ => true
def Tm.okT : Tm → Bool
 | .unit => true
 | .pair a b => (a.okV || (match a with | .undef => true | _ => false)) && b.okT
 | _ => false
def Tm.ok : Tm → Bool
 | .undef => true
 | .tup c => c.okT
 | t => t.okV
def okTs : List Tm → Bool
 | [] => true
 | t :: ts => t.ok && okTs ts
theorem Q5f : ∀ {t : Ty} {a : AVal} {x : t.den}, Q12 t a = some x → a.sh = t.sh ∧ a.isAgg = (toA t x).isAgg ∧ a ≠ .undef ∧ ∀ s, a ≠ .tup s := by
 intro t a x h
 refine ⟨(Q1Y (m := fun _ => none) (μ := fun _ => none) h).1, ?_, ?_, ?_⟩
 ·cases t <;> cases a <;> simp_all [Q12, toA, AVal.isAgg]
 ·rintro rfl; cases t <;> simp [Q12] at h
 ·rintro s rfl; cases t <;> simp [Q12] at h
theorem Q3J {t : Ty} {x : t.den} : toA t x ≠ .undef ∧ ∀ s, toA t x ≠ .tup s := by
 cases t <;> simp [toA]
theorem Qax {t : Ty} {a : AVal} {x : t.den} {m : Mem} {μ : LMap} {cs : List Value} (h : Q12 t a = some x) (hc : CRel m μ a cs) : CRel m μ (toA t x) cs := Q1n.2 ((Q1Y h).2 hc)
theorem Tm.mat_rel {m : Mem} {μ : LMap} : ∀ {t : Tm} {a : AVal} {x : t.den}, t.okV = true → t.mat a = some x → (t.inst x).sh = a.sh ∧ (t.inst x).isAgg = a.isAgg ∧ (t.inst x ≠ .undef ∧ ∀ s, t.inst x ≠ .tup s) ∧ (a ≠ .undef ∧ ∀ s, a ≠ .tup s) ∧ ∀ {cs : List Value}, CRel m μ a cs → CRel m μ (t.inst x) cs
 | .undef, _, _, ho, _ => by cases ho
 | .tup _, _, _, ho, _ => by cases ho
 | .dat t, a, x, _, h => by
  simp only [Tm.mat] at h
  obtain ⟨h1, h2, h3, h4⟩ := Q5f h
  exact ⟨by rw [Tm.inst, Q6g, h1], h2.symm, Q3J, ⟨h3, h4⟩, fun hc => Qax h hc⟩
 | .vec t, a, x, _, h => by
  cases a <;> simp only [Tm.mat] at h <;> try (cases h; done)
  rename_i t' xs
  split at h
  ·rename_i e; subst e
   cases h
   exact ⟨rfl, rfl, ⟨by simp [Tm.inst], by simp [Tm.inst]⟩, ⟨by simp, by simp⟩, fun hc => hc⟩
  ·cases h
 | .vsl id, a, x, _, h => by
  cases a <;> simp only [Tm.mat] at h <;> try (cases h; done)
  split at h
  ·rename_i e; subst e
   exact ⟨rfl, rfl, ⟨by simp [Tm.inst], by simp [Tm.inst]⟩, ⟨by simp, by simp⟩, fun hc => hc⟩
  ·cases h
 | .slr id p, a, x, _, h => by
  cases a <;> simp only [Tm.mat] at h <;> try (cases h; done)
  split at h
  ·rename_i e; obtain ⟨rfl, rfl⟩ := e
   cases h
   exact ⟨rfl, rfl, ⟨by simp [Tm.inst], by simp [Tm.inst]⟩, ⟨by simp, by simp⟩, fun hc => hc⟩
  ·cases h
 | .ptr id p, a, x, _, h => by
  cases a <;> simp only [Tm.mat] at h <;> try (cases h; done)
  split at h
  ·rename_i e; obtain ⟨rfl, rfl⟩ := e
   exact ⟨rfl, rfl, ⟨by simp [Tm.inst], by simp [Tm.inst]⟩, ⟨by simp, by simp⟩, fun hc => hc⟩
  ·cases h
 | .vbs id, a, x, _, h => by
  cases a <;> simp only [Tm.mat] at h <;> try (cases h; done)
  split at h
  ·rename_i e; subst e
   exact ⟨rfl, rfl, ⟨by simp [Tm.inst], by simp [Tm.inst]⟩, ⟨by simp, by simp⟩, fun hc => hc⟩
  ·cases h
 | .mp id, a, x, _, h => by
  cases a <;> simp only [Tm.mat] at h <;> try (cases h; done)
  split at h
  ·rename_i e; subst e
   exact ⟨rfl, rfl, ⟨by simp [Tm.inst], by simp [Tm.inst]⟩, ⟨by simp, by simp⟩, fun hc => hc⟩
  ·cases h
 | .nilm, a, x, _, h => by
  cases a <;> simp only [Tm.mat] at h <;> try (cases h; done)
  exact ⟨rfl, rfl, ⟨by simp [Tm.inst], by simp [Tm.inst]⟩, ⟨by simp, by simp⟩, fun hc => hc⟩
 | .mpd kt vt, a, x, _, h => by
  cases a <;> simp only [Tm.mat] at h <;> try (cases h; done)
  split at h
  ·rename_i e; subst e
   split at h
   ·rename_i e; subst e
    exact ⟨rfl, rfl, ⟨by simp [Tm.inst], by simp [Tm.inst]⟩, ⟨by simp, by simp⟩, fun hc => hc⟩
   ·cases h
  ·cases h
 | .sfp id p T, a, x, _, h => by
  cases a <;> simp only [Tm.mat] at h <;> try (cases h; done)
  split at h
  ·rename_i e; obtain ⟨rfl, rfl, rfl⟩ := e
   exact ⟨rfl, rfl, ⟨by simp [Tm.inst], by simp [Tm.inst]⟩, ⟨by simp, by simp⟩, fun hc => hc⟩
  ·cases h
 | .nilp, a, x, _, h => by
  cases a <;> simp only [Tm.mat] at h <;> try (cases h; done)
  exact ⟨rfl, rfl, ⟨by simp [Tm.inst], by simp [Tm.inst]⟩, ⟨by simp, by simp⟩, fun hc => hc⟩
 | .nils, a, x, _, h => by
  cases a <;> simp only [Tm.mat] at h <;> try (cases h; done)
  exact ⟨rfl, rfl, ⟨by simp [Tm.inst], by simp [Tm.inst]⟩, ⟨by simp, by simp⟩, fun hc => hc⟩
 | .unit, a, x, _, h => by
  cases a <;> simp only [Tm.mat] at h <;> try (cases h; done)
  exact ⟨rfl, rfl, ⟨by simp [Tm.inst], by simp [Tm.inst]⟩, ⟨by simp, by simp⟩, fun hc => hc⟩
 | .pair t s, a, x, ho, h => by
  simp only [Tm.okV, Bool.and_eq_true] at ho
  cases a <;> simp only [Tm.mat] at h <;> try (cases h; done)
  rename_i a b
  simp only [Option.bind_eq_some_iff, Option.some.injEq] at h
  obtain ⟨u, hu, v, hv, h⟩ := h
  subst h
  obtain ⟨p1, _, _, _, p5⟩ := Tm.mat_rel (m := m) (μ := μ) ho.1 hu
  obtain ⟨q1, _, _, _, q5⟩ := Tm.mat_rel (m := m) (μ := μ) ho.2 hv
  refine ⟨by simp only [Tm.inst, AVal.sh, p1, q1], rfl, ⟨by simp [Tm.inst], by simp [Tm.inst]⟩, ⟨by simp, by simp⟩, fun hc => ?_⟩
  simp only [CRel, Tm.inst] at hc ⊢
  have hs : (t.inst u).size = a.size := by unfold AVal.size; rw [p1]
  rw [hs]
  exact ⟨p5 hc.1, q5 hc.2⟩
 | .fn f c, a, x, ho, h => by
  simp only [Tm.okV] at ho
  cases a <;> simp only [Tm.mat] at h <;> try (cases h; done)
  split at h
  ·rename_i e; subst e
   obtain ⟨_, _, _, _, p5⟩ := Tm.mat_rel (m := m) (μ := μ) ho h
   refine ⟨rfl, rfl, ⟨by simp [Tm.inst], by simp [Tm.inst]⟩, ⟨by simp, by simp⟩, fun hc => ?_⟩
   simp only [CRel, Tm.inst] at hc ⊢
   obtain ⟨cap, h1, h2⟩ := hc
   exact ⟨cap, h1, p5 h2⟩
  ·cases h
theorem Tm.mat_mp {t : Tm} {kt vt : Ty} {xs : List (kt.den × vt.den)} {x : t.den} (ho : t.okV = true) (h : t.mat (.mpc kt vt xs) = some x) : t.inst x = .mpc kt vt xs := by
 cases t <;> simp only [Tm.mat] at h <;> try (cases h; done)
 ·cases ho
 ·rename_i t; cases t <;> simp [Q12] at h
 ·split at h
  ·rename_i e; subst e
   split at h
   ·rename_i e; subst e
    cases h
    rfl
   ·cases h
  ·cases h
theorem Tm.mat_vb {t : Tm} {a : AVal} {x : t.den} (h : t.mat a = some x) (hv : (t.inst x).isVb = true) : a.isVb = true := by
 cases t with
 | vec t =>
  cases a <;> simp only [Tm.mat] at h <;> try (cases h; done)
  rename_i t' xs
  split at h
  ·rename_i e; subst e
   simp only [Tm.inst] at hv
   rw [Q6l xs x]; exact hv
  ·cases h
 | dat t => cases t <;> cases hv
 | _ => cases hv
theorem Tm.mat_vrel0 {m : Mem} {μ : LMap} {t : Tm} {a : AVal} {x : t.den} {v : Value} (ho : t.okV = true) (h : t.mat a = some x) (hv : Q1k m μ a v) : Q1k m μ (t.inst x) v := by
 obtain ⟨_, h2, h3, h4, h5⟩ := Tm.mat_rel (m := m) (μ := μ) ho h
 rw [Q1K h4.1 h4.2] at hv
 rw [Q1K h3.1 h3.2, h2]
 split
 ·rename_i ha
  rw [if_pos ha] at hv
  obtain ⟨cs, h6, h7⟩ := hv
  exact ⟨cs, h6, h5 h7⟩
 ·rename_i ha
  rw [if_neg ha] at hv
  exact h5 hv
theorem Tm.mat_trel {m : Mem} {μ : LMap} : ∀ {t : Tm} {a : AVal} {x : t.den} {vs : List Value}, t.okT = true → t.mat a = some x → TRel m μ a vs → TRel m μ (t.inst x) vs
 | .unit, a, x, vs, _, h, hv => by
  cases a <;> simp only [Tm.mat] at h <;> try (cases h; done)
  exact hv
 | .pair t s, a, x, vs, ho, h, hv => by
  simp only [Tm.okT, Bool.and_eq_true, Bool.or_eq_true] at ho
  cases a <;> simp only [Tm.mat] at h <;> try (cases h; done)
  rename_i a b
  simp only [Option.bind_eq_some_iff, Option.some.injEq] at h
  obtain ⟨u, hu, w, hw, h⟩ := h
  subst h
  obtain ⟨v, r, h1, h2, h3⟩ := hv
  refine ⟨v, r, h1, ?_, Tm.mat_trel ho.2 hw h3⟩
  rcases ho.1 with h4 | h4
  ·exact Tm.mat_vrel0 h4 hu h2
  ·cases t <;> simp at h4
   trivial
 | .undef, _, _, _, ho, _, _ | .dat _, _, _, _, ho, _, _ | .vec _, _, _, _, ho, _, _ | .vsl _, _, _, _, ho, _, _ | .slr _ _, _, _, _, ho, _, _ | .ptr _ _, _, _, _, ho, _, _ | .nilp, _, _, _, ho, _, _ | .sfp _ _ _, _, _, _, ho, _, _ | .vbs _, _, _, _, ho, _, _ | .mp _, _, _, _, ho, _, _ | .nilm, _, _, _, ho, _, _ | .mpd _ _, _, _, _, ho, _, _ | .nils, _, _, _, ho, _, _ | .fn _ _, _, _, _, ho, _, _ | .tup _, _, _, _, ho, _, _ => by cases ho
theorem Tm.mat_vrel {m : Mem} {μ : LMap} {t : Tm} {a : AVal} {x : t.den} {v : Value} (ho : t.ok = true) (h : t.mat a = some x) (hv : VRel m μ a v) : VRel m μ (t.inst x) v := by
 by_cases hu : t = .undef
 ·subst hu; trivial
 by_cases ht : ∃ c, t = .tup c
 ·obtain ⟨c, rfl⟩ := ht
  cases a <;> simp only [Tm.mat] at h <;> try (cases h; done)
  obtain ⟨vs, h1, h2⟩ := hv
  exact ⟨vs, h1, Tm.mat_trel ho h h2⟩
 ·have ho' : t.okV = true := by cases t <;> first | exact ho | exact absurd rfl hu | exact absurd ⟨_, rfl⟩ ht
  obtain ⟨_, _, h3, h4, _⟩ := Tm.mat_rel (m := m) (μ := μ) ho' h
  have e : VRel m μ a v = Q1k m μ a v := by
   cases a <;> first | rfl | exact absurd rfl (h4.2 _)
  have e' : VRel m μ (t.inst x) v = Q1k m μ (t.inst x) v := by
   generalize t.inst x = y at h3
   cases y <;> first | rfl | exact absurd rfl (h3.2 _)
  rw [e] at hv; rw [e']
  exact Tm.mat_vrel0 ho' h hv
theorem Q6y : ∀ {ts : List Tm} {as : List AVal} {x : tdens ts}, matL ts as = some x → (Q1j ts x).length = ts.length ∧ as.length = ts.length ∧
    ∀ (i : Nat) (t : Tm), ts[i]? = some t → ∃ a y, as[i]? = some a ∧ t.mat a = some y ∧ (Q1j ts x)[i]? = some (t.inst y)
  | [], [], _, _ => ⟨rfl, rfl, fun i t h => by simp at h⟩
  | [], _ :: _, _, h => by simp [matL] at h
  | t :: ts, [], x, h => by cases t <;> simp [matL] at h
  | t :: ts, a :: as, x, h => by
    have key : ∀ (y : t.den) (z : tdens ts), t.mat a = some y → matL ts as = some z → Q1j (t :: ts) x = t.inst y :: Q1j ts z →
        (Q1j (t :: ts) x).length = (t :: ts).length ∧ (a :: as).length = (t :: ts).length ∧
        ∀ (i : Nat) (t' : Tm), (t :: ts)[i]? = some t' → ∃ a' y, (a :: as)[i]? = some a' ∧ t'.mat a' = some y ∧ (Q1j (t :: ts) x)[i]? = some (t'.inst y) := by
      intro y z h1 h2 h3
      obtain ⟨g1, g2, g3⟩ := Q6y h2
      rw [h3]
      refine ⟨by simp [g1], by simp [g2], fun i t' hi => ?_⟩
      cases i with
      | zero => simp only [List.getElem?_cons_zero, Option.some.injEq] at hi ⊢; subst hi; exact ⟨a, y, rfl, h1, rfl⟩
      | succ i => simp only [List.getElem?_cons_succ] at hi ⊢; exact g3 i t' hi
    cases t <;> first
      | (exact key () x rfl h rfl)
      | (simp only [matL, Option.bind_eq_some_iff, Option.some.injEq] at h
         obtain ⟨u, hu, v, hv, h⟩ := h
         subst h
         exact key u v hu hv rfl)
      | (simp only [matL, Option.bind_eq_some_iff] at h
         obtain ⟨u, hu, h⟩ := h
         exact key u x hu h rfl)
theorem Q66 : ∀ {H : Heap} {i : Nat} {a : AVal}, (valH H)[i]? = some a → H[i]? = some (some a) ∨ (H[i]? = some none ∧ a = .undef)
 | [], i, a, h => by simp [valH] at h
 | none :: H, i, a, h => by
  cases i with
  | zero => simp only [valH, List.getElem?_cons_zero, Option.some.injEq] at h; exact .inr ⟨rfl, h.symm⟩
  | succ i => simp only [valH, List.getElem?_cons_succ] at h ⊢; exact Q66 h
 | some b :: H, i, a, h => by
  cases i with
  | zero => simp only [valH, List.getElem?_cons_zero, Option.some.injEq] at h; subst h; exact .inl rfl
  | succ i => simp only [valH, List.getElem?_cons_succ] at h ⊢; exact Q66 h
theorem Q6T : ∀ {H : Heap}, (valH H).length = H.length
 | [] => rfl
 | none :: H => by simp [valH, Q6T (H := H)]
 | some _ :: H => by simp [valH, Q6T (H := H)]
theorem Q7k : ∀ {l : List AVal} {i : Nat} {a : AVal}, (optH l)[i]? = some (some a) → l[i]? = some a ∧ a ≠ .undef
 | [], i, a, h => by simp [optH] at h
 | b :: l, i, a, h => by
  by_cases hb : b = .undef
  ·subst hb
   cases i with
   | zero => simp [optH] at h
   | succ i => simp only [optH, List.getElem?_cons_succ] at h ⊢; exact Q7k h
  ·have e : optH (b :: l) = some b :: optH l := by cases b <;> first | rfl | exact absurd rfl hb
   rw [e] at h
   cases i with
   | zero => simp only [List.getElem?_cons_zero, Option.some.injEq] at h ⊢; subst h; exact ⟨rfl, hb⟩
   | succ i => simp only [List.getElem?_cons_succ] at h ⊢; exact Q7k h
theorem Q3B : ∀ {l : List AVal}, (optH l).length = l.length
 | [] => rfl
 | b :: l => by cases b <;> simp [optH, Q3B (l := l)]
theorem QbU {t : Tm} {x : t.den} (h : t.mat .undef = some x) : t = .undef := by
 cases t <;> simp [Tm.mat] at h ⊢
 exact ((Q5f h).2.2.1 rfl).elim
theorem Q7A {np : Nat} {T : StT} {s : St} {x : T.den} (ho : okTs T.sl = true) (hb : T.H.all (fun t => t.okV || (match t with | .undef => true | _ => false)) = true) (h : T.mat s = some x) : Q1a np s (T.inst x) := by
 intro m μ w a rh rs
 unfold StT.mat at h
 split at h
 ·rename_i hlen
  obtain ⟨g1, g2, g3⟩ := Q6y h
  have okt : ∀ (l : List Tm) (i : Nat) (t : Tm), okTs l = true → l[i]? = some t → t.ok = true := by
   intro l
   induction l with
   | nil => intro i t _ hi; simp at hi
   | cons b l ih =>
    intro i t hl hi
    simp only [okTs, Bool.and_eq_true] at hl
    cases i with
    | zero => simp only [List.getElem?_cons_zero, Option.some.injEq] at hi; subst hi; exact hl.1
    | succ i => exact ih i t hl.2 (by simpa using hi)
  have hrs : RS m μ (T.inst x).sl a := by
   refine ⟨?_, rs.defers, fun i y hy => ?_⟩
   ·simp only [StT.inst, List.length_take, g1, List.length_append]
    rw [rs.size, hlen.1]; omega
   ·simp only [StT.inst] at hy
    rw [List.getElem?_take] at hy
    split at hy
    ·rename_i hi
     have ht : (T.sl ++ T.H)[i]? = some T.sl[i] := by rw [List.getElem?_append_left hi]; simp
     obtain ⟨b, z, h1, h2, h3⟩ := g3 i _ ht
     rw [h3] at hy
     cases hy
     rw [List.getElem?_append_left (by omega)] at h1
     obtain ⟨v, h4, h5⟩ := rs.rel i b h1
     exact ⟨v, h4, Tm.mat_vrel (okt T.sl i _ ho (by simp)) h2 h5⟩
    ·cases hy
  have look : ∀ {i : Nat} {y : AVal}, (T.inst x).H[i]? = some (some y) → ∃ b, s.H[i]? = some (some b) ∧ y.sh = b.sh ∧ (∀ {cs : List Value}, CRel m μ b cs → CRel m μ y cs) ∧ (y.isVb = true → b.isVb = true) ∧ (∀ (kt vt : Ty) (xs : List (kt.den × vt.den)), b = .mpc kt vt xs → y = b) := by
   intro i y hy
   simp only [StT.inst] at hy
   obtain ⟨h1, h2⟩ := Q7k hy
   rw [List.getElem?_drop] at h1
   have hlt : T.sl.length + i < (T.sl ++ T.H).length := by
    rw [← g1]
    rcases Nat.lt_or_ge (T.sl.length + i) (Q1j (T.sl ++ T.H) x).length with h | h
    ·exact h
    ·rw [List.getElem?_eq_none h] at h1; cases h1
   have hi : i < T.H.length := by simp at hlt; omega
   have ht : (T.sl ++ T.H)[T.sl.length + i]? = some T.H[i] := by
    rw [List.getElem?_append_right (by omega), Nat.add_sub_cancel_left]; simp
   obtain ⟨b, z, h3, h4, h5⟩ := g3 _ _ ht
   rw [h5] at h1
   cases h1
   rw [List.getElem?_append_right (by omega), show T.sl.length + i - s.sl.length = i by omega] at h3
   have hok := List.all_eq_true.1 hb T.H[i] (by simp)
   have hv : T.H[i].okV = true := by
    simp only [Bool.or_eq_true] at hok
    rcases hok with h | h
    ·exact h
    ·exfalso
     have : T.H[i] = .undef := by
      generalize T.H[i] = q at h
      cases q <;> simp at h ⊢
     generalize T.H[i] = q at this z h2
     subst this
     exact h2 rfl
   obtain ⟨p1, _, _, p4, p5⟩ := Tm.mat_rel (m := m) (μ := μ) hv h4
   rcases Q66 h3 with h6 | ⟨_, h6⟩
   ·exact ⟨b, h6, p1, p5, fun hq => Tm.mat_vb h4 hq, fun kt vt xs e => by subst e; exact Tm.mat_mp hv h4⟩
   ·exact absurd h6 p4.1
  have hlH : (T.inst x).H.length = s.H.length := by
   simp only [StT.inst, Q3B, List.length_drop, g1, List.length_append]
   omega
  refine ⟨m, μ, hrs, ⟨⟨rh.mem, ?_, ?_, ?_, ?_, ?_, ?_, ?_⟩, Mem.le_refl _, fun _ _ _ h => h, rfl, rfl, rfl, Nat.le_refl _, fun _ _ _ => rfl, ?_, fun _ _ h => .inl h⟩⟩
  ·intro i y hy
   obtain ⟨b, h1, h2, h3, _⟩ := look hy
   obtain ⟨l, hbk⟩ := rh.blk i b h1
   refine ⟨l, hbk.loc, by rw [hbk.sh, h2], ?_⟩
   rw [h2]
   rcases hbk.cells with ⟨p1, p2, p3, p4⟩ | ⟨p0, gm, cs, E, fz, k1, k2, k3, k4, k5⟩
   ·exact .inl ⟨p1, p2, p3, h3 p4⟩
   ·exact .inr ⟨p0, gm, cs, E, fz, k1, k2, k3, k4, h3 k5⟩
  ·intro i j y z li lj hi hj
   obtain ⟨b, h1, _, _⟩ := look hi
   obtain ⟨c, h2, _, _⟩ := look hj
   exact rh.inj i j b c li lj h1 h2
  ·intro i hi
   exact rh.dom i (by omega)
  ·intro i y l hi hl hz
   obtain ⟨c, h1, _, _⟩ := look hi
   exact rh.typ i c l h1 hl hz
  ·intro i y l hi hv hl hz
   obtain ⟨c, h1, _, _, h4, _⟩ := look hi
   exact rh.vb i c l h1 (h4 hv) hl hz
  ·refine rh.mpk (Mem.le_refl _) (fun i y l hi hl hpz => ?_) (fun _ _ _ hb => hb)
   obtain ⟨c, h1, _, _, _, h5⟩ := look hi
   obtain ⟨_, kt, vt, xs, es, cc, e, _⟩ := rh.mp i c l h1 hl hpz
   rw [h5 kt vt xs e]
   exact ⟨i, h1, hl⟩
  ·intro i j y z li lj hi hj
   obtain ⟨b, h1, _, _⟩ := look hi
   obtain ⟨c, h2, _, _⟩ := look hj
   exact rh.mpi i j b c li lj h1 h2
  ·rintro b ⟨i, y, l, hi, h2, h3, h4⟩ _
   obtain ⟨c, h1, _, _⟩ := look hi
   exact ⟨i, c, l, h1, h2, h3, h4⟩
 ·cases h
def StT.ok (T : StT) : Bool := okTs T.sl && T.H.all (fun t => t.okV || (match t with | .undef => true | _ => false))
def Out.ok (np : Nat) (o : Out) : Bool := okG np o.gs && o.T.ok
theorem Q8x {e e' : Exit} (h : Q6u e e' = true) : e = e' := by
 cases e <;> cases e' <;> simp_all [Q6u]
theorem Q8n {ρ : Type} {np : Nat} {o : Out} (ho : o.ok np = true) {s : St} {K : o.T.den → Option ρ} {r : ρ} (h : o.go s K = some r) : ∃ x, K x = some r ∧ Q1a np s (o.T.inst x) := by
 simp only [Out.ok, StT.ok, Bool.and_eq_true] at ho
 unfold Out.go at h
 split at h
 ·rename_i s' hs
  split at h
  ·rename_i x hx
   exact ⟨x, h, (Q37 ho.1 hs).trans (Q7A ho.2.1 ho.2.2 hx)⟩
  ·cases h
 ·cases h
theorem Q5h {ρ : Type} {np : Nat} : ∀ {os : List Out} {e : Exit} {s : St} {K : outDen os → Option ρ} {r : ρ}, os.all (Out.ok np) = true → Q3M os e s K = some r →
  ∃ y s', K y = some r ∧ Q1a np s s' ∧ ∀ {ρ' : Type} (K' : Exit → St → Option ρ'), Q27 os y K' = K' e s'
 | [], _, _, _, _, _, h => by simp [Q3M] at h
 | [o], e, s, K, r, ho, h => by
  simp only [List.all_cons, List.all_nil, Bool.and_true] at ho
  simp only [Q3M] at h
  cases he : Q6u e o.e with
  | false => rw [he] at h; cases h
  | true =>
   rw [he] at h
   obtain ⟨x, h1, h2⟩ := Q8n ho h
   exact ⟨x, _, h1, h2, fun K' => by rw [Q8x he]; rfl⟩
 | o :: o' :: os, e, s, K, r, ho, h => by
  rw [List.all_cons, Bool.and_eq_true] at ho
  simp only [Q3M] at h
  split at h
  ·rename_i x hx
   cases he : Q6u e o.e with
   | false => rw [he] at hx; cases hx
   | true =>
    rw [he, cond_true] at hx
    have h1 : o.go s (fun z => if True then some z else none) = some x := by
     unfold Out.go
     cases hg : Q2k o.gs s with
     | none => rw [hg] at hx; cases hx
     | some s1 =>
      rw [hg] at hx
      simp only [Option.bind_some] at hx
      simp [hx]
    obtain ⟨x', h2, h3⟩ := Q8n ho.1 h1
    simp only [if_true, Option.some.injEq] at h2
    subst h2
    exact ⟨.inl x', _, h, h3, fun K' => by rw [Q8x he]; rfl⟩
  ·obtain ⟨y, s', h1, h2, h3⟩ := Q5h ho.2 h
   exact ⟨.inr y, s', h1, h2, fun K' => h3 K'⟩
theorem Q2A {p : Nat → Prop} (h : ∃ j, p j) : ∃ j, p j ∧ ∀ i, i < j → ¬ p i := by
 obtain ⟨j, hj⟩ := h
 induction j using Nat.strongRecOn with
 | _ j ih =>
  by_cases h1 : ∃ i, i < j ∧ p i
  ·obtain ⟨i, h2, h3⟩ := h1; exact ih i h2 h3
  ·exact ⟨j, hj, fun i hi hp => h1 ⟨i, hi, hp⟩⟩
theorem Q1U {P : Program} {Q : Exit → Act → World → Prop} {c : Code} (J : Nat → Act → World → Prop) (hz : ∀ a w, ¬ J 0 a w)
  (round : ∀ j a w, J (j + 1) a w → c.wp P (Exit.then (fun a' w' => J j a' w') Q) a w) {n : Nat} {a : Act} {w : World} (h : J n a w) : (Code.loop c).wp P Q a w := by
 classical
 refine wp_loop (fun a w => ∃ j, J j a w) (fun a w => if h : ∃ j, J j a w then Classical.choose (Q2A h) else 0) ⟨n, h⟩ fun a w hI => ?_
 obtain ⟨h1, h2⟩ := Classical.choose_spec (Q2A hI)
 generalize hg : Classical.choose (Q2A hI) = g at h1 h2
 cases g with
 | zero => exact absurd h1 (hz a w)
 | succ g =>
  refine wp_mono (round g a w h1) fun e a' w' hq => ?_
  cases e with
  | normal =>
   refine ⟨⟨g, hq⟩, ?_⟩
   simp only [dif_pos hI, hg]
   have hI' : ∃ j, J j a' w' := ⟨g, hq⟩
   rw [dif_pos hI']
   obtain ⟨_, h4⟩ := Classical.choose_spec (Q2A hI')
   rcases Nat.lt_or_ge (Classical.choose (Q2A hI')) (g + 1) with h5 | h5
   ·exact h5
   ·exact absurd hq (h4 g (by omega))
  | _ => exact hq
theorem Q2Q : ∀ {os : List Out} (y : outDen os), ∃ e s, ∀ {ρ : Type} (K : Exit → St → Option ρ), Q27 os y K = K e s
 | [], y => nomatch y
 | [o], y => ⟨o.e, o.T.inst y, fun _ => rfl⟩
 | o :: o' :: os, .inl a => ⟨o.e, o.T.inst a, fun _ => rfl⟩
 | o :: o' :: os, .inr b => by
  obtain ⟨e, s, h⟩ := Q2Q b
  exact ⟨e, s, fun K => h K⟩
theorem Q0X {np : Nat} {C : Ctx} (hΓ : ∀ f, Qb C.P f (C.Γ f)) (hmix : C.P.follows .mixedOrders = true) {c : Code} {ann : Ann} {T : StT} {gs : List Q1i} {os : List Out}
  {r : {ρ : Type} → T.den → (T.den → Option ρ) → (outDen os → Option ρ) → Option ρ} (hA : Q3 np C.P c ann) (hT : T.ok = true) (hg : okG np gs = true) (ho : os.all (Out.ok np) = true) (hr : Q0V C c ann T gs os r) (k : Nat) :
  StOK np C.P (.loop c) (Qv T os (Q15 r k)) := by
 intro ρ st K r0 h
 simp only [Qv] at h
 split at h
 ·rename_i x hx
  rw [Option.bind_eq_some_iff] at h
  obtain ⟨y, hy, h⟩ := h
  obtain ⟨e, s, hs⟩ := Q2Q y
  rw [hs] at h
  refine ⟨e, s, h, ?_⟩
  have hT' := hT
  simp only [StT.ok, Bool.and_eq_true] at hT'
  refine Goes.ghost (Q7A hT'.1 hT'.2 hx) ?_
  intro m μ w a Q rh rs hQ
  refine Q1U (fun j a' w' => ∃ x' m' μ', Q15 r j x' = some y ∧ RS m' μ' (T.inst x').sl a' ∧ Q11 np m μ (T.inst x).H w m' μ' (T.inst x').H w') ?_ ?_ (n := k) ⟨x, m, μ, hy, rs, (Post.refl rh).toW⟩
  ·rintro a w ⟨_, _, _, h, _⟩; cases h
  ·rintro j a1 w1 ⟨x1, m1, μ1, h1, rs1, p1⟩
   simp only [Q15] at h1
   have h1' : evC C c ann (T.inst x1) (Q7r T gs os (Q15 r j) some) = some y := (hr x1 (Q15 r j) some).trans h1
   obtain ⟨e1, s1, h2, h3⟩ := Q1u hΓ hmix c ann _ _ _ hA h1'
   refine h3 m1 μ1 w1 a1 _ p1.rh rs1 fun a2 w2 m2 μ2 rs2 p2 => ?_
   have out : e1 ≠ .normal → Q3M os e1 s1 some = some y → Exit.then (fun a' w' => ∃ x' m' μ', Q15 r j x' = some y ∧ RS m' μ' (T.inst x').sl a' ∧ Q11 np m μ (T.inst x).H w m' μ' (T.inst x').H w') Q e1 a2 w2 := by
    intro hne h4
    obtain ⟨y', s', h5, h6, h7⟩ := Q5h ho h4
    cases h5
    have h8 := (h7 (ρ' := Exit × St) fun e s => some (e, s)).symm.trans (hs fun e s => some (e, s))
    cases h8
    obtain ⟨m3, μ3, rs3, p3⟩ := h6 m2 μ2 w2 a2 p2.rh rs2
    have := hQ a2 w2 m3 μ3 rs3 ((p1.trans p2).trans p3)
    cases e <;> first | exact absurd rfl hne | exact this
   cases e1 with
   | normal =>
    simp only [Q7r] at h2
    obtain ⟨x2, h4, h5⟩ := Q8n (o := ⟨.normal, gs, T⟩) (by show (okG np gs && T.ok) = true; rw [hg, hT]; rfl) h2
    obtain ⟨m3, μ3, rs3, p3⟩ := h5 m2 μ2 w2 a2 p2.rh rs2
    exact ⟨x2, m3, μ3, h4, rs3, (p1.trans p2).trans p3⟩
   | _ => exact out (by simp) h2
 ·cases h
theorem Q3Z {np : Nat} {C : Ctx} (hΓ : ∀ f, Qb C.P f (C.Γ f)) (hmix : C.P.follows .mixedOrders = true) {c : Code} {ann : Ann} {T : StT} {os : List Out}
  (r : {ρ : Type} → T.den → (outDen os → Option ρ) → Option ρ) (hA : Q3 np C.P c ann) (hT : T.ok = true) (ho : os.all (Out.ok np) = true) (hr : Q45 C c ann T os r) :
  StOK np C.P c (Qv T os (fun x => r x some)) := by
 intro ρ st K r0 h
 simp only [Qv] at h
 split at h
 ·rename_i x hx
  rw [Option.bind_eq_some_iff] at h
  obtain ⟨y, hy, h⟩ := h
  obtain ⟨e, s, hs⟩ := Q2Q y
  rw [hs] at h
  refine ⟨e, s, h, ?_⟩
  have hT' := hT
  simp only [StT.ok, Bool.and_eq_true] at hT'
  refine Goes.ghost (Q7A hT'.1 hT'.2 hx) ?_
  have h1 : evC C c ann (T.inst x) (fun e s => Q3M os e s some) = some y := (hr x some).trans hy
  obtain ⟨e1, s1, h2, h3⟩ := Q1u hΓ hmix c ann _ _ _ hA h1
  obtain ⟨y', s', h5, h6, h7⟩ := Q5h ho h2
  cases h5
  have h8 := (h7 (ρ' := Exit × St) fun e s => some (e, s)).symm.trans (hs fun e s => some (e, s))
  cases h8
  intro m μ w a Q rh rs hQ
  refine h3 m μ w a Q rh rs fun a2 w2 m2 μ2 rs2 p2 => ?_
  obtain ⟨m3, μ3, rs3, p3⟩ := h6 m2 μ2 w2 a2 p2.rh rs2
  exact hQ _ _ _ _ rs3 (p2.trans p3)
 ·cases h
end Go.Am
namespace Go.Am
open Go
theorem Qcf {m : Mem} {μ μ' : LMap} {t : Ty} {x : t.den} {v : Value} (h : VRel m μ (toA t x) v) : VRel m μ' (toA t x) v := by
 have e : ∀ μ : LMap, VRel m μ (toA t x) v ↔ if (toA t x).isAgg then ∃ cs, v = .agg cs ∧ DRel m t x cs.toList else DRel m t x [v] := by
  intro μ
  have h1 : VRel m μ (toA t x) v = Q1k m μ (toA t x) v := by
   have := Q3J (t := t) (x := x)
   generalize toA t x = y at this
   cases y <;> first | rfl | exact absurd rfl (this.2 _)
  rw [h1, Q1K Q3J.1 Q3J.2]
  simp only [Q1n]
 rw [e] at h ⊢
 exact h
theorem Q7b {m : Mem} {μ : LMap} {t : Ty} {x : t.den} {a : AVal} {m' : Mem} {μ' : LMap} {v : Value} (h1 : a.isAgg = (toA t x).isAgg) (h2 : a ≠ .undef ∧ ∀ s, a ≠ .tup s) (h3 : ∀ {cs : List Value}, CRel m μ a cs → DRel m' t x cs) (hv : VRel m μ a v) : VRel m' μ' (toA t x) v := by
 have e1 : VRel m μ a v = Q1k m μ a v := by
  cases a <;> first | rfl | exact absurd rfl (h2.2 _)
 have e2 : VRel m' μ' (toA t x) v = Q1k m' μ' (toA t x) v := by
  have := Q3J (t := t) (x := x)
  generalize toA t x = y at this
  cases y <;> first | rfl | exact absurd rfl (this.2 _)
 rw [e1, Q1K h2.1 h2.2] at hv
 rw [e2, Q1K Q3J.1 Q3J.2, ← h1]
 split at hv
 ·rename_i ha
  rw [if_pos ha]
  obtain ⟨cs, h4, h5⟩ := hv
  exact ⟨cs, h4, Q1n.2 (h3 h5)⟩
 ·rename_i ha
  rw [if_neg ha]
  exact Q1n.2 (h3 hv)
theorem Qbo {H : Heap} {t : Ty} {a : AVal} {x : List t.den} {ids : List Nat} (h : argD H (.sl t) a = some (x, ids)) :
  (a = .nils ∧ x = [] ∧ ids = []) ∨ ((t.size == 0) = false ∧ a ≠ .nils ∧ Q2U H a = some ⟨t, x, ids⟩) := by
 simp only [argD] at h
 split at h
 ·cases h; exact .inl ⟨rfl, rfl, rfl⟩
 ·rename_i hb
  split at h
  ·rename_i t' xs ids' hv
   split at h
   ·rename_i e
    subst e
    rw [Bool.cond_eq_ite] at h
    split at h
    ·cases h
    ·rename_i ht
     cases h
     exact .inr ⟨by simpa using ht, hb, hv⟩
   ·cases h
  ·cases h
theorem Q7i {H : Heap} {t : Ty} {a : AVal} {x : List t.den} {ids : List Nat} (ht : (t.size == 0) = false) (hb : a ≠ .nils) (hv : Q2U H a = some ⟨t, x, ids⟩) : argD H (.sl t) a = some (x, ids) := by
 cases a <;> first
  | exact absurd rfl hb
  | (simp only [argD, hv]; simp [ht])
theorem Q60 {H H2 : Heap} : ∀ {t : Ty} {a : AVal} {x : t.den} {ids : List Nat}, argD H t a = some (x, ids) → (∀ i, i ∈ ids → H2[i]? = H[i]?) → argD H2 t a = some (x, ids)
 | .sl t, a, x, ids, h, hi => by
  rcases Qbo h with ⟨rfl, rfl, rfl⟩ | ⟨h1, h2, h3⟩
  ·rfl
  ·exact Q7i h1 h2 (Q5i h3 H2 hi)
 | .pair a b, v, x, ids, h, hi => by
  simp only [argD] at h ⊢
  split at h
  ·simp only [Option.bind_eq_some_iff, Option.some.injEq] at h
   obtain ⟨u, hu, w, hw, h⟩ := h
   cases h
   simp only [Q60 (x := u.1) (ids := u.2) hu (fun i h => hi i (by simp [h])), Q60 (x := w.1) (ids := w.2) hw (fun i h => hi i (by simp [h])), Option.bind_some]
  ·cases h
 | .int _, _, _, _, h, _ | .bool, _, _, _, h, _ | .str, _, _, _, h, _ | .unit, _, _, _, h, _ | .arr _ _, _, _, _, h, _ => h
theorem Q6h {H H2 : Heap} : ∀ {ts : List Ty} {as : List AVal} {x : dens ts} {ids : List Nat}, Q2G H ts as = some (x, ids) → (∀ i, i ∈ ids → H2[i]? = H[i]?) → Q2G H2 ts as = some (x, ids)
 | [], [], _, _, h, _ => h
 | t :: ts, a :: as, x, ids, h, hi => by
  simp only [Q2G, Option.bind_eq_some_iff, Option.some.injEq] at h ⊢
  obtain ⟨u, hu, w, hw, h⟩ := h
  cases h
  exact ⟨u, Q60 (x := u.1) (ids := u.2) hu (fun i h => hi i (by simp [h])), w, Q6h (x := w.1) (ids := w.2) hw (fun i h => hi i (by simp [h])), rfl⟩
 | [], _ :: _, _, _, h, _ => by simp [Q2G] at h
 | _ :: _, [], _, _, h, _ => by simp [Q2G] at h
section
variable {m : Mem} {μ : LMap} {H : Heap} {w : World} {ids : List Nat}
theorem Q63 (rh : RH m μ H w) : ∀ {t : Ty} {a : AVal} {x : t.den} {ids' : List Nat}, argD H t a = some (x, ids') → (∀ i, i ∈ ids' → i ∈ ids) →
  a.sh = t.sh ∧ a.isAgg = (toA t x).isAgg ∧ (a ≠ .undef ∧ ∀ s, a ≠ .tup s) ∧ ∀ {cs : List Value}, CRel m μ a cs → DRel (frzM m μ H w ids) t x cs
 | .sl t, a, x, ids', h, hi => by
  rcases Qbo h with ⟨rfl, rfl, rfl⟩ | ⟨ht, hb, hv⟩
  ·refine ⟨rfl, rfl, ⟨by simp, by simp⟩, fun hc => ?_⟩
   simp only [CRel] at hc
   subst hc
   exact ⟨none, 0, rfl, Nat.le_refl _, fun i h => by simp at h⟩
  ·have fin : frzA H a = some (.ros t x, ids') → a.sh = (Ty.sl t).sh → a.isAgg = false → (a ≠ .undef ∧ ∀ s, a ≠ .tup s) →
     a.sh = (Ty.sl t).sh ∧ a.isAgg = (toA (.sl t) x).isAgg ∧ (a ≠ .undef ∧ ∀ s, a ≠ .tup s) ∧ ∀ {cs : List Value}, CRel m μ a cs → DRel (frzM m μ H w ids) (.sl t) x cs := by
    intro hf h1 h2 h3
    refine ⟨h1, h2, h3, fun hc => ?_⟩
    have := (Q3f rh hf hi hc).2.2
    simpa only [CRel] using this
   cases a <;> simp only [Q2U] at hv <;> try (cases hv; done)
   case sl id p off len =>
    have hid : ids' = [id] := by
     split at hv
     ·split at hv
      ·cases hv; rfl
      ·cases hv; rfl
      ·cases hv
     ·cases hv
    subst hid
    exact fin (by simp only [frzA, Q2U, hv, ht, cond_false]) rfl rfl ⟨by simp, by simp⟩
   case ros t2 ys =>
    cases hv
    exact ⟨rfl, rfl, ⟨by simp, by simp⟩, fun hc => DRel.mono (Q2V rh) (by simpa only [CRel] using hc)⟩
   case vsl id =>
    split at hv
    ·rename_i t2 ys hh
     cases hv
     exact fin (by simp only [frzA, hh, ht, cond_false]) rfl rfl ⟨by simp, by simp⟩
    ·cases hv
 | .pair a b, v, x, ids', h, hi => by
  simp only [argD] at h
  split at h
  ·rename_i y z
   simp only [Option.bind_eq_some_iff, Option.some.injEq] at h
   obtain ⟨u, hu, q, hq, h⟩ := h
   cases h
   obtain ⟨s1, _, _, r1⟩ := Q63 rh (x := u.1) (ids' := u.2) hu (fun i h => hi i (by simp [h]))
   obtain ⟨s2, _, _, r2⟩ := Q63 rh (x := q.1) (ids' := q.2) hq (fun i h => hi i (by simp [h]))
   refine ⟨by simp only [AVal.sh, Ty.sh, s1, s2], rfl, ⟨by simp, by simp⟩, fun hc => ?_⟩
   simp only [CRel] at hc
   have hs : y.size = a.size := by unfold AVal.size; rw [s1, Ty.sh_size]
   rw [hs] at hc
   exact ⟨r1 hc.1, r2 hc.2⟩
  ·cases h
 | .int k, a, x, ids', h, hi | .bool, a, x, ids', h, hi | .str, a, x, ids', h, hi | .unit, a, x, ids', h, hi | .arr _ _, a, x, ids', h, hi => by
  simp only [argD] at h
  obtain ⟨y, hy, h⟩ := Option.bind_eq_some_iff.1 h
  cases h
  obtain ⟨h1, h2, h3, h4⟩ := Q5f hy
  exact ⟨h1, h2, ⟨h3, h4⟩, fun hc => DRel.mono (Q2V rh) ((Q1Y hy).2 hc)⟩
theorem Q6j (rh : RH m μ H w) (μ' : LMap) : ∀ {ts : List Ty} {as : List AVal} {x : dens ts} {ids' : List Nat} {vs : List Value}, Q2G H ts as = some (x, ids') → (∀ i, i ∈ ids' → i ∈ ids) → Q1e m μ as vs →
  Q1e (frzM m μ H w ids) μ' (Q20 ts x) vs
 | [], [], _, _, vs, _, _, hv => by cases vs with | nil => trivial | cons _ _ => exact hv.elim
 | t :: ts, a :: as, x, ids', vs, h, hi, hv => by
  simp only [Q2G, Option.bind_eq_some_iff, Option.some.injEq] at h
  obtain ⟨u, hu, q, hq, h⟩ := h
  cases h
  cases vs with
  | nil => exact hv.elim
  | cons v vs =>
   obtain ⟨s1, s2, s3, s4⟩ := Q63 rh (x := u.1) (ids' := u.2) (ids := ids) hu (fun i h => hi i (by simp [h]))
   exact ⟨Q7b s2 s3 s4 hv.1, Q6j rh μ' (x := q.1) (ids' := q.2) hq (fun i h => hi i (by simp [h])) hv.2⟩
 | [], _ :: _, _, _, _, h, _, _ => by simp [Q2G] at h
 | _ :: _, [], _, _, _, h, _, _ => by simp [Q2G] at h
theorem Q5V : ∀ {a a' : AVal} {ids' : List Nat}, frzA H a = some (a', ids') → ∀ i, i ∈ ids' → i < H.length
 | .vsl id, a', ids', h, i, hi => by
  simp only [frzA] at h
  split at h
  ·rename_i t xs hh
   rw [Bool.cond_eq_ite] at h
   split at h
   ·cases h
   ·cases h
    simp at hi; subst hi
    exact (List.getElem?_eq_some_iff.1 hh).1
  ·cases h
 | .sl id p off len, a', ids', h, i, hi => by
  simp only [frzA] at h
  split at h
  ·rename_i t xs idv hv
   rw [Bool.cond_eq_ite] at h
   split at h
   ·cases h
   ·cases h
    simp at hi; subst hi
    simp only [Q2U] at hv
    split at hv
    ·rename_i c hh; exact (List.getElem?_eq_some_iff.1 hh).1
    ·cases hv
  ·cases h
 | .pair a b, a', ids', h, i, hi => by
  simp only [frzA, Option.bind_eq_some_iff, Option.some.injEq] at h
  obtain ⟨x, hx, y, hy, h⟩ := h
  cases h
  rcases List.mem_append.1 hi with h1 | h1
  ·exact Q5V hx i h1
  ·exact Q5V hy i h1
 | .tup a, a', ids', h, i, hi => by
  simp only [frzA, Option.bind_eq_some_iff, Option.some.injEq] at h
  obtain ⟨x, hx, h⟩ := h
  cases h
  exact Q5V hx i hi
 | .int _ _, _, _, h, i, hi | .bool _, _, _, h, i, hi | .str _, _, _, h, i, hi | .nilp, _, _, h, i, hi | .nils, _, _, h, i, hi | .unit, _, _, h, i, hi | .ros _ _, _, _, h, i, hi | .undef, _, _, h, i, hi
 | .rop _ _, _, _, h, i, hi | .arr _ _ _, _, _, h, i, hi | .ptr _ _, _, _, h, i, hi | .sfp _ _ _, _, _, h, i, hi => by
  simp only [frzA, Option.some.injEq, Prod.mk.injEq] at h
  obtain ⟨rfl, rfl⟩ := h
  simp at hi
 | .vbs _, _, _, h, _, _ | .vec _ _, _, _, h, _, _ | .parr _ _ _ _, _, _, h, _, _ | .fn _ _, _, _, h, _, _ => by simp [frzA] at h
end
theorem Q87 {P : Program} {m : Mem} {μ : LMap} {st : St} {w : World} {a : Act} {r : ResultVar} {v : AVal} (rh : RH m μ st.H w) (rs : RS m μ st.sl a) (h : Q7w P st r = some v) :
  ∃ u, ((fun r => match r with | .tmp t => pure (a.tmps.getD t undef) | .cell b t => do loadVar t (← asAddr (a.tmps.getD b undef)) : ResultVar → Sem Value) r).run P w = .ok u w ∧ VRel m μ v u := by
 cases r with
 | tmp t =>
  simp only [Q7w, Option.some.injEq] at h
  subst h
  exact ⟨_, rfl, Q04 rs (.tmp t)⟩
 | cell b T =>
  simp only [Q7w] at h
  split at h
  ·rename_i r hr
   cases h
   obtain ⟨_, u, h1, h2⟩ := Q7L rh (Q04 rs (.tmp b)) hr
   refine ⟨u, ?_, h2⟩
   have e : a.eval (.tmp b) = a.tmps.getD b undef := rfl
   rw [e] at h1
   simp only [Instr.loadAt, run_bind] at h1 ⊢
   generalize a.tmps.getD b undef = q at h1 ⊢
   cases q <;> try (simp [Instr.sureAddr, stuck, Sem.run] at h1; done)
   rename_i ad
   cases ad with
   | none => simp [Instr.sureAddr, stuck, Sem.run, runtimePanic] at h1
   | some ad => exact h1
  ·cases h
theorem Q3q {m : Mem} {μ μ' : LMap} {t : Ty} {x : t.den} {a : AVal} {v : Value} (h : Q12 t a = some x) (hv : VRel m μ a v) : VRel m μ' (toA t x) v := by
 obtain ⟨h1, h2, h3, h4⟩ := Q5f h
 exact Q7b h2 ⟨h3, h4⟩ (fun hc => (Q1Y h).2 hc) hv
theorem Qbl {ρ : Type} {P : Program} {m : Mem} {μ : LMap} {st : St} {w : World} {a : Act} (μ' : LMap) (rh : RH m μ st.H w) (rs : RS m μ st.sl a) : ∀ {l : List ResultVar} {ts : List Ty} {K : dens ts → Option ρ} {r : ρ}, retK P st l ts K = some r →
  ∃ y us, K y = some r ∧ (l.mapM (fun r => match r with | .tmp t => pure (a.tmps.getD t undef) | .cell b t => do loadVar t (← asAddr (a.tmps.getD b undef)) : ResultVar → Sem Value)).run P w = .ok us w ∧
   Q1e (frzM m μ st.H w (List.range st.H.length)) μ' (Q20 ts y) us
 | [], [], K, r, h => ⟨(), [], h, by simp only [List.mapM_nil]; rfl, trivial⟩
 | q :: l, t :: ts, K, r, h => by
  simp only [retK] at h
  split at h
  ·rename_i v hv
   split at h
   ·rename_i z hz
    split at h
    ·rename_i x hx
     obtain ⟨y, us, h1, h2, h3⟩ := Qbl μ' rh rs h
     obtain ⟨u, h4, h5⟩ := Q87 rh rs hv
     refine ⟨(x, y), u :: us, h1, ?_, Q3q hx (Q8G rh (a' := z.1) (ids' := z.2) hz (fun i hi => by simpa using Q5V (a' := z.1) (ids' := z.2) hz i hi) h5), h3⟩
     haveI := Q3R
     simp only [List.mapM_cons, run_bind]
     rw [h4]
     simp only [h2, QP]
    ·cases h
   ·cases h
  ·cases h
 | [], _ :: _, _, _, h => by simp [retK] at h
 | _ :: _, [], _, _, h => by simp [retK] at h
theorem Q6f {m : Mem} {μ : LMap} : ∀ {ts : List Ty} {y : dens ts} {us : List Value}, Q1e m μ (Q20 ts y) us → TRel m μ (QaT ts y) us
 | [], _, [], _ => rfl
 | [], _, _ :: _, h => h.elim
 | t :: ts, y, [], h => h.elim
 | t :: ts, y, u :: us, h => by
  refine ⟨u, us, rfl, ?_, Q6f h.2⟩
  have := Q3J (t := t) (x := y.1)
  have h1 := h.1
  generalize toA t y.1 = z at this h1
  cases z <;> first | exact h1 | exact absurd rfl (this.2 _)
theorem Q2u {P : Program} {w : World} {fn : Func} {tmps : Array Value} {us : List Value} (h : (fn.results.toList.mapM (fun r => match r with | .tmp t => pure (tmps.getD t undef) | .cell b t => do loadVar t (← asAddr (tmps.getD b undef)) : ResultVar → Sem Value)).run P w = .ok us w) :
  (results fn tmps).run P w = .ok (if us.length = 1 then us.headD undef else .tuple us.toArray) w := by
 haveI := Q3R
 have h1 : (fn.results.mapM (fun r => match r with | .tmp t => pure (tmps.getD t undef) | .cell b t => do loadVar t (← asAddr (tmps.getD b undef)) : ResultVar → Sem Value)).run P w = .ok us.toArray w := by
  rw [Array.mapM_eq_mapM_toList]
  show (List.toArray <$> (fn.results.toList.mapM _) : Sem _).run P w = _
  rw [map_eq_pure_bind]
  simp only [run_bind, h, QP]
 unfold results
 rw [run_bind]
 split
 case h_2 w2 w3 heq => cases heq.symm.trans h1
 rename_i vs w2 heq
 cases heq.symm.trans h1
 simp only [QP]
 congr 1
 by_cases hl : us.length = 1
 ·rw [dif_pos (by simpa using hl), if_pos hl]
  cases us with
  | nil => cases hl
  | cons u us => simp
 ·rw [dif_neg (by simpa using hl), if_neg hl]
theorem Qbj {m : Mem} {μ : LMap} {ts : List Ty} {y : dens ts} {us : List Value} (h : Q1e m μ (Q20 ts y) us) : VRel m μ (resA ts y) (if us.length = 1 then us.headD undef else .tuple us.toArray) := by
 have hlen := h.length
 have hargs : ∀ {ts : List Ty} {y : dens ts}, (Q20 ts y).length = ts.length := by
  intro ts
  induction ts with
  | nil => intro y; rfl
  | cons t ts ih => intro y; simp [Q20, ih]
 rw [hargs] at hlen
 match ts, y, us, h, hlen with
 | [], y, us, h, hlen =>
  rw [if_neg (by simp [hlen])]
  exact ⟨us.toArray, rfl, by simpa using Q6f h⟩
 | [t], y, [u], h, hlen => exact h.1
 | [t], y, [], h, hlen => cases hlen
 | [t], y, _ :: _ :: _, h, hlen => simp at hlen
 | t :: t' :: ts, y, us, h, hlen =>
  rw [if_neg (by simp [hlen])]
  exact ⟨us.toArray, rfl, by simpa using Q6f h⟩
theorem Q3t {m m' : Mem} : ∀ {t : Ty} {x : t.den} {cs : List Value}, Q2e t = true → DRel m t x cs → DRel m' t x cs
 | .int _, _, _, _, h | .bool, _, _, _, h | .str, _, _, _, h | .unit, _, _, _, h => h
 | .pair a b, x, cs, hn, h => by
  simp only [Q2e, Bool.and_eq_true] at hn
  exact ⟨Q3t hn.1 h.1, Q3t hn.2 h.2⟩
 | .arr n t, xs, cs, hn, h => ⟨h.1, h.2.1, fun i hi => Q3t (t := t) hn (h.2.2 i hi)⟩
 | .sl _, _, _, hn, _ => by cases hn
theorem Q7v {m m' : Mem} {μ μ' : LMap} : ∀ {ts : List Ty} {y : dens ts} {us : List Value}, ts.all Q2e = true → Q1e m μ (Q20 ts y) us → Q1e m' μ' (Q20 ts y) us
 | [], _, [], _, _ => trivial
 | [], _, _ :: _, _, h => h.elim
 | t :: ts, y, [], _, h => h.elim
 | t :: ts, y, u :: us, hn, h => by
  rw [List.all_cons, Bool.and_eq_true] at hn
  exact ⟨Q7b rfl Q3J (fun hc => Q3t hn.1 (Q1n.1 hc)) h.1, Q7v hn.2 h.2⟩
theorem Q9A {m : Mem} {μ μ' : LMap} : ∀ {ts : List Ty} {y : dens ts} {us : List Value}, Q1e m μ (Q20 ts y) us → Q1e m μ' (Q20 ts y) us
 | [], _, [], _ => trivial
 | [], _, _ :: _, h => h.elim
 | t :: ts, y, [], h => h.elim
 | t :: ts, y, u :: us, h => ⟨Qcf h.1, Q9A h.2⟩
def mu0 : LMap := fun _ => none
theorem Q49 {b : Nat} : ¬ Q1q mu0 [] b := by rintro ⟨i, a, l, h, _⟩; simp at h
theorem Qcq {m : Mem} {as : List AVal} {vs : List Value} (n : Nat) (h : Q1e m mu0 as vs) : RS m mu0 (Q32 n as).sl { tmps := vs.toArray ++ Array.replicate (n - vs.toArray.size) undef, defers := [] } := by
 have hl := h.length
 refine ⟨by simp [Q32, hl], rfl, fun i x hx => ?_⟩
 simp only [Q32] at hx
 rcases Nat.lt_or_ge i as.length with h1 | h1
 ·rw [List.getElem?_append_left h1] at hx
  obtain ⟨v, h2, h3⟩ := h.get hx
  exact ⟨v, by rw [Array.getElem?_append_left (by simp; omega)]; simpa using h2, h3⟩
 ·rw [List.getElem?_append_right h1, List.getElem?_replicate] at hx
  split at hx
  ·rename_i h2
   cases hx
   refine ⟨undef, ?_, Q3X _⟩
   rw [Array.getElem?_append_right (by simp; omega)]
   rw [Array.getElem?_replicate, if_pos (by simp; omega)]
  ·cases hx
theorem Qb0 {C : Ctx} (hΓ : ∀ f, Qb C.P f (C.Γ f)) (hmix : C.P.follows .mixedOrders = true) {f : Nat} {fn : Func} {c : Code} {ann : Ann} {tin tout : List Ty} {F : {ρ : Type} → dens tin → (dens tout → Option ρ) → Option ρ}
  (hf : C.P.funcs[f]? = some fn) (hb : fn.body = some c) (hA : Q3 0 C.P c ann) (hB : Q0M C fn c ann tin tout F) {x : dens tin} {y : dens tout} (hF : F x some = some y)
  {m : Mem} {w : World} {vs : List Value} (rh : RH m mu0 [] w) (hv : Q1e m mu0 (Q20 tin x) vs) :
  Calls C.P f vs.toArray w (fun e w' => ∃ us m' H', e = .returned (if us.length = 1 then us.headD undef else .tuple us.toArray) ∧ Q1e m' mu0 (Q20 tout y) us ∧ (∃ μ', Q11 0 m mu0 [] w m' μ' H' w')) := by
 refine calls_of_wp hf hb ?_
 have h1 : evC C c ann (Q32 fn.ntmps (Q20 tin x)) (finK C.P fn.results.toList tout some) = some y := (hB x some).trans hF
 obtain ⟨e, st', h2, h3⟩ := Q1u hΓ hmix c ann _ _ _ hA h1
 refine h3 m mu0 w _ _ rh (Qcq fn.ntmps hv) fun a' w' m' μ' rs' p => ?_
 have done : retK C.P st' fn.results.toList tout some = some y → a'.defers = [] ∧ ∃ v, (results fn a'.tmps).run C.P w' = .ok v w' ∧ ∃ us m' H', Ending.returned v = .returned (if us.length = 1 then us.headD undef else .tuple us.toArray) ∧ Q1e m' mu0 (Q20 tout y) us ∧ (∃ μ', Q11 0 m mu0 [] w m' μ' H' w') := by
  intro h
  obtain ⟨y', us, h4, h5, h6⟩ := Qbl mu0 p.rh rs' h
  cases h4
  exact ⟨rs'.defers, _, Q2u h5, us, _, _, rfl, h6, μ', p.trans (Q3h p.rh).toW⟩
 cases e with
 | normal => exact done h2
 | ret => exact done h2
 | _ => cases h2
theorem Q1z {P : Program} {f : Nat} {fn : Func} {c : Code} (hf : P.funcs[f]? = some fn) (hb : fn.body = some c) (hn : (fn.name == "runtime.NumGoroutine") = false) (args : Array Value) (w : World) :
  (callFunc f args).run P w = .ok (.enter f args) w := by
 unfold callFunc
 rw [run_bind, Q4X]
 simp only [hf, hn, hb, Option.isNone_some, Bool.false_eq_true, if_false]
 rfl
theorem Qs {C : Ctx} (hΓ : ∀ f, Qb C.P f (C.Γ f)) (hmix : C.P.follows .mixedOrders = true) {f : Nat} {fn : Func} {c : Code} {ann : Ann} {tin tout : List Ty} (F : {ρ : Type} → dens tin → (dens tout → Option ρ) → Option ρ)
  (hf : C.P.funcs[f]? = some fn) (hb : fn.body = some c) (hn : (fn.name == "runtime.NumGoroutine") = false) (hA : Q3 0 C.P c ann) (hB : Q0M C fn c ann tin tout F) : Qb C.P f (Qn tin tout fun x => F x some) := by
 intro ρ args H k r h
 simp only [Qn] at h
 split at h
 ·rename_i x ids hx
  have hcond : (ids.isEmpty || tout.all Q2e) = true := by
   cases hc : (ids.isEmpty || tout.all Q2e) with
   | true => rfl
   | false => rw [hc] at h; cases h
  rw [hcond, cond_true, Option.bind_eq_some_iff] at h
  obtain ⟨y, hy, h⟩ := h
  refine ⟨_, _, _, h, ?_⟩
  have main : ∀ H2 : Heap, Q2G H2 tin args = some (x, ids) → Q1B C.P f args H2 (resA tout y) H2 := by
   intro H2 hx2 m μ w vs rh hv
   refine ⟨_, _, Q1z hf hb hn _ w, .inl ⟨f, _, rfl, ?_⟩⟩
   have hp := Q3h (ids := ids) rh
   have rh0 : RH (frzM m μ H2 w ids) mu0 [] w := ⟨hp.rh.mem, fun i a h => by simp at h, fun i j a b li lj h => by simp at h, fun i _ => rfl, fun i a l h => by simp at h, fun i a l h => by simp at h, fun i a l h => by simp at h, fun i j a b li lj h => by simp at h⟩
   refine (Qb0 hΓ hmix hf hb hA hB hy rh0 (Q6j rh mu0 hx2 (fun _ h => h) hv)).mono fun e w' he => ?_
   obtain ⟨us, m2, H', he, h1, μ2, p⟩ := he
   have kept : ∀ b, b < w.heap.size → w'.heap[b]? = w.heap[b]? := fun b hb => p.keep b hb Q49
   have lt : ∀ {b : Nat} {o : Obj}, w.heap[b]? = some o → b < w.heap.size := fun h => Q0Q h
   have blkOK : ∀ m3 : Mem, m.le m3 → (∀ b, Q1q μ H2 b → m3 b = none) → ∀ i a, H2[i]? = some (some a) → ∃ l, Blk m3 μ w' i a l := by
    intro m3 hm hno i a hi
    obtain ⟨l, hbk⟩ := rh.blk i a hi
    refine ⟨l, hbk.loc, hbk.sh, ?_⟩
    rcases hbk.cells with ⟨p1, p2, p3, p4⟩ | ⟨p0, gm, cs, E, fz, g1, g2, g3, g4, g5⟩
    ·exact .inl ⟨p1, p2, p3, p4.mono hm (LMap.le_refl _)⟩
    ·exact .inr ⟨p0, hno _ ⟨i, a, l, hi, hbk.loc, .inl p0, rfl⟩, cs, E, fz, by rw [kept _ (lt g1)]; exact g1, g2, g3, g4, g5.mono hm (LMap.le_refl _)⟩
   have ownedM : ∀ b, Q1q μ H2 b → m b = none ∧ b < w.heap.size := by
    rintro b ⟨i, a, l, hi, hl, hz, rfl⟩
    rcases hz with hz | hz
    ·obtain ⟨l', hbk⟩ := rh.blk i a hi
     have : l' = l := Option.some.inj (hbk.loc.symm.trans hl)
     subst this
     rcases hbk.cells with ⟨p1, _⟩ | ⟨_, gm, cs, E, fz, g1, _⟩
     ·omega
     ·exact ⟨gm, lt g1⟩
    ·obtain ⟨_, _, _, _, es, c, _, g1, _⟩ := rh.mp i a l hi hl hz
     exact ⟨rh.map_mem g1, lt g1⟩
   have mpOK : ∀ m3 : Mem, m.le m3 → _ := fun m3 hm => rh.mpk (H' := H2) (μ' := μ) (w' := w') hm (fun i a l hi hl _ => ⟨i, hi, hl⟩) (fun b es c hb => by rw [kept b (lt hb)]; exact hb)
   have typOK : ∀ i a l, H2[i]? = some (some a) → μ i = some l → 0 < l.tot → ∃ cs fz, w'.heap[l.b]? = some (.cells cs l.E fz) := by
    intro i a l hi hl hz
    obtain ⟨cs, fz, h1⟩ := rh.typ i a l hi hl hz
    exact ⟨cs, fz, by rw [kept _ (lt h1)]; exact h1⟩
   by_cases hids : ids = []
   ·subst hids
    have hm1 : frzM m μ H2 w [] = m := by
     funext b
     unfold frzM
     rw [if_neg]
     rintro ⟨i, _, _, h, _⟩; simp at h
    rw [hm1] at p
    have hno : ∀ b, Q1q μ H2 b → m2 b = none := by
     intro b hb
     obtain ⟨h2, h3⟩ := ownedM b hb
     cases hm2 : m2 b with
     | none => rfl
     | some c =>
      rcases p.mgrow b c hm2 with h4 | h4 | h4
      ·rw [h2] at h4; cases h4
      ·exact (Q49 h4).elim
      ·omega
    refine ⟨_, m2, μ, he, Qbj (Q9A h1), ⟨⟨p.rh.mem, blkOK m2 p.ml hno, rh.inj, rh.dom, typOK, rh.vb, mpOK m2 p.ml, rh.mpi⟩, p.ml, LMap.le_refl _, p.os, p.tape, p.output, p.size, fun b hb _ => kept b hb, fun _ h _ => h, fun b c hc => ?_, ⟨Nat.le_refl _, fun _ _ h => h⟩⟩⟩
    rcases p.mgrow b c hc with h4 | h4 | h4
    ·exact .inl h4
    ·exact (Q49 h4).elim
    ·exact .inr (.inr h4)
   ·have hro : tout.all Q2e = true := by
     simp only [Bool.or_eq_true, List.isEmpty_iff] at hcond
     exact hcond.resolve_left hids
    refine ⟨_, m, μ, he, Qbj (Q7v hro h1), ⟨⟨fun b cs hb => ?_, blkOK m (Mem.le_refl _) (fun b hb => (ownedM b hb).1), rh.inj, rh.dom, typOK, rh.vb, mpOK m (Mem.le_refl _), rh.mpi⟩, Mem.le_refl _, LMap.le_refl _, p.os, p.tape, p.output, p.size, fun b hb _ => kept b hb, fun _ h _ => h, fun _ _ h => .inl h, ⟨Nat.le_refl _, fun _ _ h => h⟩⟩⟩
    obtain ⟨E, fz, h2⟩ := rh.mem b cs hb
    exact ⟨E, fz, by rw [kept b (lt h2)]; exact h2⟩
  cases ids with
  | nil => exact ⟨rfl, fun H2 => main H2 (Q6h hx (by simp))⟩
  | cons i l => exact ⟨rfl, fun H2 hi => main H2 (Q6h hx hi)⟩
 ·cases h
theorem QE {P : Program} (f : Nat) : Qb P f (gam [] f) := by
 intro ρ args H k r h; cases h
theorem Q7 {P : Program} {i : Nat} {s : Qj} {l : List (Nat × Qj)} (h : Qb P i s) (hl : ∀ f, Qb P f (gam l f)) (f : Nat) : Qb P f (gam ((i, s) :: l) f) := by
 unfold gam
 split
 ·rename_i e; subst e; exact h
 ·exact hl f
end Go.Am
