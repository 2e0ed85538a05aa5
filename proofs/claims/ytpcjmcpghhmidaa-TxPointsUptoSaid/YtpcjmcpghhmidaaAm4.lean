/- A part of a proof: a machine of abstract values that tells what functions of the program compute, and the plain facts on them. -/
import Derived.Test.YtpcjmcpghhmidaaAm3
import Derived.ProofKit
import Derived.ChangeArms
import Derived.OpenShut
set_option linter.unusedVariables false
set_option linter.unusedSimpArgs false
set_option linter.unnecessarySimpa false
set_option linter.unusedSectionVars false
/- Templates: what fits one may be read as it; loops. -/
namespace Go.Am
open Go

/-- 'undef' stands for a slot or for a tuple's part, never inside a value. -/
def Tm.okV : Tm → Bool
  | .undef => false
  | .pair a b => a.okV && b.okV
  | .fn _ c => c.okV
  | .tup _ => false
  | _ => true

def Tm.okT : Tm → Bool
  | .unit => true
  | .pair a b => (a.okV || (match a with | .undef => true | _ => false)) && b.okT
  | _ => false

def Tm.ok : Tm → Bool
  | .undef => true
  | .tup c => c.okT
  | t => t.okV

def okTs : List Tm → Bool
  | [] => true
  | t :: ts => t.ok && okTs ts

theorem fromA_inv : ∀ {t : Ty} {a : AVal} {x : t.den}, fromA t a = some x → a.sh = t.sh ∧ a.isAgg = (toA t x).isAgg ∧ a ≠ .undef ∧ ∀ s, a ≠ .tup s := by
  intro t a x h
  refine ⟨(fromA_rel (m := fun _ => none) (μ := fun _ => none) h).1, ?_, ?_, ?_⟩
  · cases t <;> cases a <;> simp_all [fromA, toA, AVal.isAgg]
  · rintro rfl; cases t <;> simp [fromA] at h
  · rintro s rfl; cases t <;> simp [fromA] at h

theorem toA_ne {t : Ty} {x : t.den} : toA t x ≠ .undef ∧ ∀ s, toA t x ≠ .tup s := by
  cases t <;> simp [toA]

theorem fromA_crel {t : Ty} {a : AVal} {x : t.den} {m : Mem} {μ : LMap} {cs : List Value} (h : fromA t a = some x) (hc : CRel m μ a cs) : CRel m μ (toA t x) cs := toA_rel.2 ((fromA_rel h).2 hc)

theorem Tm.mat_rel {m : Mem} {μ : LMap} : ∀ {t : Tm} {a : AVal} {x : t.den}, t.okV = true → t.mat a = some x → (t.inst x).sh = a.sh ∧ (t.inst x).isAgg = a.isAgg ∧ (t.inst x ≠ .undef ∧ ∀ s, t.inst x ≠ .tup s) ∧ (a ≠ .undef ∧ ∀ s, a ≠ .tup s) ∧ ∀ {cs : List Value}, CRel m μ a cs → CRel m μ (t.inst x) cs
  | .undef, _, _, ho, _ => by cases ho
  | .tup _, _, _, ho, _ => by cases ho
  | .dat t, a, x, _, h => by
    simp only [Tm.mat] at h
    obtain ⟨h1, h2, h3, h4⟩ := fromA_inv h
    exact ⟨by rw [Tm.inst, toA_sh, h1], h2.symm, toA_ne, ⟨h3, h4⟩, fun hc => fromA_crel h hc⟩
  | .vec t, a, x, _, h => by
    cases a <;> simp only [Tm.mat] at h <;> try (cases h; done)
    rename_i t' xs
    split at h
    · rename_i e; subst e
      cases h
      exact ⟨rfl, rfl, ⟨by simp [Tm.inst], by simp [Tm.inst]⟩, ⟨by simp, by simp⟩, fun hc => hc⟩
    · cases h
  | .vsl id, a, x, _, h => by
    cases a <;> simp only [Tm.mat] at h <;> try (cases h; done)
    split at h
    · rename_i e; subst e
      exact ⟨rfl, rfl, ⟨by simp [Tm.inst], by simp [Tm.inst]⟩, ⟨by simp, by simp⟩, fun hc => hc⟩
    · cases h
  | .slr id p, a, x, _, h => by
    cases a <;> simp only [Tm.mat] at h <;> try (cases h; done)
    split at h
    · rename_i e; obtain ⟨rfl, rfl⟩ := e
      cases h
      exact ⟨rfl, rfl, ⟨by simp [Tm.inst], by simp [Tm.inst]⟩, ⟨by simp, by simp⟩, fun hc => hc⟩
    · cases h
  | .ptr id p, a, x, _, h => by
    cases a <;> simp only [Tm.mat] at h <;> try (cases h; done)
    split at h
    · rename_i e; obtain ⟨rfl, rfl⟩ := e
      exact ⟨rfl, rfl, ⟨by simp [Tm.inst], by simp [Tm.inst]⟩, ⟨by simp, by simp⟩, fun hc => hc⟩
    · cases h
  | .vbs id, a, x, _, h => by
    cases a <;> simp only [Tm.mat] at h <;> try (cases h; done)
    split at h
    · rename_i e; subst e
      exact ⟨rfl, rfl, ⟨by simp [Tm.inst], by simp [Tm.inst]⟩, ⟨by simp, by simp⟩, fun hc => hc⟩
    · cases h
  | .sfp id p T, a, x, _, h => by
    cases a <;> simp only [Tm.mat] at h <;> try (cases h; done)
    split at h
    · rename_i e; obtain ⟨rfl, rfl, rfl⟩ := e
      exact ⟨rfl, rfl, ⟨by simp [Tm.inst], by simp [Tm.inst]⟩, ⟨by simp, by simp⟩, fun hc => hc⟩
    · cases h
  | .nilp, a, x, _, h => by
    cases a <;> simp only [Tm.mat] at h <;> try (cases h; done)
    exact ⟨rfl, rfl, ⟨by simp [Tm.inst], by simp [Tm.inst]⟩, ⟨by simp, by simp⟩, fun hc => hc⟩
  | .nils, a, x, _, h => by
    cases a <;> simp only [Tm.mat] at h <;> try (cases h; done)
    exact ⟨rfl, rfl, ⟨by simp [Tm.inst], by simp [Tm.inst]⟩, ⟨by simp, by simp⟩, fun hc => hc⟩
  | .unit, a, x, _, h => by
    cases a <;> simp only [Tm.mat] at h <;> try (cases h; done)
    exact ⟨rfl, rfl, ⟨by simp [Tm.inst], by simp [Tm.inst]⟩, ⟨by simp, by simp⟩, fun hc => hc⟩
  | .pair t s, a, x, ho, h => by
    simp only [Tm.okV, Bool.and_eq_true] at ho
    cases a <;> simp only [Tm.mat] at h <;> try (cases h; done)
    rename_i a b
    simp only [Option.bind_eq_some_iff, Option.some.injEq] at h
    obtain ⟨u, hu, v, hv, h⟩ := h
    subst h
    obtain ⟨p1, _, _, _, p5⟩ := Tm.mat_rel (m := m) (μ := μ) ho.1 hu
    obtain ⟨q1, _, _, _, q5⟩ := Tm.mat_rel (m := m) (μ := μ) ho.2 hv
    refine ⟨by simp only [Tm.inst, AVal.sh, p1, q1], rfl, ⟨by simp [Tm.inst], by simp [Tm.inst]⟩, ⟨by simp, by simp⟩, fun hc => ?_⟩
    simp only [CRel, Tm.inst] at hc ⊢
    have hs : (t.inst u).size = a.size := by unfold AVal.size; rw [p1]
    rw [hs]
    exact ⟨p5 hc.1, q5 hc.2⟩
  | .fn f c, a, x, ho, h => by
    simp only [Tm.okV] at ho
    cases a <;> simp only [Tm.mat] at h <;> try (cases h; done)
    split at h
    · rename_i e; subst e
      obtain ⟨_, _, _, _, p5⟩ := Tm.mat_rel (m := m) (μ := μ) ho h
      refine ⟨rfl, rfl, ⟨by simp [Tm.inst], by simp [Tm.inst]⟩, ⟨by simp, by simp⟩, fun hc => ?_⟩
      simp only [CRel, Tm.inst] at hc ⊢
      obtain ⟨cap, h1, h2⟩ := hc
      exact ⟨cap, h1, p5 h2⟩
    · cases h

theorem Tm.mat_vb {t : Tm} {a : AVal} {x : t.den} (h : t.mat a = some x) (hv : (t.inst x).isVb = true) : a.isVb = true := by
  cases t with
  | vec t =>
    cases a <;> simp only [Tm.mat] at h <;> try (cases h; done)
    rename_i t' xs
    split at h
    · rename_i e; subst e
      simp only [Tm.inst] at hv
      rw [vec_vb xs x]; exact hv
    · cases h
  | dat t => cases t <;> cases hv
  | _ => cases hv

theorem Tm.mat_vrel0 {m : Mem} {μ : LMap} {t : Tm} {a : AVal} {x : t.den} {v : Value} (ho : t.okV = true) (h : t.mat a = some x) (hv : VRel0 m μ a v) : VRel0 m μ (t.inst x) v := by
  obtain ⟨_, h2, h3, h4, h5⟩ := Tm.mat_rel (m := m) (μ := μ) ho h
  rw [VRel0_iff h4.1 h4.2] at hv
  rw [VRel0_iff h3.1 h3.2, h2]
  split
  · rename_i ha
    rw [if_pos ha] at hv
    obtain ⟨cs, h6, h7⟩ := hv
    exact ⟨cs, h6, h5 h7⟩
  · rename_i ha
    rw [if_neg ha] at hv
    exact h5 hv

theorem Tm.mat_trel {m : Mem} {μ : LMap} : ∀ {t : Tm} {a : AVal} {x : t.den} {vs : List Value}, t.okT = true → t.mat a = some x → TRel m μ a vs → TRel m μ (t.inst x) vs
  | .unit, a, x, vs, _, h, hv => by
    cases a <;> simp only [Tm.mat] at h <;> try (cases h; done)
    exact hv
  | .pair t s, a, x, vs, ho, h, hv => by
    simp only [Tm.okT, Bool.and_eq_true, Bool.or_eq_true] at ho
    cases a <;> simp only [Tm.mat] at h <;> try (cases h; done)
    rename_i a b
    simp only [Option.bind_eq_some_iff, Option.some.injEq] at h
    obtain ⟨u, hu, w, hw, h⟩ := h
    subst h
    obtain ⟨v, r, h1, h2, h3⟩ := hv
    refine ⟨v, r, h1, ?_, Tm.mat_trel ho.2 hw h3⟩
    rcases ho.1 with h4 | h4
    · exact Tm.mat_vrel0 h4 hu h2
    · cases t <;> simp at h4
      trivial
  | .undef, _, _, _, ho, _, _ | .dat _, _, _, _, ho, _, _ | .vec _, _, _, _, ho, _, _ | .vsl _, _, _, _, ho, _, _ | .slr _ _, _, _, _, ho, _, _ | .ptr _ _, _, _, _, ho, _, _ | .nilp, _, _, _, ho, _, _ | .sfp _ _ _, _, _, _, ho, _, _ | .vbs _, _, _, _, ho, _, _ | .nils, _, _, _, ho, _, _ | .fn _ _, _, _, _, ho, _, _ | .tup _, _, _, _, ho, _, _ => by cases ho

theorem Tm.mat_vrel {m : Mem} {μ : LMap} {t : Tm} {a : AVal} {x : t.den} {v : Value} (ho : t.ok = true) (h : t.mat a = some x) (hv : VRel m μ a v) : VRel m μ (t.inst x) v := by
  by_cases hu : t = .undef
  · subst hu; trivial
  by_cases ht : ∃ c, t = .tup c
  · obtain ⟨c, rfl⟩ := ht
    cases a <;> simp only [Tm.mat] at h <;> try (cases h; done)
    obtain ⟨vs, h1, h2⟩ := hv
    exact ⟨vs, h1, Tm.mat_trel ho h h2⟩
  · have ho' : t.okV = true := by cases t <;> first | exact ho | exact absurd rfl hu | exact absurd ⟨_, rfl⟩ ht
    obtain ⟨_, _, h3, h4, _⟩ := Tm.mat_rel (m := m) (μ := μ) ho' h
    have e : VRel m μ a v = VRel0 m μ a v := by
      cases a <;> first | rfl | exact absurd rfl (h4.2 _)
    have e' : VRel m μ (t.inst x) v = VRel0 m μ (t.inst x) v := by
      generalize t.inst x = y at h3
      cases y <;> first | rfl | exact absurd rfl (h3.2 _)
    rw [e] at hv; rw [e']
    exact Tm.mat_vrel0 ho' h hv

/-- Lists of templates. -/
theorem matL_spec : ∀ {ts : List Tm} {as : List AVal} {x : tdens ts}, matL ts as = some x → (instL ts x).length = ts.length ∧ as.length = ts.length ∧
    ∀ (i : Nat) (t : Tm), ts[i]? = some t → ∃ a y, as[i]? = some a ∧ t.mat a = some y ∧ (instL ts x)[i]? = some (t.inst y)
  | [], [], _, _ => ⟨rfl, rfl, fun i t h => by simp at h⟩
  | [], _ :: _, _, h => by simp [matL] at h
  | t :: ts, [], x, h => by cases t <;> simp [matL] at h
  | t :: ts, a :: as, x, h => by
    have key : ∀ (y : t.den) (z : tdens ts), t.mat a = some y → matL ts as = some z → instL (t :: ts) x = t.inst y :: instL ts z →
        (instL (t :: ts) x).length = (t :: ts).length ∧ (a :: as).length = (t :: ts).length ∧
        ∀ (i : Nat) (t' : Tm), (t :: ts)[i]? = some t' → ∃ a' y, (a :: as)[i]? = some a' ∧ t'.mat a' = some y ∧ (instL (t :: ts) x)[i]? = some (t'.inst y) := by
      intro y z h1 h2 h3
      obtain ⟨g1, g2, g3⟩ := matL_spec h2
      rw [h3]
      refine ⟨by simp [g1], by simp [g2], fun i t' hi => ?_⟩
      cases i with
      | zero => simp only [List.getElem?_cons_zero, Option.some.injEq] at hi ⊢; subst hi; exact ⟨a, y, rfl, h1, rfl⟩
      | succ i => simp only [List.getElem?_cons_succ] at hi ⊢; exact g3 i t' hi
    cases t <;> first
      | (exact key () x rfl h rfl)
      | (simp only [matL, Option.bind_eq_some_iff, Option.some.injEq] at h
         obtain ⟨u, hu, v, hv, h⟩ := h
         subst h
         exact key u v hu hv rfl)
      | (simp only [matL, Option.bind_eq_some_iff] at h
         obtain ⟨u, hu, h⟩ := h
         exact key u x hu h rfl)

theorem valH_get : ∀ {H : Heap} {i : Nat} {a : AVal}, (valH H)[i]? = some a → H[i]? = some (some a) ∨ (H[i]? = some none ∧ a = .undef)
  | [], i, a, h => by simp [valH] at h
  | none :: H, i, a, h => by
    cases i with
    | zero => simp only [valH, List.getElem?_cons_zero, Option.some.injEq] at h; exact .inr ⟨rfl, h.symm⟩
    | succ i => simp only [valH, List.getElem?_cons_succ] at h ⊢; exact valH_get h
  | some b :: H, i, a, h => by
    cases i with
    | zero => simp only [valH, List.getElem?_cons_zero, Option.some.injEq] at h; subst h; exact .inl rfl
    | succ i => simp only [valH, List.getElem?_cons_succ] at h ⊢; exact valH_get h

theorem valH_length : ∀ {H : Heap}, (valH H).length = H.length
  | [] => rfl
  | none :: H => by simp [valH, valH_length (H := H)]
  | some _ :: H => by simp [valH, valH_length (H := H)]

theorem optH_get : ∀ {l : List AVal} {i : Nat} {a : AVal}, (optH l)[i]? = some (some a) → l[i]? = some a ∧ a ≠ .undef
  | [], i, a, h => by simp [optH] at h
  | b :: l, i, a, h => by
    by_cases hb : b = .undef
    · subst hb
      cases i with
      | zero => simp [optH] at h
      | succ i => simp only [optH, List.getElem?_cons_succ] at h ⊢; exact optH_get h
    · have e : optH (b :: l) = some b :: optH l := by cases b <;> first | rfl | exact absurd rfl hb
      rw [e] at h
      cases i with
      | zero => simp only [List.getElem?_cons_zero, Option.some.injEq] at h ⊢; subst h; exact ⟨rfl, hb⟩
      | succ i => simp only [List.getElem?_cons_succ] at h ⊢; exact optH_get h

theorem optH_length : ∀ {l : List AVal}, (optH l).length = l.length
  | [] => rfl
  | b :: l => by cases b <;> simp [optH, optH_length (l := l)]

theorem mat_undef {t : Tm} {x : t.den} (h : t.mat .undef = some x) : t = .undef := by
  cases t <;> simp [Tm.mat] at h ⊢
  exact ((fromA_inv h).2.2.1 rfl).elim

/-- What fits a template may be read as it. -/
theorem mat_ok {np : Nat} {T : StT} {s : St} {x : T.den} (ho : okTs T.sl = true) (hb : T.H.all (fun t => t.okV || (match t with | .undef => true | _ => false)) = true) (h : T.mat s = some x) : GhostOK np s (T.inst x) := by
  intro m μ w a rh rs
  unfold StT.mat at h
  split at h
  · rename_i hlen
    obtain ⟨g1, g2, g3⟩ := matL_spec h
    have okt : ∀ (l : List Tm) (i : Nat) (t : Tm), okTs l = true → l[i]? = some t → t.ok = true := by
      intro l
      induction l with
      | nil => intro i t _ hi; simp at hi
      | cons b l ih =>
        intro i t hl hi
        simp only [okTs, Bool.and_eq_true] at hl
        cases i with
        | zero => simp only [List.getElem?_cons_zero, Option.some.injEq] at hi; subst hi; exact hl.1
        | succ i => exact ih i t hl.2 (by simpa using hi)
    have hrs : RS m μ (T.inst x).sl a := by
      refine ⟨?_, rs.defers, fun i y hy => ?_⟩
      · simp only [StT.inst, List.length_take, g1, List.length_append]
        rw [rs.size, hlen.1]; omega
      · simp only [StT.inst] at hy
        rw [List.getElem?_take] at hy
        split at hy
        · rename_i hi
          have ht : (T.sl ++ T.H)[i]? = some T.sl[i] := by rw [List.getElem?_append_left hi]; simp
          obtain ⟨b, z, h1, h2, h3⟩ := g3 i _ ht
          rw [h3] at hy
          cases hy
          rw [List.getElem?_append_left (by omega)] at h1
          obtain ⟨v, h4, h5⟩ := rs.rel i b h1
          exact ⟨v, h4, Tm.mat_vrel (okt T.sl i _ ho (by simp)) h2 h5⟩
        · cases hy
    have look : ∀ {i : Nat} {y : AVal}, (T.inst x).H[i]? = some (some y) → ∃ b, s.H[i]? = some (some b) ∧ y.sh = b.sh ∧ (∀ {cs : List Value}, CRel m μ b cs → CRel m μ y cs) ∧ (y.isVb = true → b.isVb = true) := by
      intro i y hy
      simp only [StT.inst] at hy
      obtain ⟨h1, h2⟩ := optH_get hy
      rw [List.getElem?_drop] at h1
      have hlt : T.sl.length + i < (T.sl ++ T.H).length := by
        rw [← g1]
        rcases Nat.lt_or_ge (T.sl.length + i) (instL (T.sl ++ T.H) x).length with h | h
        · exact h
        · rw [List.getElem?_eq_none h] at h1; cases h1
      have hi : i < T.H.length := by simp at hlt; omega
      have ht : (T.sl ++ T.H)[T.sl.length + i]? = some T.H[i] := by
        rw [List.getElem?_append_right (by omega), Nat.add_sub_cancel_left]; simp
      obtain ⟨b, z, h3, h4, h5⟩ := g3 _ _ ht
      rw [h5] at h1
      cases h1
      rw [List.getElem?_append_right (by omega), show T.sl.length + i - s.sl.length = i by omega] at h3
      have hok := List.all_eq_true.1 hb T.H[i] (by simp)
      have hv : T.H[i].okV = true := by
        simp only [Bool.or_eq_true] at hok
        rcases hok with h | h
        · exact h
        · exfalso
          have : T.H[i] = .undef := by
            generalize T.H[i] = q at h
            cases q <;> simp at h ⊢
          generalize T.H[i] = q at this z h2
          subst this
          exact h2 rfl
      obtain ⟨p1, _, _, p4, p5⟩ := Tm.mat_rel (m := m) (μ := μ) hv h4
      rcases valH_get h3 with h6 | ⟨_, h6⟩
      · exact ⟨b, h6, p1, p5, fun hq => Tm.mat_vb h4 hq⟩
      · exact absurd h6 p4.1
    have hlH : (T.inst x).H.length = s.H.length := by
      simp only [StT.inst, optH_length, List.length_drop, g1, List.length_append]
      omega
    refine ⟨m, μ, hrs, ⟨⟨rh.mem, ?_, ?_, ?_, ?_, ?_⟩, Mem.le_refl _, fun _ _ _ h => h, rfl, rfl, rfl, Nat.le_refl _, fun _ _ _ => rfl, ?_, fun _ _ h => .inl h⟩⟩
    · intro i y hy
      obtain ⟨b, h1, h2, h3, _⟩ := look hy
      obtain ⟨l, hbk⟩ := rh.blk i b h1
      refine ⟨l, hbk.loc, by rw [hbk.sh, h2], ?_⟩
      rw [h2]
      rcases hbk.cells with ⟨p1, p2, p3, p4⟩ | ⟨p0, gm, cs, E, fz, k1, k2, k3, k4, k5⟩
      · exact .inl ⟨p1, p2, p3, h3 p4⟩
      · exact .inr ⟨p0, gm, cs, E, fz, k1, k2, k3, k4, h3 k5⟩
    · intro i j y z li lj hi hj
      obtain ⟨b, h1, _, _⟩ := look hi
      obtain ⟨c, h2, _, _⟩ := look hj
      exact rh.inj i j b c li lj h1 h2
    · intro i hi
      exact rh.dom i (by omega)
    · intro i y l hi hl hz
      obtain ⟨c, h1, _, _⟩ := look hi
      exact rh.typ i c l h1 hl hz
    · intro i y l hi hv hl hz
      obtain ⟨c, h1, _, _, h4⟩ := look hi
      exact rh.vb i c l h1 (h4 hv) hl hz
    · rintro b ⟨i, y, l, hi, h2, h3, h4⟩ _
      obtain ⟨c, h1, _, _⟩ := look hi
      exact ⟨i, c, l, h1, h2, h3, h4⟩
  · cases h

def StT.ok (T : StT) : Bool := okTs T.sl && T.H.all (fun t => t.okV || (match t with | .undef => true | _ => false))

def Out.ok (np : Nat) (o : Out) : Bool := okG np o.gs && o.T.ok

theorem exitEq_eq {e e' : Exit} (h : exitEq e e' = true) : e = e' := by
  cases e <;> cases e' <;> simp_all [exitEq]

theorem go_ok {ρ : Type} {np : Nat} {o : Out} (ho : o.ok np = true) {s : St} {K : o.T.den → Option ρ} {r : ρ} (h : o.go s K = some r) : ∃ x, K x = some r ∧ GhostOK np s (o.T.inst x) := by
  simp only [Out.ok, StT.ok, Bool.and_eq_true] at ho
  unfold Out.go at h
  split at h
  · rename_i s' hs
    split at h
    · rename_i x hx
      exact ⟨x, h, (ghosts_ok ho.1 hs).trans (mat_ok ho.2.1 ho.2.2 hx)⟩
    · cases h
  · cases h

theorem goOuts_ok {ρ : Type} {np : Nat} : ∀ {os : List Out} {e : Exit} {s : St} {K : outDen os → Option ρ} {r : ρ}, os.all (Out.ok np) = true → goOuts os e s K = some r →
    ∃ y s', K y = some r ∧ GhostOK np s s' ∧ ∀ {ρ' : Type} (K' : Exit → St → Option ρ'), instOuts os y K' = K' e s'
  | [], _, _, _, _, _, h => by simp [goOuts] at h
  | [o], e, s, K, r, ho, h => by
    simp only [List.all_cons, List.all_nil, Bool.and_true] at ho
    simp only [goOuts] at h
    cases he : exitEq e o.e with
    | false => rw [he] at h; cases h
    | true =>
      rw [he] at h
      obtain ⟨x, h1, h2⟩ := go_ok ho h
      exact ⟨x, _, h1, h2, fun K' => by rw [exitEq_eq he]; rfl⟩
  | o :: o' :: os, e, s, K, r, ho, h => by
    rw [List.all_cons, Bool.and_eq_true] at ho
    simp only [goOuts] at h
    split at h
    · rename_i x hx
      cases he : exitEq e o.e with
      | false => rw [he] at hx; cases hx
      | true =>
        rw [he, cond_true] at hx
        have h1 : o.go s (fun z => if True then some z else none) = some x := by
          unfold Out.go
          cases hg : ghosts o.gs s with
          | none => rw [hg] at hx; cases hx
          | some s1 =>
            rw [hg] at hx
            simp only [Option.bind_some] at hx
            simp [hx]
        obtain ⟨x', h2, h3⟩ := go_ok ho.1 h1
        simp only [if_true, Option.some.injEq] at h2
        subst h2
        exact ⟨.inl x', _, h, h3, fun K' => by rw [exitEq_eq he]; rfl⟩
    · obtain ⟨y, s', h1, h2, h3⟩ := goOuts_ok ho.2 h
      exact ⟨.inr y, s', h1, h2, fun K' => h3 K'⟩

theorem exists_least {p : Nat → Prop} (h : ∃ j, p j) : ∃ j, p j ∧ ∀ i, i < j → ¬ p i := by
  obtain ⟨j, hj⟩ := h
  induction j using Nat.strongRecOn with
  | _ j ih =>
    by_cases h1 : ∃ i, i < j ∧ p i
    · obtain ⟨i, h2, h3⟩ := h1; exact ih i h2 h3
    · exact ⟨j, hj, fun i hi hp => h1 ⟨i, hi, hp⟩⟩

theorem wp_loop_fuel {P : Program} {Q : Exit → Act → World → Prop} {c : Code} (J : Nat → Act → World → Prop) (hz : ∀ a w, ¬ J 0 a w)
    (round : ∀ j a w, J (j + 1) a w → c.wp P (Exit.then (fun a' w' => J j a' w') Q) a w) {n : Nat} {a : Act} {w : World} (h : J n a w) : (Code.loop c).wp P Q a w := by
  classical
  refine wp_loop (fun a w => ∃ j, J j a w) (fun a w => if h : ∃ j, J j a w then Classical.choose (exists_least h) else 0) ⟨n, h⟩ fun a w hI => ?_
  obtain ⟨h1, h2⟩ := Classical.choose_spec (exists_least hI)
  generalize hg : Classical.choose (exists_least hI) = g at h1 h2
  cases g with
  | zero => exact absurd h1 (hz a w)
  | succ g =>
    refine wp_mono (round g a w h1) fun e a' w' hq => ?_
    cases e with
    | normal =>
      refine ⟨⟨g, hq⟩, ?_⟩
      simp only [dif_pos hI, hg]
      have hI' : ∃ j, J j a' w' := ⟨g, hq⟩
      rw [dif_pos hI']
      obtain ⟨_, h4⟩ := Classical.choose_spec (exists_least hI')
      rcases Nat.lt_or_ge (Classical.choose (exists_least hI')) (g + 1) with h5 | h5
      · exact h5
      · exact absurd hq (h4 g (by omega))
    | _ => exact hq

theorem instOuts_spec : ∀ {os : List Out} (y : outDen os), ∃ e s, ∀ {ρ : Type} (K : Exit → St → Option ρ), instOuts os y K = K e s
  | [], y => nomatch y
  | [o], y => ⟨o.e, o.T.inst y, fun _ => rfl⟩
  | o :: o' :: os, .inl a => ⟨o.e, o.T.inst a, fun _ => rfl⟩
  | o :: o' :: os, .inr b => by
    obtain ⟨e, s, h⟩ := instOuts_spec b
    exact ⟨e, s, fun K => h K⟩

/-- A loop, told by its rounds. -/
theorem loop_ok {np : Nat} {C : Ctx} (hΓ : ∀ f, SemOK C.P f (C.Γ f)) (hmix : C.P.follows .mixedOrders = true) {c : Code} {ann : Ann} {T : StT} {gs : List Ghost} {os : List Out}
    {r : {ρ : Type} → T.den → (T.den → Option ρ) → (outDen os → Option ρ) → Option ρ} (hA : AnnOK np C.P c ann) (hT : T.ok = true) (hg : okG np gs = true) (ho : os.all (Out.ok np) = true) (hr : RoundIs C c ann T gs os r) (k : Nat) :
    StOK np C.P (.loop c) (pieceSem T os (loopJ r k)) := by
  intro ρ st K r0 h
  simp only [pieceSem] at h
  split at h
  · rename_i x hx
    rw [Option.bind_eq_some_iff] at h
    obtain ⟨y, hy, h⟩ := h
    obtain ⟨e, s, hs⟩ := instOuts_spec y
    rw [hs] at h
    refine ⟨e, s, h, ?_⟩
    have hT' := hT
    simp only [StT.ok, Bool.and_eq_true] at hT'
    refine Goes.ghost (mat_ok hT'.1 hT'.2 hx) ?_
    intro m μ w a Q rh rs hQ
    refine wp_loop_fuel (fun j a' w' => ∃ x' m' μ', loopJ r j x' = some y ∧ RS m' μ' (T.inst x').sl a' ∧ PostW np m μ (T.inst x).H w m' μ' (T.inst x').H w') ?_ ?_ (n := k) ⟨x, m, μ, hy, rs, (Post.refl rh).toW⟩
    · rintro a w ⟨_, _, _, h, _⟩; cases h
    · rintro j a1 w1 ⟨x1, m1, μ1, h1, rs1, p1⟩
      simp only [loopJ] at h1
      have h1' : evC C c ann (T.inst x1) (roundK T gs os (loopJ r j) some) = some y := (hr x1 (loopJ r j) some).trans h1
      obtain ⟨e1, s1, h2, h3⟩ := evC_sound hΓ hmix c ann _ _ _ hA h1'
      refine h3 m1 μ1 w1 a1 _ p1.rh rs1 fun a2 w2 m2 μ2 rs2 p2 => ?_
      have out : e1 ≠ .normal → goOuts os e1 s1 some = some y → Exit.then (fun a' w' => ∃ x' m' μ', loopJ r j x' = some y ∧ RS m' μ' (T.inst x').sl a' ∧ PostW np m μ (T.inst x).H w m' μ' (T.inst x').H w') Q e1 a2 w2 := by
        intro hne h4
        obtain ⟨y', s', h5, h6, h7⟩ := goOuts_ok ho h4
        cases h5
        have h8 := (h7 (ρ' := Exit × St) fun e s => some (e, s)).symm.trans (hs fun e s => some (e, s))
        cases h8
        obtain ⟨m3, μ3, rs3, p3⟩ := h6 m2 μ2 w2 a2 p2.rh rs2
        have := hQ a2 w2 m3 μ3 rs3 ((p1.trans p2).trans p3)
        cases e <;> first | exact absurd rfl hne | exact this
      cases e1 with
      | normal =>
        simp only [roundK] at h2
        obtain ⟨x2, h4, h5⟩ := go_ok (o := ⟨.normal, gs, T⟩) (by show (okG np gs && T.ok) = true; rw [hg, hT]; rfl) h2
        obtain ⟨m3, μ3, rs3, p3⟩ := h5 m2 μ2 w2 a2 p2.rh rs2
        exact ⟨x2, m3, μ3, h4, rs3, (p1.trans p2).trans p3⟩
      | _ => exact out (by simp) h2
  · cases h

/-- A piece, told by itself. -/
theorem piece_ok {np : Nat} {C : Ctx} (hΓ : ∀ f, SemOK C.P f (C.Γ f)) (hmix : C.P.follows .mixedOrders = true) {c : Code} {ann : Ann} {T : StT} {os : List Out}
    (r : {ρ : Type} → T.den → (outDen os → Option ρ) → Option ρ) (hA : AnnOK np C.P c ann) (hT : T.ok = true) (ho : os.all (Out.ok np) = true) (hr : PieceIs C c ann T os r) :
    StOK np C.P c (pieceSem T os (fun x => r x some)) := by
  intro ρ st K r0 h
  simp only [pieceSem] at h
  split at h
  · rename_i x hx
    rw [Option.bind_eq_some_iff] at h
    obtain ⟨y, hy, h⟩ := h
    obtain ⟨e, s, hs⟩ := instOuts_spec y
    rw [hs] at h
    refine ⟨e, s, h, ?_⟩
    have hT' := hT
    simp only [StT.ok, Bool.and_eq_true] at hT'
    refine Goes.ghost (mat_ok hT'.1 hT'.2 hx) ?_
    have h1 : evC C c ann (T.inst x) (fun e s => goOuts os e s some) = some y := (hr x some).trans hy
    obtain ⟨e1, s1, h2, h3⟩ := evC_sound hΓ hmix c ann _ _ _ hA h1
    obtain ⟨y', s', h5, h6, h7⟩ := goOuts_ok ho h2
    cases h5
    have h8 := (h7 (ρ' := Exit × St) fun e s => some (e, s)).symm.trans (hs fun e s => some (e, s))
    cases h8
    intro m μ w a Q rh rs hQ
    refine h3 m μ w a Q rh rs fun a2 w2 m2 μ2 rs2 p2 => ?_
    obtain ⟨m3, μ3, rs3, p3⟩ := h6 m2 μ2 w2 a2 p2.rh rs2
    exact hQ _ _ _ _ rs3 (p2.trans p3)
  · cases h
end Go.Am
/- Functions over pure data: what their bodies do is what their calls do. -/
namespace Go.Am
open Go

theorem vrel_toA {m : Mem} {μ μ' : LMap} {t : Ty} {x : t.den} {v : Value} (h : VRel m μ (toA t x) v) : VRel m μ' (toA t x) v := by
  have e : ∀ μ : LMap, VRel m μ (toA t x) v ↔ if (toA t x).isAgg then ∃ cs, v = .agg cs ∧ DRel m t x cs.toList else DRel m t x [v] := by
    intro μ
    have h1 : VRel m μ (toA t x) v = VRel0 m μ (toA t x) v := by
      have := toA_ne (t := t) (x := x)
      generalize toA t x = y at this
      cases y <;> first | rfl | exact absurd rfl (this.2 _)
    rw [h1, VRel0_iff toA_ne.1 toA_ne.2]
    simp only [toA_rel]
  rw [e] at h ⊢
  exact h

theorem vrel_of {m : Mem} {μ : LMap} {t : Ty} {x : t.den} {a : AVal} {m' : Mem} {μ' : LMap} {v : Value} (h1 : a.isAgg = (toA t x).isAgg) (h2 : a ≠ .undef ∧ ∀ s, a ≠ .tup s) (h3 : ∀ {cs : List Value}, CRel m μ a cs → DRel m' t x cs) (hv : VRel m μ a v) : VRel m' μ' (toA t x) v := by
  have e1 : VRel m μ a v = VRel0 m μ a v := by
    cases a <;> first | rfl | exact absurd rfl (h2.2 _)
  have e2 : VRel m' μ' (toA t x) v = VRel0 m' μ' (toA t x) v := by
    have := toA_ne (t := t) (x := x)
    generalize toA t x = y at this
    cases y <;> first | rfl | exact absurd rfl (this.2 _)
  rw [e1, VRel0_iff h2.1 h2.2] at hv
  rw [e2, VRel0_iff toA_ne.1 toA_ne.2, ← h1]
  split at hv
  · rename_i ha
    rw [if_pos ha]
    obtain ⟨cs, h4, h5⟩ := hv
    exact ⟨cs, h4, toA_rel.2 (h3 h5)⟩
  · rename_i ha
    rw [if_neg ha]
    exact toA_rel.2 (h3 hv)

theorem argD_sl {H : Heap} {t : Ty} {a : AVal} {x : List t.den} {ids : List Nat} (h : argD H (.sl t) a = some (x, ids)) :
    (a = .nils ∧ x = [] ∧ ids = []) ∨ ((t.size == 0) = false ∧ a ≠ .nils ∧ viewA H a = some ⟨t, x, ids⟩) := by
  simp only [argD] at h
  split at h
  · cases h; exact .inl ⟨rfl, rfl, rfl⟩
  · rename_i hb
    split at h
    · rename_i t' xs ids' hv
      split at h
      · rename_i e
        subst e
        rw [Bool.cond_eq_ite] at h
        split at h
        · cases h
        · rename_i ht
          cases h
          exact .inr ⟨by simpa using ht, hb, hv⟩
      · cases h
    · cases h

theorem argD_sl_of {H : Heap} {t : Ty} {a : AVal} {x : List t.den} {ids : List Nat} (ht : (t.size == 0) = false) (hb : a ≠ .nils) (hv : viewA H a = some ⟨t, x, ids⟩) : argD H (.sl t) a = some (x, ids) := by
  cases a <;> first
    | exact absurd rfl hb
    | (simp only [argD, hv]; simp [ht])

theorem argD_ids {H H2 : Heap} : ∀ {t : Ty} {a : AVal} {x : t.den} {ids : List Nat}, argD H t a = some (x, ids) → (∀ i, i ∈ ids → H2[i]? = H[i]?) → argD H2 t a = some (x, ids)
  | .sl t, a, x, ids, h, hi => by
    rcases argD_sl h with ⟨rfl, rfl, rfl⟩ | ⟨h1, h2, h3⟩
    · rfl
    · exact argD_sl_of h1 h2 (viewA_ids h3 H2 hi)
  | .pair a b, v, x, ids, h, hi => by
    simp only [argD] at h ⊢
    split at h
    · simp only [Option.bind_eq_some_iff, Option.some.injEq] at h
      obtain ⟨u, hu, w, hw, h⟩ := h
      cases h
      simp only [argD_ids (x := u.1) (ids := u.2) hu (fun i h => hi i (by simp [h])), argD_ids (x := w.1) (ids := w.2) hw (fun i h => hi i (by simp [h])), Option.bind_some]
    · cases h
  | .int _, _, _, _, h, _ | .bool, _, _, _, h, _ | .str, _, _, _, h, _ | .unit, _, _, _, h, _ | .arr _ _, _, _, _, h, _ => h

theorem argsD_ids {H H2 : Heap} : ∀ {ts : List Ty} {as : List AVal} {x : dens ts} {ids : List Nat}, argsD H ts as = some (x, ids) → (∀ i, i ∈ ids → H2[i]? = H[i]?) → argsD H2 ts as = some (x, ids)
  | [], [], _, _, h, _ => h
  | t :: ts, a :: as, x, ids, h, hi => by
    simp only [argsD, Option.bind_eq_some_iff, Option.some.injEq] at h ⊢
    obtain ⟨u, hu, w, hw, h⟩ := h
    cases h
    exact ⟨u, argD_ids (x := u.1) (ids := u.2) hu (fun i h => hi i (by simp [h])), w, argsD_ids (x := w.1) (ids := w.2) hw (fun i h => hi i (by simp [h])), rfl⟩
  | [], _ :: _, _, _, h, _ => by simp [argsD] at h
  | _ :: _, [], _, _, h, _ => by simp [argsD] at h

section
variable {m : Mem} {μ : LMap} {H : Heap} {w : World} {ids : List Nat}

theorem argD_rel (rh : RH m μ H w) : ∀ {t : Ty} {a : AVal} {x : t.den} {ids' : List Nat}, argD H t a = some (x, ids') → (∀ i, i ∈ ids' → i ∈ ids) →
    a.sh = t.sh ∧ a.isAgg = (toA t x).isAgg ∧ (a ≠ .undef ∧ ∀ s, a ≠ .tup s) ∧ ∀ {cs : List Value}, CRel m μ a cs → DRel (frzM m μ H w ids) t x cs
  | .sl t, a, x, ids', h, hi => by
    rcases argD_sl h with ⟨rfl, rfl, rfl⟩ | ⟨ht, hb, hv⟩
    · refine ⟨rfl, rfl, ⟨by simp, by simp⟩, fun hc => ?_⟩
      simp only [CRel] at hc
      subst hc
      exact ⟨none, 0, rfl, Nat.le_refl _, fun i h => by simp at h⟩
    · have fin : frzA H a = some (.ros t x, ids') → a.sh = (Ty.sl t).sh → a.isAgg = false → (a ≠ .undef ∧ ∀ s, a ≠ .tup s) →
          a.sh = (Ty.sl t).sh ∧ a.isAgg = (toA (.sl t) x).isAgg ∧ (a ≠ .undef ∧ ∀ s, a ≠ .tup s) ∧ ∀ {cs : List Value}, CRel m μ a cs → DRel (frzM m μ H w ids) (.sl t) x cs := by
        intro hf h1 h2 h3
        refine ⟨h1, h2, h3, fun hc => ?_⟩
        have := (frzA_rel rh hf hi hc).2.2
        simpa only [CRel] using this
      cases a <;> simp only [viewA] at hv <;> try (cases hv; done)
      case sl id p off len =>
        have hid : ids' = [id] := by
          split at hv
          · split at hv
            · cases hv; rfl
            · cases hv; rfl
            · cases hv
          · cases hv
        subst hid
        exact fin (by simp only [frzA, viewA, hv, ht, cond_false]) rfl rfl ⟨by simp, by simp⟩
      case ros t2 ys =>
        cases hv
        exact ⟨rfl, rfl, ⟨by simp, by simp⟩, fun hc => DRel.mono (frz_le rh) (by simpa only [CRel] using hc)⟩
      case vsl id =>
        split at hv
        · rename_i t2 ys hh
          cases hv
          exact fin (by simp only [frzA, hh, ht, cond_false]) rfl rfl ⟨by simp, by simp⟩
        · cases hv
  | .pair a b, v, x, ids', h, hi => by
    simp only [argD] at h
    split at h
    · rename_i y z
      simp only [Option.bind_eq_some_iff, Option.some.injEq] at h
      obtain ⟨u, hu, q, hq, h⟩ := h
      cases h
      obtain ⟨s1, _, _, r1⟩ := argD_rel rh (x := u.1) (ids' := u.2) hu (fun i h => hi i (by simp [h]))
      obtain ⟨s2, _, _, r2⟩ := argD_rel rh (x := q.1) (ids' := q.2) hq (fun i h => hi i (by simp [h]))
      refine ⟨by simp only [AVal.sh, Ty.sh, s1, s2], rfl, ⟨by simp, by simp⟩, fun hc => ?_⟩
      simp only [CRel] at hc
      have hs : y.size = a.size := by unfold AVal.size; rw [s1, Ty.sh_size]
      rw [hs] at hc
      exact ⟨r1 hc.1, r2 hc.2⟩
    · cases h
  | .int k, a, x, ids', h, hi | .bool, a, x, ids', h, hi | .str, a, x, ids', h, hi | .unit, a, x, ids', h, hi | .arr _ _, a, x, ids', h, hi => by
    simp only [argD] at h
    obtain ⟨y, hy, h⟩ := Option.bind_eq_some_iff.1 h
    cases h
    obtain ⟨h1, h2, h3, h4⟩ := fromA_inv hy
    exact ⟨h1, h2, ⟨h3, h4⟩, fun hc => DRel.mono (frz_le rh) ((fromA_rel hy).2 hc)⟩

theorem argsD_rel (rh : RH m μ H w) (μ' : LMap) : ∀ {ts : List Ty} {as : List AVal} {x : dens ts} {ids' : List Nat} {vs : List Value}, argsD H ts as = some (x, ids') → (∀ i, i ∈ ids' → i ∈ ids) → VRels m μ as vs →
    VRels (frzM m μ H w ids) μ' (argsA ts x) vs
  | [], [], _, _, vs, _, _, hv => by cases vs with | nil => trivial | cons _ _ => exact hv.elim
  | t :: ts, a :: as, x, ids', vs, h, hi, hv => by
    simp only [argsD, Option.bind_eq_some_iff, Option.some.injEq] at h
    obtain ⟨u, hu, q, hq, h⟩ := h
    cases h
    cases vs with
    | nil => exact hv.elim
    | cons v vs =>
      obtain ⟨s1, s2, s3, s4⟩ := argD_rel rh (x := u.1) (ids' := u.2) (ids := ids) hu (fun i h => hi i (by simp [h]))
      exact ⟨vrel_of s2 s3 s4 hv.1, argsD_rel rh μ' (x := q.1) (ids' := q.2) hq (fun i h => hi i (by simp [h])) hv.2⟩
  | [], _ :: _, _, _, _, h, _, _ => by simp [argsD] at h
  | _ :: _, [], _, _, _, h, _, _ => by simp [argsD] at h

theorem frzA_ids : ∀ {a a' : AVal} {ids' : List Nat}, frzA H a = some (a', ids') → ∀ i, i ∈ ids' → i < H.length
  | .vsl id, a', ids', h, i, hi => by
    simp only [frzA] at h
    split at h
    · rename_i t xs hh
      rw [Bool.cond_eq_ite] at h
      split at h
      · cases h
      · cases h
        simp at hi; subst hi
        exact (List.getElem?_eq_some_iff.1 hh).1
    · cases h
  | .sl id p off len, a', ids', h, i, hi => by
    simp only [frzA] at h
    split at h
    · rename_i t xs idv hv
      rw [Bool.cond_eq_ite] at h
      split at h
      · cases h
      · cases h
        simp at hi; subst hi
        simp only [viewA] at hv
        split at hv
        · rename_i c hh; exact (List.getElem?_eq_some_iff.1 hh).1
        · cases hv
    · cases h
  | .pair a b, a', ids', h, i, hi => by
    simp only [frzA, Option.bind_eq_some_iff, Option.some.injEq] at h
    obtain ⟨x, hx, y, hy, h⟩ := h
    cases h
    rcases List.mem_append.1 hi with h1 | h1
    · exact frzA_ids hx i h1
    · exact frzA_ids hy i h1
  | .tup a, a', ids', h, i, hi => by
    simp only [frzA, Option.bind_eq_some_iff, Option.some.injEq] at h
    obtain ⟨x, hx, h⟩ := h
    cases h
    exact frzA_ids hx i hi
  | .int _ _, _, _, h, i, hi | .bool _, _, _, h, i, hi | .str _, _, _, h, i, hi | .nilp, _, _, h, i, hi | .nils, _, _, h, i, hi | .unit, _, _, h, i, hi | .ros _ _, _, _, h, i, hi | .undef, _, _, h, i, hi
  | .rop _ _, _, _, h, i, hi | .arr _ _ _, _, _, h, i, hi | .ptr _ _, _, _, h, i, hi | .sfp _ _ _, _, _, h, i, hi => by
    simp only [frzA, Option.some.injEq, Prod.mk.injEq] at h
    obtain ⟨rfl, rfl⟩ := h
    simp at hi
  | .vbs _, _, _, h, _, _ | .vec _ _, _, _, h, _, _ | .parr _ _ _ _, _, _, h, _, _ | .fn _ _, _, _, h, _, _ => by simp [frzA] at h
end

/-! results -/
theorem run_resVar {P : Program} {m : Mem} {μ : LMap} {st : St} {w : World} {a : Act} {r : ResultVar} {v : AVal} (rh : RH m μ st.H w) (rs : RS m μ st.sl a) (h : resVar P st r = some v) :
    ∃ u, ((fun r => match r with | .tmp t => pure (a.tmps.getD t undef) | .cell b t => do loadVar t (← asAddr (a.tmps.getD b undef)) : ResultVar → Sem Value) r).run P w = .ok u w ∧ VRel m μ v u := by
  cases r with
  | tmp t =>
    simp only [resVar, Option.some.injEq] at h
    subst h
    exact ⟨_, rfl, evalA_rel rs (.tmp t)⟩
  | cell b T =>
    simp only [resVar] at h
    split at h
    · rename_i r hr
      cases h
      obtain ⟨_, u, h1, h2⟩ := load_sound rh (evalA_rel rs (.tmp b)) hr
      refine ⟨u, ?_, h2⟩
      have e : a.eval (.tmp b) = a.tmps.getD b undef := rfl
      rw [e] at h1
      simp only [Instr.loadAt, run_bind] at h1 ⊢
      generalize a.tmps.getD b undef = q at h1 ⊢
      cases q <;> try (simp [Instr.sureAddr, stuck, Sem.run] at h1; done)
      rename_i ad
      cases ad with
      | none => simp [Instr.sureAddr, stuck, Sem.run, runtimePanic] at h1
      | some ad => exact h1
    · cases h

theorem fromA_vrel {m : Mem} {μ μ' : LMap} {t : Ty} {x : t.den} {a : AVal} {v : Value} (h : fromA t a = some x) (hv : VRel m μ a v) : VRel m μ' (toA t x) v := by
  obtain ⟨h1, h2, h3, h4⟩ := fromA_inv h
  exact vrel_of h2 ⟨h3, h4⟩ (fun hc => (fromA_rel h).2 hc) hv

theorem retK_ok {ρ : Type} {P : Program} {m : Mem} {μ : LMap} {st : St} {w : World} {a : Act} (μ' : LMap) (rh : RH m μ st.H w) (rs : RS m μ st.sl a) : ∀ {l : List ResultVar} {ts : List Ty} {K : dens ts → Option ρ} {r : ρ}, retK P st l ts K = some r →
    ∃ y us, K y = some r ∧ (l.mapM (fun r => match r with | .tmp t => pure (a.tmps.getD t undef) | .cell b t => do loadVar t (← asAddr (a.tmps.getD b undef)) : ResultVar → Sem Value)).run P w = .ok us w ∧
      VRels (frzM m μ st.H w (List.range st.H.length)) μ' (argsA ts y) us
  | [], [], K, r, h => ⟨(), [], h, by simp only [List.mapM_nil]; rfl, trivial⟩
  | q :: l, t :: ts, K, r, h => by
    simp only [retK] at h
    split at h
    · rename_i v hv
      split at h
      · rename_i z hz
        split at h
        · rename_i x hx
          obtain ⟨y, us, h1, h2, h3⟩ := retK_ok μ' rh rs h
          obtain ⟨u, h4, h5⟩ := run_resVar rh rs hv
          refine ⟨(x, y), u :: us, h1, ?_, fromA_vrel hx (frzA_vrel rh (a' := z.1) (ids' := z.2) hz (fun i hi => by simpa using frzA_ids (a' := z.1) (ids' := z.2) hz i hi) h5), h3⟩
          haveI := semLawful
          simp only [List.mapM_cons, run_bind]
          rw [h4]
          simp only [h2, run_pure]
        · cases h
      · cases h
    · cases h
  | [], _ :: _, _, _, h => by simp [retK] at h
  | _ :: _, [], _, _, h => by simp [retK] at h

theorem trel_args {m : Mem} {μ : LMap} : ∀ {ts : List Ty} {y : dens ts} {us : List Value}, VRels m μ (argsA ts y) us → TRel m μ (spineD ts y) us
  | [], _, [], _ => rfl
  | [], _, _ :: _, h => h.elim
  | t :: ts, y, [], h => h.elim
  | t :: ts, y, u :: us, h => by
    refine ⟨u, us, rfl, ?_, trel_args h.2⟩
    have := toA_ne (t := t) (x := y.1)
    have h1 := h.1
    generalize toA t y.1 = z at this h1
    cases z <;> first | exact h1 | exact absurd rfl (this.2 _)

theorem run_results {P : Program} {w : World} {fn : Func} {tmps : Array Value} {us : List Value} (h : (fn.results.toList.mapM (fun r => match r with | .tmp t => pure (tmps.getD t undef) | .cell b t => do loadVar t (← asAddr (tmps.getD b undef)) : ResultVar → Sem Value)).run P w = .ok us w) :
    (results fn tmps).run P w = .ok (if us.length = 1 then us.headD undef else .tuple us.toArray) w := by
  haveI := semLawful
  have h1 : (fn.results.mapM (fun r => match r with | .tmp t => pure (tmps.getD t undef) | .cell b t => do loadVar t (← asAddr (tmps.getD b undef)) : ResultVar → Sem Value)).run P w = .ok us.toArray w := by
    rw [Array.mapM_eq_mapM_toList]
    show (List.toArray <$> (fn.results.toList.mapM _) : Sem _).run P w = _
    rw [map_eq_pure_bind]
    simp only [run_bind, h, run_pure]
  unfold results
  rw [run_bind]
  split
  case h_2 w2 w3 heq => cases heq.symm.trans h1
  rename_i vs w2 heq
  cases heq.symm.trans h1
  simp only [run_pure]
  congr 1
  by_cases hl : us.length = 1
  · rw [dif_pos (by simpa using hl), if_pos hl]
    cases us with
    | nil => cases hl
    | cons u us => simp
  · rw [dif_neg (by simpa using hl), if_neg hl]

theorem res_rel {m : Mem} {μ : LMap} {ts : List Ty} {y : dens ts} {us : List Value} (h : VRels m μ (argsA ts y) us) : VRel m μ (resA ts y) (if us.length = 1 then us.headD undef else .tuple us.toArray) := by
  have hlen := h.length
  have hargs : ∀ {ts : List Ty} {y : dens ts}, (argsA ts y).length = ts.length := by
    intro ts
    induction ts with
    | nil => intro y; rfl
    | cons t ts ih => intro y; simp [argsA, ih]
  rw [hargs] at hlen
  match ts, y, us, h, hlen with
  | [], y, us, h, hlen =>
    rw [if_neg (by simp [hlen])]
    exact ⟨us.toArray, rfl, by simpa using trel_args h⟩
  | [t], y, [u], h, hlen => exact h.1
  | [t], y, [], h, hlen => cases hlen
  | [t], y, _ :: _ :: _, h, hlen => simp at hlen
  | t :: t' :: ts, y, us, h, hlen =>
    rw [if_neg (by simp [hlen])]
    exact ⟨us.toArray, rfl, by simpa using trel_args h⟩

theorem noRo_rel {m m' : Mem} : ∀ {t : Ty} {x : t.den} {cs : List Value}, noRoTy t = true → DRel m t x cs → DRel m' t x cs
  | .int _, _, _, _, h | .bool, _, _, _, h | .str, _, _, _, h | .unit, _, _, _, h => h
  | .pair a b, x, cs, hn, h => by
    simp only [noRoTy, Bool.and_eq_true] at hn
    exact ⟨noRo_rel hn.1 h.1, noRo_rel hn.2 h.2⟩
  | .arr n t, xs, cs, hn, h => ⟨h.1, h.2.1, fun i hi => noRo_rel (t := t) hn (h.2.2 i hi)⟩
  | .sl _, _, _, hn, _ => by cases hn

theorem noRo_vrels {m m' : Mem} {μ μ' : LMap} : ∀ {ts : List Ty} {y : dens ts} {us : List Value}, ts.all noRoTy = true → VRels m μ (argsA ts y) us → VRels m' μ' (argsA ts y) us
  | [], _, [], _, _ => trivial
  | [], _, _ :: _, _, h => h.elim
  | t :: ts, y, [], _, h => h.elim
  | t :: ts, y, u :: us, hn, h => by
    rw [List.all_cons, Bool.and_eq_true] at hn
    exact ⟨vrel_of rfl toA_ne (fun hc => noRo_rel hn.1 (toA_rel.1 hc)) h.1, noRo_vrels hn.2 h.2⟩

theorem vrels_mu {m : Mem} {μ μ' : LMap} : ∀ {ts : List Ty} {y : dens ts} {us : List Value}, VRels m μ (argsA ts y) us → VRels m μ' (argsA ts y) us
  | [], _, [], _ => trivial
  | [], _, _ :: _, h => h.elim
  | t :: ts, y, [], h => h.elim
  | t :: ts, y, u :: us, h => ⟨vrel_toA h.1, vrels_mu h.2⟩

def mu0 : LMap := fun _ => none

theorem not_owned0 {b : Nat} : ¬ Owned mu0 [] b := by rintro ⟨i, a, l, h, _⟩; simp at h

theorem start_rs {m : Mem} {as : List AVal} {vs : List Value} (n : Nat) (h : VRels m mu0 as vs) : RS m mu0 (startSt n as).sl { tmps := vs.toArray ++ Array.replicate (n - vs.toArray.size) undef, defers := [] } := by
  have hl := h.length
  refine ⟨by simp [startSt, hl], rfl, fun i x hx => ?_⟩
  simp only [startSt] at hx
  rcases Nat.lt_or_ge i as.length with h1 | h1
  · rw [List.getElem?_append_left h1] at hx
    obtain ⟨v, h2, h3⟩ := h.get hx
    exact ⟨v, by rw [Array.getElem?_append_left (by simp; omega)]; simpa using h2, h3⟩
  · rw [List.getElem?_append_right h1, List.getElem?_replicate] at hx
    split at hx
    · rename_i h2
      cases hx
      refine ⟨undef, ?_, vrel_any _⟩
      rw [Array.getElem?_append_right (by simp; omega)]
      rw [Array.getElem?_replicate, if_pos (by simp; omega)]
    · cases hx

/-- The body of a function over pure data: from pure arguments to pure results. -/
theorem body_calls {C : Ctx} (hΓ : ∀ f, SemOK C.P f (C.Γ f)) (hmix : C.P.follows .mixedOrders = true) {f : Nat} {fn : Func} {c : Code} {ann : Ann} {tin tout : List Ty} {F : {ρ : Type} → dens tin → (dens tout → Option ρ) → Option ρ}
    (hf : C.P.funcs[f]? = some fn) (hb : fn.body = some c) (hA : AnnOK 0 C.P c ann) (hB : BodyIs C fn c ann tin tout F) {x : dens tin} {y : dens tout} (hF : F x some = some y)
    {m : Mem} {w : World} {vs : List Value} (rh : RH m mu0 [] w) (hv : VRels m mu0 (argsA tin x) vs) :
    Calls C.P f vs.toArray w (fun e w' => ∃ us m' H', e = .returned (if us.length = 1 then us.headD undef else .tuple us.toArray) ∧ VRels m' mu0 (argsA tout y) us ∧ (∃ μ', PostW 0 m mu0 [] w m' μ' H' w')) := by
  refine calls_of_wp hf hb ?_
  have h1 : evC C c ann (startSt fn.ntmps (argsA tin x)) (finK C.P fn.results.toList tout some) = some y := (hB x some).trans hF
  obtain ⟨e, st', h2, h3⟩ := evC_sound hΓ hmix c ann _ _ _ hA h1
  refine h3 m mu0 w _ _ rh (start_rs fn.ntmps hv) fun a' w' m' μ' rs' p => ?_
  have done : retK C.P st' fn.results.toList tout some = some y → a'.defers = [] ∧ ∃ v, (results fn a'.tmps).run C.P w' = .ok v w' ∧ ∃ us m' H', Ending.returned v = .returned (if us.length = 1 then us.headD undef else .tuple us.toArray) ∧ VRels m' mu0 (argsA tout y) us ∧ (∃ μ', PostW 0 m mu0 [] w m' μ' H' w') := by
    intro h
    obtain ⟨y', us, h4, h5, h6⟩ := retK_ok mu0 p.rh rs' h
    cases h4
    exact ⟨rs'.defers, _, run_results h5, us, _, _, rfl, h6, μ', p.trans (frz_post p.rh).toW⟩
  cases e with
  | normal => exact done h2
  | ret => exact done h2
  | _ => cases h2

theorem run_callFunc {P : Program} {f : Nat} {fn : Func} {c : Code} (hf : P.funcs[f]? = some fn) (hb : fn.body = some c) (hn : (fn.name == "runtime.NumGoroutine") = false) (args : Array Value) (w : World) :
    (callFunc f args).run P w = .ok (.enter f args) w := by
  unfold callFunc
  rw [run_bind, run_program]
  simp only [hf, hn, hb, Option.isNone_some, Bool.false_eq_true, if_false]
  rfl

theorem callPure_ok {C : Ctx} (hΓ : ∀ f, SemOK C.P f (C.Γ f)) (hmix : C.P.follows .mixedOrders = true) {f : Nat} {fn : Func} {c : Code} {ann : Ann} {tin tout : List Ty} (F : {ρ : Type} → dens tin → (dens tout → Option ρ) → Option ρ)
    (hf : C.P.funcs[f]? = some fn) (hb : fn.body = some c) (hn : (fn.name == "runtime.NumGoroutine") = false) (hA : AnnOK 0 C.P c ann) (hB : BodyIs C fn c ann tin tout F) : SemOK C.P f (callPure tin tout fun x => F x some) := by
  intro ρ args H k r h
  simp only [callPure] at h
  split at h
  · rename_i x ids hx
    have hcond : (ids.isEmpty || tout.all noRoTy) = true := by
      cases hc : (ids.isEmpty || tout.all noRoTy) with
      | true => rfl
      | false => rw [hc] at h; cases h
    rw [hcond, cond_true, Option.bind_eq_some_iff] at h
    obtain ⟨y, hy, h⟩ := h
    refine ⟨_, _, _, h, ?_⟩
    have main : ∀ H2 : Heap, argsD H2 tin args = some (x, ids) → CallOK C.P f args H2 (resA tout y) H2 := by
      intro H2 hx2 m μ w vs rh hv
      refine ⟨_, _, run_callFunc hf hb hn _ w, .inl ⟨f, _, rfl, ?_⟩⟩
      have hp := frz_post (ids := ids) rh
      have rh0 : RH (frzM m μ H2 w ids) mu0 [] w := ⟨hp.rh.mem, fun i a h => by simp at h, fun i j a b li lj h => by simp at h, fun i _ => rfl, fun i a l h => by simp at h, fun i a l h => by simp at h⟩
      refine (body_calls hΓ hmix hf hb hA hB hy rh0 (argsD_rel rh mu0 hx2 (fun _ h => h) hv)).mono fun e w' he => ?_
      obtain ⟨us, m2, H', he, h1, μ2, p⟩ := he
      have kept : ∀ b, b < w.heap.size → w'.heap[b]? = w.heap[b]? := fun b hb => p.keep b hb not_owned0
      have lt : ∀ {b : Nat} {o : Obj}, w.heap[b]? = some o → b < w.heap.size := fun h => heap_lt h
      -- what is known of the caller's blocks goes on
      have blkOK : ∀ m3 : Mem, m.le m3 → (∀ b, Owned μ H2 b → m3 b = none) → ∀ i a, H2[i]? = some (some a) → ∃ l, Blk m3 μ w' i a l := by
        intro m3 hm hno i a hi
        obtain ⟨l, hbk⟩ := rh.blk i a hi
        refine ⟨l, hbk.loc, hbk.sh, ?_⟩
        rcases hbk.cells with ⟨p1, p2, p3, p4⟩ | ⟨p0, gm, cs, E, fz, g1, g2, g3, g4, g5⟩
        · exact .inl ⟨p1, p2, p3, p4.mono hm (LMap.le_refl _)⟩
        · exact .inr ⟨p0, hno _ ⟨i, a, l, hi, hbk.loc, p0, rfl⟩, cs, E, fz, by rw [kept _ (lt g1)]; exact g1, g2, g3, g4, g5.mono hm (LMap.le_refl _)⟩
      have ownedM : ∀ b, Owned μ H2 b → m b = none ∧ b < w.heap.size := by
        rintro b ⟨i, a, l, hi, hl, hz, rfl⟩
        obtain ⟨l', hbk⟩ := rh.blk i a hi
        have : l' = l := Option.some.inj (hbk.loc.symm.trans hl)
        subst this
        rcases hbk.cells with ⟨p1, _⟩ | ⟨_, gm, cs, E, fz, g1, _⟩
        · omega
        · exact ⟨gm, lt g1⟩
      have typOK : ∀ i a l, H2[i]? = some (some a) → μ i = some l → 0 < l.tot → ∃ cs fz, w'.heap[l.b]? = some (.cells cs l.E fz) := by
        intro i a l hi hl hz
        obtain ⟨cs, fz, h1⟩ := rh.typ i a l hi hl hz
        exact ⟨cs, fz, by rw [kept _ (lt h1)]; exact h1⟩
      by_cases hids : ids = []
      · subst hids
        have hm1 : frzM m μ H2 w [] = m := by
          funext b
          unfold frzM
          rw [if_neg]
          rintro ⟨i, _, _, h, _⟩; simp at h
        rw [hm1] at p
        have hno : ∀ b, Owned μ H2 b → m2 b = none := by
          intro b hb
          obtain ⟨h2, h3⟩ := ownedM b hb
          cases hm2 : m2 b with
          | none => rfl
          | some c =>
            rcases p.mgrow b c hm2 with h4 | h4 | h4
            · rw [h2] at h4; cases h4
            · exact (not_owned0 h4).elim
            · omega
        refine ⟨_, m2, μ, he, res_rel (vrels_mu h1), ⟨⟨p.rh.mem, blkOK m2 p.ml hno, rh.inj, rh.dom, typOK, rh.vb⟩, p.ml, LMap.le_refl _, p.os, p.tape, p.output, p.size, fun b hb _ => kept b hb, fun _ h _ => h, fun b c hc => ?_⟩⟩
        rcases p.mgrow b c hc with h4 | h4 | h4
        · exact .inl h4
        · exact (not_owned0 h4).elim
        · exact .inr (.inr h4)
      · have hro : tout.all noRoTy = true := by
          simp only [Bool.or_eq_true, List.isEmpty_iff] at hcond
          exact hcond.resolve_left hids
        refine ⟨_, m, μ, he, res_rel (noRo_vrels hro h1), ⟨⟨fun b cs hb => ?_, blkOK m (Mem.le_refl _) (fun b hb => (ownedM b hb).1), rh.inj, rh.dom, typOK, rh.vb⟩, Mem.le_refl _, LMap.le_refl _, p.os, p.tape, p.output, p.size, fun b hb _ => kept b hb, fun _ h _ => h, fun _ _ h => .inl h⟩⟩
        obtain ⟨E, fz, h2⟩ := rh.mem b cs hb
        exact ⟨E, fz, by rw [kept b (lt h2)]; exact h2⟩
    cases ids with
    | nil => exact ⟨rfl, fun H2 => main H2 (argsD_ids hx (by simp))⟩
    | cons i l => exact ⟨rfl, fun H2 hi => main H2 (argsD_ids hx hi)⟩
  · cases h

theorem gam_nil {P : Program} (f : Nat) : SemOK P f (gam [] f) := by
  intro ρ args H k r h; cases h
theorem gam_cons {P : Program} {i : Nat} {s : CallSem} {l : List (Nat × CallSem)} (h : SemOK P i s) (hl : ∀ f, SemOK P f (gam l f)) (f : Nat) : SemOK P f (gam ((i, s) :: l) f) := by
  unfold gam
  split
  · rename_i e; subst e; exact h
  · exact hl f
end Go.Am
/- Calls with pointers: what a function does to the blocks that its arguments lead to. -/
namespace Go.Am
open Go

/-- Blocks that keep their names through a call (they are pointed to), and the others. -/
def keepOf (H : Heap) (as : List AVal) : List Nat × List Nat :=
  let r := reachA H 400 [] (idsL as)
  let ps := pidsL as ++ pidsH H r
  (filtB ps true r, filtB ps false r)

structure CallT where
  args : List Tm
  H : List Tm
  nf : Nat

@[reducible] def CallT.T (c : CallT) : StT := ⟨c.args, c.H⟩

def renF (f : Nat → Nat) : AVal → AVal
  | .ptr id p => .ptr (f id) p
  | .sl id p off len => .sl (f id) p off len
  | .vsl id => .vsl (f id)
  | .parr id p off n => .parr (f id) p off n
  | .sfp id p T => .sfp (f id) p T
  | .vbs id => .vbs (f id)
  | .pair a b => .pair (renF f a) (renF f b)
  | .fn g c => .fn g (renF f c)
  | .tup a => .tup (renF f a)
  | .undef => .undef
  | .int k n => .int k n
  | .bool b => .bool b
  | .str s => .str s
  | .nilp => .nilp
  | .nils => .nils
  | .ros t xs => .ros t xs
  | .rop t x => .rop t x
  | .arr n t xs => .arr n t xs
  | .vec t xs => .vec t xs
  | .unit => .unit

/-- The callee's block j, in the caller's numbers. -/
def backF (keep : List Nat) (nf n0 : Nat) (j : Nat) : Nat := cond (Nat.blt j nf) (keep.getD j 0) (n0 + (j - nf))

def setAll : List Nat → Heap → Heap → Heap
  | i :: is, a :: as, H => setAll is as (H.set i a)
  | _, _, H => H

def renH (f : Nat → Nat) : Heap → Heap
  | [] => []
  | none :: l => none :: renH f l
  | some a :: l => some (renF f a) :: renH f l

def spineL : List AVal → AVal
  | [] => .unit
  | a :: l => .pair a (spineL l)
def resL : List AVal → AVal
  | [v] => v
  | vs => .tup (spineL vs)

def liveB (H : Heap) : List Nat → Bool
  | [] => true
  | i :: l => (match H[i]? with | some (some _) => true | _ => false) && liveB H l

/-- Arguments: data where data is asked for; slices of one's own may be read meanwhile. -/
def argsC (H : Heap) : List Tm → List AVal → Option (List AVal × List Nat)
  | [], [] => some ([], [])
  | .dat t :: ts, a :: as => (argD H t a).bind fun u => (argsC H ts as).bind fun w => some (toA t u.1 :: w.1, u.2 ++ w.2)
  | _ :: ts, a :: as => (argsC H ts as).bind fun w => some (a :: w.1, w.2)
  | _, _ => none

/-- Is nothing in it read from elsewhere? -/
def noRoA : AVal → Bool
  | .ros _ _ => false
  | .rop _ _ => false
  | .arr _ t _ => noRoTy t
  | .vec t _ => noRoTy t
  | .pair a b => noRoA a && noRoA b
  | .fn _ c => noRoA c
  | .tup _ => false
  | .undef => true
  | .int _ _ => true
  | .bool _ => true
  | .str _ => true
  | .nilp => true
  | .nils => true
  | .ptr _ _ => true
  | .sl _ _ _ _ => true
  | .vsl _ => true
  | .parr _ _ _ _ => true
  | .sfp _ _ _ => true
  | .vbs _ => true
  | .unit => true
def noRoL : List AVal → Bool
  | [] => true
  | a :: l => noRoA a && noRoL l
def noRoH : Heap → Bool
  | [] => true
  | none :: l => noRoH l
  | some a :: l => noRoA a && noRoH l

def noTupL : List AVal → Bool
  | [] => true
  | .tup _ :: _ => false
  | _ :: l => noTupL l

def callH (T : CallT) (os : List Out) (J : T.T.den → Option (outDen os)) : CallSem :=
  ⟨fun as0 H k =>
    match argsC H T.args as0 with
    | none => none
    | some (as, ids) =>
    let H0 := dropAll ids H
    let kp := keepOf H0 as
    let keep := kp.1 ++ kp.2
    cond (Nat.beq kp.1.length T.nf && nodupB0 keep && liveB H0 keep)
      (match T.T.mat ⟨as.map fun a => (renA keep a).getD .undef, keep.map fun i => (H0.getD i none).bind (renA keep)⟩ with
       | some x => (J x).bind fun y => instOuts os y fun _ s =>
          cond (noTupL s.sl && (ids.isEmpty || (noRoL s.sl && noRoH s.H)))
          (k (resL (s.sl.map (renF (backF kp.1 T.nf H.length)))) (dropAll kp.2 (setAll kp.1 (renH (backF kp.1 T.nf H.length) s.H) H) ++ renH (backF kp.1 T.nf H.length) (s.H.drop T.nf)) (.touch H.length keep)) none
       | none => none) none⟩

/-- Does a call fit? -/
def fitsP (tin : List Ty) (as : List AVal) (H : Heap) : Bool := (argsD H tin as).isSome
def fitsH (T : CallT) (as0 : List AVal) (H : Heap) : Bool :=
  match argsC H T.args as0 with
  | none => false
  | some (as, ids) =>
    let H0 := dropAll ids H
    let kp := keepOf H0 as
    let keep := kp.1 ++ kp.2
    Nat.beq kp.1.length T.nf && (T.T.mat ⟨as.map fun a => (renA keep a).getD .undef, keep.map fun i => (H0.getD i none).bind (renA keep)⟩).isSome
/-- The one meaning where it fits, else the other. -/
def orSem (p : List AVal → Heap → Bool) (a b : CallSem) : CallSem := ⟨fun as H k => cond (p as H) (a.f as H k) (b.f as H k)⟩

def resVals (P : Program) (st : St) : List ResultVar → Option (List AVal)
  | [] => some []
  | r :: rs =>
    match resVar P st r with
    | some v => (match resVals P st rs with | some l => some (v :: l) | none => none)
    | none => none

/-- The first of the ends that fits. -/
def goFirst {ρ : Type} : (os : List Out) → St → (outDen os → Option ρ) → Option ρ
  | [], _, _ => none
  | [o], s, K => o.go s K
  | o :: o' :: os, s, K =>
    match (ghosts o.gs s).bind o.T.mat with
    | some x => K (.inl x)
    | none => goFirst (o' :: os) s fun y => K (.inr y)

def finH {ρ : Type} (P : Program) (rs : List ResultVar) (os : List Out) (K : outDen os → Option ρ) (e : Exit) (st : St) : Option ρ :=
  match e with
  | .ret => (match resVals P st rs with | some vs => goFirst os ⟨vs, st.H⟩ K | none => none)
  | .normal => (match resVals P st rs with | some vs => goFirst os ⟨vs, st.H⟩ K | none => none)
  | _ => none

def startH (n : Nat) (T : CallT) (x : T.T.den) : St :=
  ⟨(T.T.inst x).sl ++ List.replicate (n - T.args.length) .undef, (T.T.inst x).H⟩

/-- The body of a function with pointers, told by F. -/
def BodyH (C : Ctx) (fn : Func) (c : Code) (ann : Ann) (T : CallT) (os : List Out) (F : {ρ : Type} → T.T.den → (outDen os → Option ρ) → Option ρ) : Prop :=
  ∀ {ρ : Type} (x : T.T.den) (K : outDen os → Option ρ), evC C c ann (startH fn.ntmps T x) (finH C.P fn.results.toList os K) = F x K
end Go.Am
/- Calls with pointers: sound. -/
namespace Go.Am
open Go

theorem liveB_spec {H : Heap} : ∀ {l : List Nat}, liveB H l = true → ∀ i, i ∈ l → ∃ a, H[i]? = some (some a)
  | [], _, i, hi => by simp at hi
  | j :: l, h, i, hi => by
    simp only [liveB, Bool.and_eq_true] at h
    rcases List.mem_cons.1 hi with rfl | hi
    · have h1 := h.1
      split at h1
      · rename_i a ha; exact ⟨a, ha⟩
      · cases h1
    · exact liveB_spec h.2 i hi

theorem renF_vb (f : Nat → Nat) (a : AVal) : (renF f a).isVb = a.isVb := by cases a <;> rfl
theorem renF_agg (f : Nat → Nat) (a : AVal) : (renF f a).isAgg = a.isAgg := by cases a <;> rfl
theorem renF_sh (f : Nat → Nat) : ∀ a : AVal, (renF f a).sh = a.sh
  | .pair a b => by simp only [renF, AVal.sh, renF_sh f a, renF_sh f b]
  | .undef | .int _ _ | .bool _ | .str _ | .nilp | .nils | .unit | .ros _ _ | .rop _ _ | .arr _ _ _ | .vec _ _ | .ptr _ _ | .sl _ _ _ _ | .vsl _ | .parr _ _ _ _ | .sfp _ _ _ | .vbs _ | .fn _ _ | .tup _ => rfl

theorem renF_rel {f : Nat → Nat} {m : Mem} {μ μ' : LMap} (hf : ∀ j l, μ j = some l → μ' (f j) = some l) : ∀ {a : AVal} {cs : List Value}, CRel m μ a cs → CRel m μ' (renF f a) cs
  | .pair a b, cs, h => by
    simp only [CRel, renF] at h ⊢
    have hs : (renF f a).size = a.size := by unfold AVal.size; rw [renF_sh]
    rw [hs]
    exact ⟨renF_rel hf h.1, renF_rel hf h.2⟩
  | .undef, _, h | .tup _, _, h => by simp only [CRel] at h
  | .int _ _, cs, h | .bool _, cs, h | .str _, cs, h | .nilp, cs, h | .nils, cs, h | .unit, cs, h | .ros _ _, cs, h | .rop _ _, cs, h | .arr _ _ _, cs, h | .vec _ _, cs, h => by
    simp only [renF, CRel] at h ⊢; exact h
  | .ptr id p, cs, h => by
    simp only [renF, CRel] at h ⊢
    obtain ⟨l, o, s, h1, h2⟩ := h
    exact ⟨l, o, s, hf _ _ h1, h2⟩
  | .sl id p off len, cs, h => by
    simp only [renF, CRel] at h ⊢
    obtain ⟨l, o, n, t, a, cap, h1, h2⟩ := h
    exact ⟨l, o, n, t, a, cap, hf _ _ h1, h2⟩
  | .vsl id, cs, h => by
    simp only [renF, CRel] at h ⊢
    obtain ⟨l, n, t, a, cap, h1, h2⟩ := h
    exact ⟨l, n, t, a, cap, hf _ _ h1, h2⟩
  | .parr id p off n, cs, h => by
    simp only [renF, CRel] at h ⊢
    obtain ⟨l, o, N, t, h1, h2⟩ := h
    exact ⟨l, o, N, t, hf _ _ h1, h2⟩
  | .vbs id, cs, h => by
    simp only [renF, CRel] at h ⊢
    obtain ⟨l, n, a, cap, h1, h2⟩ := h
    exact ⟨l, n, a, cap, hf _ _ h1, h2⟩
  | .sfp id p T, cs, h => by
    simp only [renF, CRel] at h ⊢
    obtain ⟨l, o, s, h1, h2⟩ := h
    exact ⟨l, o, s, hf _ _ h1, h2⟩
  | .fn g c, cs, h => by
    simp only [renF, CRel] at h ⊢
    obtain ⟨cap, h1, h2⟩ := h
    exact ⟨cap, h1, renF_rel hf h2⟩

theorem noRo_crel {m m' : Mem} {μ : LMap} : ∀ {a : AVal} {cs : List Value}, noRoA a = true → CRel m μ a cs → CRel m' μ a cs
  | .pair a b, cs, hn, h => by
    simp only [noRoA, Bool.and_eq_true] at hn
    simp only [CRel] at h ⊢
    exact ⟨noRo_crel hn.1 h.1, noRo_crel hn.2 h.2⟩
  | .ros _ _, _, hn, _ | .rop _ _, _, hn, _ => by cases hn
  | .undef, _, _, h | .tup _, _, _, h => by simp only [CRel] at h
  | .int _ _, cs, _, h | .bool _, cs, _, h | .str _, cs, _, h | .nilp, cs, _, h | .nils, cs, _, h | .unit, cs, _, h | .ptr _ _, cs, _, h | .sl _ _ _ _, cs, _, h | .vsl _, cs, _, h | .parr _ _ _ _, cs, _, h | .sfp _ _ _, cs, _, h | .vbs _, cs, _, h => by
    simp only [CRel] at h ⊢; exact h
  | .arr n t xs, cs, hn, h => by
    simp only [CRel] at h ⊢
    exact noRo_rel (t := .arr n t) hn h
  | .vec t xs, cs, hn, h => by
    simp only [CRel] at h ⊢
    exact noRo_rel (t := .arr xs.length t) hn h
  | .fn g c, cs, hn, h => by
    simp only [CRel] at h ⊢
    obtain ⟨cap, h1, h2⟩ := h
    exact ⟨cap, h1, noRo_crel (a := c) hn h2⟩

/-- From cells to slots: what carries the one carries the other. -/
theorem vrel0_map {m m' : Mem} {μ μ' : LMap} {a a' : AVal} {v : Value} (h0 : a' = .undef ↔ a = .undef) (h1 : (∃ s, a' = .tup s) ↔ ∃ s, a = .tup s) (h2 : a'.isAgg = a.isAgg) (h3 : ∀ cs, CRel m μ a cs → CRel m' μ' a' cs) (hv : VRel0 m μ a v) : VRel0 m' μ' a' v := by
  by_cases e0 : a = .undef
  · rw [h0.2 e0]; trivial
  by_cases e1 : ∃ s, a = .tup s
  · obtain ⟨s, rfl⟩ := e1; exact hv.elim
  rw [VRel0_iff e0 fun s e => e1 ⟨s, e⟩] at hv
  rw [VRel0_iff (fun e => e0 (h0.1 e)) fun s e => e1 (h1.1 ⟨s, e⟩), h2]
  split
  · rename_i ha
    rw [if_pos ha] at hv
    obtain ⟨cs, h4, h5⟩ := hv
    exact ⟨cs, h4, h3 _ h5⟩
  · rename_i ha
    rw [if_neg ha] at hv
    exact h3 _ hv

theorem renF_undef {f : Nat → Nat} (a : AVal) : (renF f a = .undef ↔ a = .undef) ∧ ((∃ s, renF f a = .tup s) ↔ ∃ s, a = .tup s) := by
  cases a <;> simp [renF]

theorem renF_vrel0 {f : Nat → Nat} {m : Mem} {μ μ' : LMap} (hf : ∀ j l, μ j = some l → μ' (f j) = some l) {a : AVal} {v : Value} (hv : VRel0 m μ a v) : VRel0 m μ' (renF f a) v :=
  vrel0_map (renF_undef a).1 (renF_undef a).2 (renF_agg f a) (fun _ h => renF_rel hf h) hv

theorem renF_trel {f : Nat → Nat} {m : Mem} {μ μ' : LMap} (hf : ∀ j l, μ j = some l → μ' (f j) = some l) : ∀ {a : AVal} {vs : List Value}, TRel m μ a vs → TRel m μ' (renF f a) vs
  | .unit, vs, h => h
  | .pair a b, vs, h => by
    obtain ⟨v, r, h1, h2, h3⟩ := h
    exact ⟨v, r, h1, renF_vrel0 hf h2, renF_trel hf h3⟩
  | .undef, _, hv | .int _ _, _, hv | .bool _, _, hv | .str _, _, hv | .nilp, _, hv | .nils, _, hv | .ros _ _, _, hv | .rop _ _, _, hv | .arr _ _ _, _, hv | .vec _ _, _, hv
  | .ptr _ _, _, hv | .sl _ _ _ _, _, hv | .vsl _, _, hv | .parr _ _ _ _, _, hv | .sfp _ _ _, _, hv | .vbs _, _, hv | .fn _ _, _, hv | .tup _, _, hv => hv.elim

theorem VRel_eq0 {m : Mem} {μ : LMap} {a : AVal} {v : Value} (h : ∀ s, a ≠ .tup s) : VRel m μ a v = VRel0 m μ a v := by
  cases a <;> first | rfl | exact absurd rfl (h _)

theorem renF_vrel {f : Nat → Nat} {m : Mem} {μ μ' : LMap} (hf : ∀ j l, μ j = some l → μ' (f j) = some l) {a : AVal} {v : Value} (hv : VRel m μ a v) : VRel m μ' (renF f a) v := by
  by_cases h1 : ∃ s, a = .tup s
  · obtain ⟨s, rfl⟩ := h1
    obtain ⟨vs, h2, h3⟩ := hv
    exact ⟨vs, h2, renF_trel hf h3⟩
  · rw [VRel_eq0 fun s e => h1 ⟨s, e⟩] at hv
    rw [VRel_eq0 fun s e => h1 ((renF_undef a).2.1 ⟨s, e⟩)]
    exact renF_vrel0 hf hv

theorem noRo_vrel {m m' : Mem} {μ : LMap} {a : AVal} {v : Value} (hn : noRoA a = true) (hv : VRel m μ a v) : VRel m' μ a v := by
  have ht : ∀ s, a ≠ .tup s := fun s e => by subst e; cases hn
  rw [VRel_eq0 ht] at hv ⊢
  exact vrel0_map Iff.rfl Iff.rfl rfl (fun _ h => noRo_crel hn h) hv

/-! heaps put back -/
theorem renH_get {f : Nat → Nat} : ∀ {H : Heap} {i : Nat}, (renH f H)[i]? = (H[i]?).map fun o => o.map (renF f)
  | [], i => by simp [renH]
  | none :: l, 0 => rfl
  | some a :: l, 0 => rfl
  | none :: l, i + 1 => by simp only [renH, List.getElem?_cons_succ]; exact renH_get
  | some a :: l, i + 1 => by simp only [renH, List.getElem?_cons_succ]; exact renH_get

theorem renH_length {f : Nat → Nat} : ∀ {H : Heap}, (renH f H).length = H.length
  | [] => rfl
  | none :: l => by simp [renH, renH_length (H := l)]
  | some a :: l => by simp [renH, renH_length (H := l)]

theorem setAll_length : ∀ {is : List Nat} {as H : Heap}, (setAll is as H).length = H.length
  | [], _, _ => rfl
  | i :: is, [], H => rfl
  | i :: is, a :: as, H => by rw [setAll, setAll_length, List.length_set]

theorem setAll_look : ∀ {is : List Nat} {as H : Heap} {x : Nat} {v : AVal}, is.length ≤ as.length → (setAll is as H)[x]? = some (some v) →
    (x ∉ is ∧ H[x]? = some (some v)) ∨ ∃ j : Nat, is[j]? = some x ∧ as[j]? = some (some v)
  | [], as, H, x, v, _, h => .inl ⟨by simp, h⟩
  | i :: is, [], H, x, v, hl, h => by simp at hl
  | i :: is, a :: as, H, x, v, hl, h => by
    simp only [setAll] at h
    rcases setAll_look (by simpa using hl) h with ⟨h1, h2⟩ | ⟨j, h1, h2⟩
    · by_cases hx : i = x
      · subst hx
        have hlt : i < (H.set i a).length := (List.getElem?_eq_some_iff.1 h2).1
        rw [List.getElem?_set_self (by simpa using hlt)] at h2
        exact .inr ⟨0, rfl, by simpa using h2⟩
      · rw [List.getElem?_set_ne hx] at h2
        exact .inl ⟨by simp [h1, Ne.symm hx], h2⟩
    · exact .inr ⟨j + 1, by simpa using h1, by simpa using h2⟩

theorem setAll_other : ∀ {is : List Nat} {as H : Heap} {x : Nat}, x ∉ is → (setAll is as H)[x]? = H[x]?
  | [], _, _, _, _ => rfl
  | i :: is, [], _, _, _ => rfl
  | i :: is, a :: as, H, x, h => by
    simp only [List.mem_cons, not_or] at h
    rw [setAll, setAll_other h.2, List.getElem?_set_ne (Ne.symm h.1)]

theorem dropAll_other : ∀ {is : List Nat} {H : Heap} {x : Nat}, x ∉ is → (dropAll is H)[x]? = H[x]?
  | [], _, _, _ => rfl
  | i :: is, H, x, h => by
    simp only [List.mem_cons, not_or] at h
    rw [dropAll, dropAll_other h.2, List.getElem?_set_ne (Ne.symm h.1)]

/-- What lies in the heap behind a call. -/
theorem back_look {fx ls : List Nat} {nf : Nat} {H Hc : Heap} {i : Nat} {a : AVal} (hnf : fx.length = nf) (hle : nf ≤ Hc.length)
    (h : (dropAll ls (setAll fx (renH (backF fx nf H.length) Hc) H) ++ renH (backF fx nf H.length) (Hc.drop nf))[i]? = some (some a)) :
    (i ∉ fx ++ ls ∧ H[i]? = some (some a)) ∨ ∃ j b, Hc[j]? = some (some b) ∧ a = renF (backF fx nf H.length) b ∧ i = backF fx nf H.length j := by
  have hlen : (dropAll ls (setAll fx (renH (backF fx nf H.length) Hc) H)).length = H.length := by rw [dropAll_length, setAll_length]
  rcases Nat.lt_or_ge i H.length with hi | hi
  · rw [List.getElem?_append_left (by omega)] at h
    obtain ⟨h1, h2⟩ := dropAll_look h
    rcases setAll_look (by rw [renH_length]; omega) h2 with ⟨h3, h4⟩ | ⟨j, h3, h4⟩
    · exact .inl ⟨by simp [h1, h3], h4⟩
    · rw [renH_get] at h4
      cases hj : Hc[j]? with
      | none => rw [hj] at h4; cases h4
      | some o =>
        rw [hj] at h4
        cases o with
        | none => cases h4
        | some b =>
          simp only [Option.map_some, Option.some.injEq] at h4
          have hjn : j < nf := by rw [← hnf]; exact (List.getElem?_eq_some_iff.1 h3).1
          refine .inr ⟨j, b, hj, h4.symm, ?_⟩
          have : Nat.blt j nf = true := by simpa [Nat.blt_eq] using hjn
          simp only [backF, this, cond_true, List.getD_eq_getElem?_getD, h3, Option.getD_some]
  · rw [List.getElem?_append_right (by omega), hlen, renH_get, List.getElem?_drop] at h
    cases hj : Hc[nf + (i - H.length)]? with
    | none => rw [hj] at h; cases h
    | some o =>
      rw [hj] at h
      cases o with
      | none => cases h
      | some b =>
        simp only [Option.map_some, Option.some.injEq] at h
        refine .inr ⟨_, b, hj, h.symm, ?_⟩
        have : Nat.blt (nf + (i - H.length)) nf = false := by
          cases hb : Nat.blt (nf + (i - H.length)) nf with
          | false => rfl
          | true => rw [Nat.blt_eq] at hb; omega
        simp only [backF, this, cond_false]
        omega

/-! the body -/
theorem vrels_of {m : Mem} {μ : LMap} : ∀ {as : List AVal} {us : List Value}, us.length = as.length → (∀ (i : Nat) (x : AVal), as[i]? = some x → ∃ v, us[i]? = some v ∧ VRel m μ x v) → VRels m μ as us
  | [], [], _, _ => trivial
  | [], _ :: _, h, _ => by simp at h
  | _ :: _, [], h, _ => by simp at h
  | a :: as, u :: us, hl, h => by
    obtain ⟨v, h1, h2⟩ := h 0 a rfl
    simp only [List.getElem?_cons_zero, Option.some.injEq] at h1
    subst h1
    exact ⟨h2, vrels_of (by simpa using hl) fun i x hx => by simpa using h (i + 1) x (by simpa using hx)⟩

theorem rs_of_vrels {m : Mem} {μ : LMap} {as : List AVal} {vs : List Value} (h : VRels m μ as vs) : RS m μ as { tmps := vs.toArray, defers := [] } := by
  refine ⟨by simp [h.length], rfl, fun i x hx => ?_⟩
  obtain ⟨v, h1, h2⟩ := h.get hx
  exact ⟨v, by simpa using h1, h2⟩

theorem vrels_of_rs {m : Mem} {μ : LMap} {as : List AVal} {vs : List Value} (h : RS m μ as { tmps := vs.toArray, defers := [] }) : VRels m μ as vs :=
  vrels_of (by simpa using h.size) fun i x hx => by
    obtain ⟨v, h1, h2⟩ := h.rel i x hx
    exact ⟨v, by simpa using h1, h2⟩

theorem start_rsH {m : Mem} {μ : LMap} {as : List AVal} {vs : List Value} (n : Nat) (h : VRels m μ as vs) : RS m μ (as ++ List.replicate (n - as.length) .undef) { tmps := vs.toArray ++ Array.replicate (n - vs.toArray.size) undef, defers := [] } := by
  have hl := h.length
  refine ⟨by simp [hl], rfl, fun i x hx => ?_⟩
  rcases Nat.lt_or_ge i as.length with h1 | h1
  · rw [List.getElem?_append_left h1] at hx
    obtain ⟨v, h2, h3⟩ := h.get hx
    exact ⟨v, by rw [Array.getElem?_append_left (by simp; omega)]; simpa using h2, h3⟩
  · rw [List.getElem?_append_right h1, List.getElem?_replicate] at hx
    split at hx
    · rename_i h2
      cases hx
      refine ⟨undef, ?_, vrel_any _⟩
      rw [Array.getElem?_append_right (by simp; omega)]
      rw [Array.getElem?_replicate, if_pos (by simp; omega)]
    · cases hx

theorem instL_length : ∀ (ts : List Tm) (x : tdens ts), (instL ts x).length = ts.length
  | [], _ => rfl
  | .undef :: ts, x => by simp [instL, instL_length ts x]
  | .dat t :: ts, x => by simp [instL, instL_length ts x.2]
  | .vec t :: ts, x => by simp [instL, instL_length ts x.2]
  | .vsl i :: ts, x => by simp [instL, instL_length ts x]
  | .slr i p :: ts, x => by simp [instL, instL_length ts x.2]
  | .ptr i p :: ts, x => by simp [instL, instL_length ts x]
  | .nilp :: ts, x => by simp [instL, instL_length ts x]
  | .sfp _ _ _ :: ts, x => by simp [instL, instL_length ts x]
  | .vbs _ :: ts, x => by simp [instL, instL_length ts x]
  | .nils :: ts, x => by simp [instL, instL_length ts x]
  | .unit :: ts, x => by simp [instL, instL_length ts x]
  | .pair a b :: ts, x => by simp [instL, instL_length ts x.2]
  | .fn f c :: ts, x => by simp [instL, instL_length ts x.2]
  | .tup c :: ts, x => by simp [instL, instL_length ts x.2]

theorem inst_sl_length (T : StT) (x : T.den) : (T.inst x).sl.length = T.sl.length := by
  simp [StT.inst, instL_length]
theorem inst_H_length (T : StT) (x : T.den) : (T.inst x).H.length = T.H.length := by
  simp [StT.inst, instL_length, optH_length]

theorem instOuts_specH {nf : Nat} : ∀ {os : List Out}, os.all (fun o => Nat.ble nf o.T.H.length) = true → ∀ (y : outDen os), ∃ e s, (∀ {ρ : Type} (K : Exit → St → Option ρ), instOuts os y K = K e s) ∧ nf ≤ s.H.length
  | [], _, y => nomatch y
  | [o], h, y => ⟨o.e, o.T.inst y, fun _ => rfl, by
    simp only [List.all_cons, List.all_nil, Bool.and_true] at h
    rw [inst_H_length]; exact Nat.le_of_ble_eq_true h⟩
  | o :: o' :: os, h, .inl a => ⟨o.e, o.T.inst a, fun _ => rfl, by
    rw [List.all_cons, Bool.and_eq_true] at h
    rw [inst_H_length]; exact Nat.le_of_ble_eq_true h.1⟩
  | o :: o' :: os, h, .inr b => by
    rw [List.all_cons, Bool.and_eq_true] at h
    obtain ⟨e, s, h1, h2⟩ := instOuts_specH h.2 b
    exact ⟨e, s, fun K => h1 K, h2⟩

theorem resVals_ok {P : Program} {m : Mem} {μ : LMap} {st : St} {w : World} {a : Act} (rh : RH m μ st.H w) (rs : RS m μ st.sl a) : ∀ {l : List ResultVar} {vs : List AVal}, resVals P st l = some vs →
    ∃ us, (l.mapM (fun r => match r with | .tmp t => pure (a.tmps.getD t undef) | .cell b t => do loadVar t (← asAddr (a.tmps.getD b undef)) : ResultVar → Sem Value)).run P w = .ok us w ∧ VRels m μ vs us
  | [], vs, h => by
    simp only [resVals, Option.some.injEq] at h
    subst h
    exact ⟨[], by simp only [List.mapM_nil]; rfl, trivial⟩
  | q :: l, vs, h => by
    simp only [resVals] at h
    split at h
    · rename_i v hv
      split at h
      · rename_i l' hl
        cases h
        obtain ⟨us, h1, h2⟩ := resVals_ok rh rs hl
        obtain ⟨u, h4, h5⟩ := run_resVar rh rs hv
        refine ⟨u :: us, ?_, h5, h2⟩
        haveI := semLawful
        cases q with
        | tmp t =>
          dsimp only at h4
          simp only [List.mapM_cons, run_bind]
          rw [h4]
          simp only [h1, run_pure]
        | cell b t =>
          dsimp only at h4
          simp only [List.mapM_cons, run_bind] at h4 ⊢
          rw [h4]
          simp only [h1, run_pure]
      · cases h
    · cases h

theorem goFirst_ok {ρ : Type} {np : Nat} : ∀ {os : List Out} {s : St} {K : outDen os → Option ρ} {r : ρ}, os.all (Out.ok np) = true → goFirst os s K = some r →
    ∃ y e s', K y = some r ∧ GhostOK np s s' ∧ ∀ {ρ' : Type} (K' : Exit → St → Option ρ'), instOuts os y K' = K' e s'
  | [], _, _, _, _, h => by simp [goFirst] at h
  | [o], s, K, r, ho, h => by
    simp only [List.all_cons, List.all_nil, Bool.and_true] at ho
    simp only [goFirst] at h
    obtain ⟨x, h1, h2⟩ := go_ok ho h
    exact ⟨x, o.e, _, h1, h2, fun K' => rfl⟩
  | o :: o' :: os, s, K, r, ho, h => by
    rw [List.all_cons, Bool.and_eq_true] at ho
    simp only [goFirst] at h
    split at h
    · rename_i x hx
      have h1 : o.go s (fun z => if True then some z else none) = some x := by
        unfold Out.go
        cases hg : ghosts o.gs s with
        | none => rw [hg] at hx; cases hx
        | some s1 =>
          rw [hg] at hx
          simp only [Option.bind_some] at hx
          simp [hx]
      obtain ⟨x', h2, h3⟩ := go_ok ho.1 h1
      simp only [if_true, Option.some.injEq] at h2
      subst h2
      exact ⟨.inl x', o.e, _, h, h3, fun K' => rfl⟩
    · obtain ⟨y, e, s', h1, h2, h3⟩ := goFirst_ok ho.2 h
      exact ⟨.inr y, e, s', h1, h2, fun K' => h3 K'⟩

theorem trel_spineL {m : Mem} {μ : LMap} : ∀ {as : List AVal} {us : List Value}, (∀ a ∈ as, ∀ s, a ≠ .tup s) → VRels m μ as us → TRel m μ (spineL as) us
  | [], [], _, _ => rfl
  | [], _ :: _, _, h => h.elim
  | _ :: _, [], _, h => h.elim
  | a :: as, u :: us, hn, h => ⟨u, us, rfl, by rw [← VRel_eq0 (hn a (by simp))]; exact h.1, trel_spineL (fun b hb => hn b (by simp [hb])) h.2⟩

theorem resL_rel {m : Mem} {μ : LMap} {as : List AVal} {us : List Value} (hn : ∀ a ∈ as, ∀ s, a ≠ .tup s) (h : VRels m μ as us) : VRel m μ (resL as) (if us.length = 1 then us.headD undef else .tuple us.toArray) := by
  have hl := h.length
  match as, us, h, hl with
  | [], us, h, hl =>
    rw [if_neg (by simp at hl; simp [hl])]
    exact ⟨us.toArray, rfl, by simpa using trel_spineL hn h⟩
  | [a], [u], h, hl => exact h.1
  | [a], [], h, hl => cases hl
  | [a], _ :: _ :: _, h, hl => simp at hl
  | a :: b :: as, us, h, hl =>
    rw [if_neg (by simp at hl; omega)]
    exact ⟨us.toArray, rfl, by simpa using trel_spineL hn h⟩

theorem bodyH_calls {C : Ctx} (hΓ : ∀ f, SemOK C.P f (C.Γ f)) (hmix : C.P.follows .mixedOrders = true) {f : Nat} {fn : Func} {c : Code} {ann : Ann} {T : CallT} {os : List Out} {F : {ρ : Type} → T.T.den → (outDen os → Option ρ) → Option ρ}
    (hf : C.P.funcs[f]? = some fn) (hb : fn.body = some c) (hA : AnnOK T.nf C.P c ann) (hB : BodyH C fn c ann T os F) (ho : os.all (Out.ok T.nf) = true) {x : T.T.den} {y : outDen os} (hF : F x some = some y) {e0 : Exit} {s : St}
    (hs : ∀ {ρ : Type} (K : Exit → St → Option ρ), instOuts os y K = K e0 s) {m : Mem} {μ : LMap} {w : World} {vs : List Value} (rh : RH m μ (T.T.inst x).H w) (hv : VRels m μ (T.T.inst x).sl vs) :
    Calls C.P f vs.toArray w (fun e w' => ∃ us m' μ', e = .returned (if us.length = 1 then us.headD undef else .tuple us.toArray) ∧ VRels m' μ' s.sl us ∧ PostW T.nf m μ (T.T.inst x).H w m' μ' s.H w') := by
  refine calls_of_wp hf hb ?_
  have h1 : evC C c ann (startH fn.ntmps T x) (finH C.P fn.results.toList os some) = some y := (hB x some).trans hF
  obtain ⟨e, st', h2, h3⟩ := evC_sound hΓ hmix c ann _ _ _ hA h1
  have hstart := start_rsH fn.ntmps hv
  rw [inst_sl_length] at hstart
  refine h3 m μ w _ _ rh hstart fun a' w' m' μ' rs' p => ?_
  have done : (match resVals C.P st' fn.results.toList with | some vs => goFirst os ⟨vs, st'.H⟩ some | none => none) = some y →
      a'.defers = [] ∧ ∃ v, (results fn a'.tmps).run C.P w' = .ok v w' ∧ ∃ us m' μ', Ending.returned v = .returned (if us.length = 1 then us.headD undef else .tuple us.toArray) ∧ VRels m' μ' s.sl us ∧ PostW T.nf m μ (T.T.inst x).H w m' μ' s.H w' := by
    intro h
    split at h
    · rename_i rv hrv
      obtain ⟨us, h4, h5⟩ := resVals_ok p.rh rs' hrv
      obtain ⟨y', e', s', h6, h7, h8⟩ := goFirst_ok ho h
      cases h6
      have h9 := (h8 (ρ' := Exit × St) fun e s => some (e, s)).symm.trans (hs fun e s => some (e, s))
      cases h9
      obtain ⟨m5, μ5, rs5, p5⟩ := h7 m' μ' w' { tmps := us.toArray, defers := [] } p.rh (rs_of_vrels h5)
      exact ⟨rs'.defers, _, run_results h4, us, m5, μ5, rfl, vrels_of_rs rs5, p.trans p5⟩
    · cases h
  cases e with
  | normal => exact done h2
  | ret => exact done h2
  | _ => cases h2
end Go.Am
/- Calls with pointers: the caller's side. -/
namespace Go.Am
open Go

theorem noTupL_spec : ∀ {l : List AVal}, noTupL l = true → ∀ a ∈ l, ∀ s, a ≠ .tup s
  | [], _, a, ha, _ => by simp at ha
  | b :: l, h, a, ha, s => by
    rcases List.mem_cons.1 ha with rfl | ha
    · intro e; subst e; simp [noTupL] at h
    · have : noTupL l = true := by cases b <;> first | exact h | (simp [noTupL] at h)
      exact noTupL_spec this a ha s

theorem noRoL_spec : ∀ {l : List AVal}, noRoL l = true → ∀ a ∈ l, noRoA a = true
  | [], _, a, ha => by simp at ha
  | b :: l, h, a, ha => by
    simp only [noRoL, Bool.and_eq_true] at h
    rcases List.mem_cons.1 ha with rfl | ha
    · exact h.1
    · exact noRoL_spec h.2 a ha

theorem noRoH_spec : ∀ {l : Heap}, noRoH l = true → ∀ (i : Nat) (a : AVal), l[i]? = some (some a) → noRoA a = true
  | [], _, i, a, ha => by simp at ha
  | none :: l, h, 0, a, ha => by simp at ha
  | none :: l, h, i + 1, a, ha => noRoH_spec (l := l) h i a (by simpa using ha)
  | some b :: l, h, 0, a, ha => by
    simp only [List.getElem?_cons_zero, Option.some.injEq] at ha
    subst ha
    simp only [noRoH, Bool.and_eq_true] at h
    exact h.1
  | some b :: l, h, i + 1, a, ha => by
    simp only [noRoH, Bool.and_eq_true] at h
    exact noRoH_spec h.2 i a (by simpa using ha)

theorem vrels_map {m m' : Mem} {μ μ' : LMap} {f : AVal → AVal} : ∀ {as : List AVal} {us : List Value}, (∀ a ∈ as, ∀ v, VRel m μ a v → VRel m' μ' (f a) v) → VRels m μ as us → VRels m' μ' (as.map f) us
  | [], [], _, _ => trivial
  | [], _ :: _, _, h => h.elim
  | _ :: _, [], _, h => h.elim
  | a :: as, u :: us, hf, h => ⟨hf a (by simp) u h.1, vrels_map (fun b hb => hf b (by simp [hb])) h.2⟩

theorem argsC_rel {m : Mem} {μ : LMap} {H : Heap} {w : World} {ids : List Nat} (rh : RH m μ H w) : ∀ {ts : List Tm} {as as' : List AVal} {ids' : List Nat} {vs : List Value}, argsC H ts as = some (as', ids') → (∀ i, i ∈ ids' → i ∈ ids) → VRels m μ as vs →
    VRels (frzM m μ H w ids) μ as' vs
  | [], [], _, _, [], h, _, _ => by simp only [argsC, Option.some.injEq, Prod.mk.injEq] at h; obtain ⟨rfl, rfl⟩ := h; trivial
  | [], [], _, _, _ :: _, _, _, hv => hv.elim
  | [], _ :: _, _, _, _, h, _, _ => by simp [argsC] at h
  | t :: ts, [], _, _, _, h, _, _ => by cases t <;> simp [argsC] at h
  | t :: ts, a :: as, _, _, [], _, _, hv => hv.elim
  | t :: ts, a :: as, as', ids', v :: vs, h, hi, hv => by
    have other : ((argsC H ts as).bind fun w => some (a :: w.1, w.2)) = some (as', ids') → VRels (frzM m μ H w ids) μ as' (v :: vs) := by
      intro h
      simp only [Option.bind_eq_some_iff, Option.some.injEq, Prod.mk.injEq] at h
      obtain ⟨q, h1, rfl, rfl⟩ := h
      exact ⟨hv.1.mono (frz_le rh) (LMap.le_refl _), argsC_rel rh h1 hi hv.2⟩
    cases t with
    | dat t =>
      simp only [argsC, Option.bind_eq_some_iff, Option.some.injEq, Prod.mk.injEq] at h
      obtain ⟨u, h1, q, h2, rfl, rfl⟩ := h
      obtain ⟨h3, h4, h5, h6⟩ := argD_rel rh h1 (fun i hi' => hi i (by simp [hi']))
      exact ⟨vrel_of h4 h5 h6 hv.1, argsC_rel rh h2 (fun i hi' => hi i (by simp [hi'])) hv.2⟩
    | _ => exact other h

theorem PostW.weaken {np np' : Nat} (hle : np ≤ np') {m m' : Mem} {μ μ' : LMap} {H H' : Heap} {w w' : World} (h : PostW np' m μ H w m' μ' H' w') : PostW np m μ H w m' μ' H' w' :=
  ⟨h.rh, h.ml, fun i l hi => h.fix i l (by omega), h.os, h.tape, h.output, h.size, h.keep, h.grow, h.mgrow⟩

theorem owned_mem {m : Mem} {μ : LMap} {H : Heap} {w : World} (rh : RH m μ H w) {b : Nat} (h : Owned μ H b) : m b = none ∧ b < w.heap.size := by
  obtain ⟨i, a, l, hi, hl, hz, rfl⟩ := h
  obtain ⟨l', hbk⟩ := rh.blk i a hi
  have : l' = l := Option.some.inj (hbk.loc.symm.trans hl)
  subst this
  rcases hbk.cells with ⟨p1, _⟩ | ⟨_, gm, cs, E, fz, g1, _⟩
  · omega
  · exact ⟨gm, heap_lt g1⟩

/-- What the callee owned at its start belongs to a block that was handed on. -/
theorem owned_kept {μ : LMap} {H : Heap} {ids keep : List Nat} {b : Nat} (h : Owned (renM keep μ) (keep.map fun i => ((dropAll ids H).getD i none).bind (renA keep)) b) :
    ∃ i a l, i ∈ keep ∧ H[i]? = some (some a) ∧ μ i = some l ∧ 0 < l.tot ∧ l.b = b := by
  obtain ⟨j, x, l, hj, hl, hz, he⟩ := h
  rw [List.getElem?_map, Option.map_eq_some_iff] at hj
  obtain ⟨i, h1, h2⟩ := hj
  rw [Option.bind_eq_some_iff] at h2
  obtain ⟨y, h3, _⟩ := h2
  have h4 : (dropAll ids H)[i]? = some (some y) := by
    rw [List.getD_eq_getElem?_getD] at h3
    cases hh : (dropAll ids H)[i]? with
    | none => rw [hh] at h3; cases h3
    | some z => rw [hh] at h3; simp only [Option.getD_some] at h3; rw [h3]
  simp only [renM, h1, Option.bind_some] at hl
  exact ⟨i, y, l, List.mem_of_getElem? h1, (dropAll_look h4).2, hl, hz, he⟩

def backM (μ μ5 : LMap) (n nf : Nat) : LMap := fun i => if i < n then μ i else μ5 (i - n + nf)

section
variable {m m5 mm : Mem} {μ μ5 : LMap} {H Hc : Heap} {w w' : World} {fx ls ids : List Nat} {nf : Nat} {B0 : Heap} {m1 : Mem}

theorem back_map (rh : RH m μ H w) (hnf : fx.length = nf) (hlive : liveB (dropAll ids H) (fx ++ ls) = true) (P : PostW nf m1 (renM (fx ++ ls) μ) B0 w m5 μ5 Hc w') :
    ∀ j l, μ5 j = some l → backM μ μ5 H.length nf (backF fx nf H.length j) = some l := by
  intro j l hj
  unfold backM backF
  by_cases hjn : j < nf
  · have hb : Nat.blt j nf = true := by simpa [Nat.blt_eq] using hjn
    obtain ⟨i, hi⟩ : ∃ i, fx[j]? = some i := ⟨fx[j]'(by omega), by simp [show j < fx.length by omega]⟩
    obtain ⟨a, ha⟩ := liveB_spec hlive i (by simp [List.mem_of_getElem? hi])
    have ha' := (dropAll_look ha).2
    obtain ⟨l0, hbk⟩ := rh.blk i a ha'
    have h1 : renM (fx ++ ls) μ j = some l0 := by
      simp only [renM]
      rw [List.getElem?_append_left (by omega), hi]
      exact hbk.loc
    have h2 := P.fix j l0 hjn h1
    rw [hj] at h2
    cases h2
    have hil : i < H.length := (List.getElem?_eq_some_iff.1 ha').1
    simp only [hb, cond_true, List.getD_eq_getElem?_getD, hi, Option.getD_some, if_pos hil]
    exact hbk.loc
  · have hb : Nat.blt j nf = false := by
      cases hb : Nat.blt j nf with
      | false => rfl
      | true => rw [Nat.blt_eq] at hb; omega
    simp only [hb, cond_false]
    rw [if_neg (by omega), show H.length + (j - nf) - H.length + nf = j by omega]
    exact hj

theorem back_post (rh : RH m μ H w) (hnf : fx.length = nf) (hsn : nf ≤ Hc.length) (hlive : liveB (dropAll ids H) (fx ++ ls) = true)
    (P : PostW nf m1 (renM (fx ++ ls) μ) ((fx ++ ls).map fun i => ((dropAll ids H).getD i none).bind (renA (fx ++ ls))) w m5 μ5 Hc w')
    (hm1 : m.le mm) (hm2 : ∀ b cs, mm b = some cs → ∃ E fz, w'.heap[b]? = some (.cells cs E fz)) (hm4 : ∀ (j : Nat) a, Hc[j]? = some (some a) → ∀ cs, CRel m5 μ5 a cs → CRel mm μ5 a cs)
    (hm5 : ∀ b c, mm b = some c → m b = some c ∨ Owned (renM (fx ++ ls) μ) ((fx ++ ls).map fun i => ((dropAll ids H).getD i none).bind (renA (fx ++ ls))) b ∨ w.heap.size ≤ b) (hm6 : ∀ b, m5 b = none → mm b = none) :
    Post m μ H w mm (backM μ μ5 H.length nf) (dropAll ls (setAll fx (renH (backF fx nf H.length) Hc) H) ++ renH (backF fx nf H.length) (Hc.drop nf)) w' := by
  have hg := back_map rh hnf hlive P
  have hμ : μ.le (backM μ μ5 H.length nf) := by
    intro i l hi
    unfold backM
    rw [if_pos]
    · exact hi
    · rcases Nat.lt_or_ge i H.length with h | h
      · exact h
      · rw [rh.dom i h] at hi; cases hi
  -- blocks that were not handed on
  have apart : ∀ i a l, i ∉ fx ++ ls → H[i]? = some (some a) → μ i = some l → 0 < l.tot → ¬ Owned (renM (fx ++ ls) μ) ((fx ++ ls).map fun i => ((dropAll ids H).getD i none).bind (renA (fx ++ ls))) l.b := by
    intro i a l hi ha hl hz ho
    obtain ⟨i', a', l', h1, h2, h3, h4, h5⟩ := owned_kept ho
    have := rh.inj i i' a a' l l' ha h2 hl h3 hz h4 h5.symm
    subst this
    exact hi h1
  have look := fun {i : Nat} {a : AVal} h => back_look (fx := fx) (ls := ls) (nf := nf) (H := H) (Hc := Hc) (i := i) (a := a) hnf hsn h
  refine ⟨⟨hm2, ?_, ?_, ?_, ?_, ?_⟩, hm1, hμ, P.os, P.tape, P.output, P.size, ?_, ?_, ?_⟩
  · intro i a hi
    rcases look hi with ⟨h1, h2⟩ | ⟨j, b, h1, rfl, rfl⟩
    · obtain ⟨l, hbk⟩ := rh.blk i a h2
      refine ⟨l, hμ _ _ hbk.loc, hbk.sh, ?_⟩
      rcases hbk.cells with ⟨p1, p2, p3, p4⟩ | ⟨p0, gm, cs, E, fz, g1, g2, g3, g4, g5⟩
      · exact .inl ⟨p1, p2, p3, p4.mono hm1 hμ⟩
      · have hno := apart i a l h1 h2 hbk.loc p0
        refine .inr ⟨p0, ?_, cs, E, fz, ?_, g2, g3, g4, g5.mono hm1 hμ⟩
        · cases hc : mm l.b with
          | none => rfl
          | some c =>
            rcases hm5 _ _ hc with h4 | h4 | h4
            · rw [gm] at h4; cases h4
            · exact (hno h4).elim
            · have := heap_lt g1; omega
        · rw [P.keep _ (heap_lt g1) hno]; exact g1
    · obtain ⟨l, hbk⟩ := P.rh.blk j b h1
      refine ⟨l, hg _ _ hbk.loc, by rw [hbk.sh, renF_sh], ?_⟩
      rw [renF_sh]
      rcases hbk.cells with ⟨p1, p2, p3, p4⟩ | ⟨p0, gm, cs, E, fz, g1, g2, g3, g4, g5⟩
      · exact .inl ⟨p1, p2, p3, renF_rel hg (hm4 j b h1 _ p4)⟩
      · exact .inr ⟨p0, hm6 _ gm, cs, E, fz, g1, g2, g3, g4, renF_rel hg (hm4 j b h1 _ g5)⟩
  · intro i i' a a' li li' hi hi' hl hl' z z' he
    have callee : ∀ {j : Nat} {b : AVal} {l : Loc}, Hc[j]? = some (some b) → backM μ μ5 H.length nf (backF fx nf H.length j) = some l → μ5 j = some l := by
      intro j b l hj hl
      obtain ⟨l0, hbk⟩ := P.rh.blk j b hj
      have := hg _ _ hbk.loc
      rw [hl] at this
      cases this
      exact hbk.loc
    have mixed : ∀ {i : Nat} {a : AVal} {l l' : Loc} {j : Nat} {b : AVal}, i ∉ fx ++ ls → H[i]? = some (some a) → backM μ μ5 H.length nf i = some l → 0 < l.tot → Hc[j]? = some (some b) → backM μ μ5 H.length nf (backF fx nf H.length j) = some l' → 0 < l'.tot → l.b = l'.b → False := by
      intro i a l l' j b h1 h2 hl hz h3 hl' hz' he
      obtain ⟨l0, hbk⟩ := rh.blk i a h2
      have e1 := hμ _ _ hbk.loc
      rw [hl] at e1
      cases e1
      have hown : Owned μ5 Hc l.b := ⟨j, b, l', h3, callee h3 hl', hz', he.symm⟩
      have hlt := (owned_mem rh ⟨i, a, l, h2, hbk.loc, hz, rfl⟩).2
      exact apart i a l h1 h2 hbk.loc hz (P.grow _ hown hlt)
    rcases look hi with ⟨h1, h2⟩ | ⟨j, b, h1, rfl, rfl⟩
    · rcases look hi' with ⟨h3, h4⟩ | ⟨j', b', h3, rfl, rfl⟩
      · obtain ⟨l0, hbk⟩ := rh.blk i a h2
        obtain ⟨l1, hbk'⟩ := rh.blk i' a' h4
        have e1 := hμ _ _ hbk.loc
        have e2 := hμ _ _ hbk'.loc
        rw [hl] at e1; rw [hl'] at e2
        cases e1; cases e2
        exact rh.inj i i' a a' li li' h2 h4 hbk.loc hbk'.loc z z' he
      · exact (mixed h1 h2 hl z h3 hl' z' he).elim
    · rcases look hi' with ⟨h3, h4⟩ | ⟨j', b', h3, rfl, rfl⟩
      · exact (mixed h3 h4 hl' z' h1 hl z he.symm).elim
      · rw [P.rh.inj j j' b b' li li' h1 h3 (callee h1 hl) (callee h3 hl') z z' he]
  · intro i hi
    rw [List.length_append, dropAll_length, setAll_length, renH_length, List.length_drop] at hi
    unfold backM
    rw [if_neg (by omega)]
    exact P.rh.dom _ (by omega)
  · intro i a l hi hl hz
    rcases look hi with ⟨h1, h2⟩ | ⟨j, b, h1, rfl, rfl⟩
    · obtain ⟨l0, hbk⟩ := rh.blk i a h2
      have e1 := hμ _ _ hbk.loc
      rw [hl] at e1
      cases e1
      obtain ⟨cs, fz, k1⟩ := rh.typ i a l h2 hbk.loc hz
      exact ⟨cs, fz, by rw [P.keep _ (heap_lt k1) (apart i a l h1 h2 hbk.loc hz)]; exact k1⟩
    · obtain ⟨l0, hbk⟩ := P.rh.blk j b h1
      have e1 := hg _ _ hbk.loc
      rw [hl] at e1
      cases e1
      exact P.rh.typ j b l h1 hbk.loc hz
  · intro i a l hi hv hl hz
    rcases look hi with ⟨h1, h2⟩ | ⟨j, b, h1, rfl, rfl⟩
    · obtain ⟨l0, hbk⟩ := rh.blk i a h2
      have e1 := hμ _ _ hbk.loc
      rw [hl] at e1
      cases e1
      exact rh.vb i a l h2 hv hbk.loc hz
    · obtain ⟨l0, hbk⟩ := P.rh.blk j b h1
      have e1 := hg _ _ hbk.loc
      rw [hl] at e1
      cases e1
      exact P.rh.vb j b l h1 (by rw [renF_vb] at hv; exact hv) hbk.loc hz
  · intro b hb hno
    refine P.keep b hb fun ho => hno ?_
    obtain ⟨i, a, l, _, h2, h3, h4, h5⟩ := owned_kept ho
    exact ⟨i, a, l, h2, h3, h4, h5⟩
  · rintro b ⟨i, a, l, hi, hl, hz, rfl⟩ hb
    rcases look hi with ⟨h1, h2⟩ | ⟨j, c, h1, rfl, rfl⟩
    · obtain ⟨l0, hbk⟩ := rh.blk i a h2
      have e1 := hμ _ _ hbk.loc
      rw [hl] at e1
      cases e1
      exact ⟨i, a, l, h2, hbk.loc, hz, rfl⟩
    · obtain ⟨l0, hbk⟩ := P.rh.blk j c h1
      have e1 := hg _ _ hbk.loc
      rw [hl] at e1
      cases e1
      obtain ⟨i', a', l', _, h2, h3, h4, h5⟩ := owned_kept (P.grow _ ⟨j, c, l, h1, hbk.loc, hz, rfl⟩ hb)
      exact ⟨i', a', l', h2, h3, h4, h5⟩
  · intro b c hc
    rcases hm5 b c hc with h | h | h
    · exact .inl h
    · obtain ⟨i', a', l', _, h2, h3, h4, h5⟩ := owned_kept h
      exact .inr (.inl ⟨i', a', l', h2, h3, h4, h5⟩)
    · exact .inr (.inr h)
end

theorem callH_ok {C : Ctx} (hΓ : ∀ f, SemOK C.P f (C.Γ f)) (hmix : C.P.follows .mixedOrders = true) {f : Nat} {fn : Func} {c : Code} {ann : Ann} {T : CallT} {os : List Out} (F : {ρ : Type} → T.T.den → (outDen os → Option ρ) → Option ρ)
    (hf : C.P.funcs[f]? = some fn) (hb : fn.body = some c) (hn : (fn.name == "runtime.NumGoroutine") = false) (hA : AnnOK T.nf C.P c ann) (hB : BodyH C fn c ann T os F) (hT : T.T.ok = true) (ho : os.all (Out.ok T.nf) = true)
    (hle : os.all (fun o => Nat.ble T.nf o.T.H.length) = true) : SemOK C.P f (callH T os fun x => F x some) := by
  intro ρ args H k r h
  simp only [StT.ok, Bool.and_eq_true] at hT
  simp only [callH] at h
  split at h
  · cases h
  rename_i as ids hargs
  generalize hkp : keepOf (dropAll ids H) as = kp at h
  obtain ⟨fx, ls⟩ := kp
  dsimp only at h
  rw [Bool.cond_eq_ite] at h
  split at h
  case isFalse => cases h
  rename_i hchk
  simp only [Bool.and_eq_true] at hchk
  obtain ⟨⟨hnf0, hnd⟩, hlive⟩ := hchk
  have hnf : fx.length = T.nf := Nat.eq_of_beq_eq_true hnf0
  split at h
  case h_2 => cases h
  rename_i x hx
  rw [Option.bind_eq_some_iff] at h
  obtain ⟨y, hy, h⟩ := h
  obtain ⟨e0, s, hs, hsn⟩ := instOuts_specH hle y
  rw [hs, Bool.cond_eq_ite] at h
  split at h
  case isFalse => cases h
  rename_i hro
  simp only [Bool.and_eq_true, Bool.or_eq_true, List.isEmpty_iff] at hro
  refine ⟨_, _, _, h, ?_, ?_⟩
  · intro i hi hni
    simp only [List.mem_append, not_or] at hni
    rw [List.getElem?_append_left (by rw [dropAll_length, setAll_length]; exact hi), dropAll_other hni.2, setAll_other hni.1]
  · intro m μ w vs rh hv
    refine ⟨_, _, run_callFunc hf hb hn _ w, .inl ⟨f, _, rfl, ?_⟩⟩
    have hp0 := frz_post (ids := ids) rh
    have hv1 := argsC_rel (ids := ids) rh hargs (fun _ h => h) hv
    obtain ⟨hrs1, hpw1⟩ := renum_post (np := 0) (st := ⟨as, dropAll ids H⟩) (keep := fx ++ ls) (nodupB0_to hnd) rfl hp0.rh (rs_of_vrels hv1)
    obtain ⟨m2, μ2, hrs2, hpw2⟩ := mat_ok (np := (fx ++ ls).length) hT.1 hT.2 hx _ _ w _ hpw1.rh hrs1
    refine (bodyH_calls hΓ hmix hf hb hA hB ho hy hs hpw2.rh (vrels_of_rs hrs2)).mono fun e w' he => ?_
    obtain ⟨us, m5, μ5, he, hvs, p5⟩ := he
    have P := (hpw2.weaken (by simp only [List.length_append]; omega)).trans p5
    have hg := back_map rh hnf hlive P
    have done : ∀ mm : Mem, m.le mm → (∀ b cs, mm b = some cs → ∃ E fz, w'.heap[b]? = some (.cells cs E fz)) → (∀ a ∈ s.sl, ∀ v, VRel m5 μ5 a v → VRel mm μ5 a v) → (∀ (j : Nat) a, s.H[j]? = some (some a) → ∀ cs, CRel m5 μ5 a cs → CRel mm μ5 a cs) →
        (∀ b c, mm b = some c → m b = some c ∨ Owned (renM (fx ++ ls) μ) ((fx ++ ls).map fun i => ((dropAll ids H).getD i none).bind (renA (fx ++ ls))) b ∨ w.heap.size ≤ b) → (∀ b, m5 b = none → mm b = none) →
        Came m μ H w (resL (s.sl.map (renF (backF fx T.nf H.length)))) (dropAll ls (setAll fx (renH (backF fx T.nf H.length) s.H) H) ++ renH (backF fx T.nf H.length) (s.H.drop T.nf)) e w' := by
      intro mm h1 h2 h3 h4 h5 h6
      refine ⟨_, mm, _, he, resL_rel ?_ (vrels_map (fun a ha v hv => renF_vrel hg (h3 a ha v hv)) hvs), back_post rh hnf hsn hlive P h1 h2 h4 h5 h6⟩
      intro a ha q e
      rw [List.mem_map] at ha
      obtain ⟨b, hb, rfl⟩ := ha
      obtain ⟨q', hq⟩ := (renF_undef b).2.1 ⟨q, e⟩
      exact noTupL_spec hro.1 b hb q' hq
    by_cases hids : ids = []
    · have hm1 : frzM m μ H w ids = m := by
        subst hids
        funext b
        unfold frzM
        rw [if_neg]
        rintro ⟨i, _, _, h, _⟩; simp at h
      refine done m5 ?_ P.rh.mem (fun _ _ _ h => h) (fun _ _ _ _ h => h) ?_ (fun _ h => h)
      · have := Mem.le_trans hpw1.ml P.ml
        rw [hm1] at this
        exact this
      · intro b c hc
        rcases P.mgrow b c hc with h4 | h4 | h4
        · rw [hm1] at h4; exact .inl h4
        · exact .inr (.inl h4)
        · exact .inr (.inr h4)
    · have hro2 := hro.2.resolve_left hids
      have hle5 : m.le m5 := Mem.le_trans hp0.ml (Mem.le_trans hpw1.ml P.ml)
      refine done m (Mem.le_refl _) ?_ (fun a ha v hv => noRo_vrel (noRoL_spec hro2.1 a ha) hv) (fun j a ha cs hc => noRo_crel (noRoH_spec hro2.2 j a ha) hc) (fun b c hc => .inl hc) ?_
      · intro b cs hb
        obtain ⟨E, fz, h2⟩ := rh.mem b cs hb
        refine ⟨E, fz, ?_⟩
        rw [P.keep b (heap_lt h2)]
        · exact h2
        · intro ho
          obtain ⟨i', a', l', _, k2, k3, k4, k5⟩ := owned_kept ho
          have := (owned_mem rh ⟨i', a', l', k2, k3, k4, k5⟩).1
          rw [hb] at this; cases this
      · intro b h5
        cases hb : m b with
        | none => rfl
        | some c => have := hle5 b c hb; rw [h5] at this; cases this

theorem orSem_ok {P : Program} {f : Nat} {p : List AVal → Heap → Bool} {a b : CallSem} (ha : SemOK P f a) (hb : SemOK P f b) : SemOK P f (orSem p a b) := by
  intro ρ args H k r h
  simp only [orSem, Bool.cond_eq_ite] at h
  split at h
  · exact ha args H k r h
  · exact hb args H k r h
end Go.Am
/- Proofs that annotations are sound, piece by piece. -/
namespace Go.Am
open Go

section
variable {np : Nat} {P : Program}
theorem AnnOK.nil {c : Code} : AnnOK np P c .nil := by cases c <;> trivial
theorem AnnOK.seq {x y : Code} {a b : Ann} (ha : AnnOK np P x a) (hb : AnnOK np P y b) : AnnOK np P (.seq x y) (.node [] none a b) := ⟨rfl, ha, hb⟩
theorem AnnOK.cond {v : Operand} {x y : Code} {a b : Ann} (ha : AnnOK np P x a) (hb : AnnOK np P y b) : AnnOK np P (.cond v x y) (.node [] none a b) := ⟨rfl, ha, hb⟩
theorem AnnOK.block {i : Nat} {x : Code} {a b : Ann} (ha : AnnOK np P x a) : AnnOK np P (.block i x) (.node [] none a b) := ⟨rfl, ha⟩
theorem AnnOK.loop {c : Code} {pre : List Ghost} {s : StSem} (hg : okG np pre = true) (h : StOK np P c s) : AnnOK np P c (.node pre (some s) .nil .nil) := by cases c <;> exact ⟨hg, h⟩
end
end Go.Am
/- From a function's telling to the row of a law. -/
namespace Go.Am
open Go

/-- The memory that a call finds: only read. -/
def memW (W : World) : Mem := fun b => match W.heap[b]? with | some (.cells cs _ _) => some cs | _ => none

theorem rh_memW (W : World) : RH (memW W) mu0 [] W := by
  refine ⟨fun b cs hb => ?_, fun i a h => by simp at h, fun i j a b li lj h => by simp at h, fun i _ => rfl, fun i a l h => by simp at h, fun i a l h => by simp at h⟩
  unfold memW at hb
  split at hb
  · rename_i c E fz h
    cases hb
    exact ⟨E, fz, h⟩
  · cases hb

def tyPos : Ty → Bool
  | .sl t => (t.size != 0) && tyPos t
  | .pair a b => tyPos a && tyPos b
  | .arr _ t => tyPos t
  | _ => true

theorem argD_toA {H : Heap} : ∀ {t : Ty} {x : t.den}, tyPos t = true → argD H t (toA t x) = some (x, [])
  | .sl t, x, h => by
    simp only [tyPos, Bool.and_eq_true, bne_iff_ne, ne_eq] at h
    exact argD_sl_of (by simpa using h.1) (by simp [toA]) rfl
  | .pair a b, x, h => by
    simp only [tyPos, Bool.and_eq_true] at h
    simp only [toA, argD, argD_toA h.1, argD_toA h.2, Option.bind_some, List.append_nil]
  | .int _, x, _ => by simp [toA, argD, fromA]
  | .bool, x, _ | .str, x, _ | .unit, x, _ => rfl
  | .arr n t, x, _ => by simp [toA, argD, fromA]

theorem argsD_toA {H : Heap} : ∀ {ts : List Ty} {x : dens ts}, ts.all tyPos = true → argsD H ts (argsA ts x) = some (x, [])
  | [], _, _ => rfl
  | t :: ts, x, h => by
    rw [List.all_cons, Bool.and_eq_true] at h
    simp only [argsA, argsD, argD_toA h.1, argsD_toA h.2, Option.bind_some, List.append_nil]

open Go.RowKit in
theorem law_calls {P : Program} {f : Nat} {fn : Func} {c : Code} {tin : List Ty} {J : dens tin → Option (dens [.bool])} (hs : SemOK P f (callPure tin [.bool] J)) (hf : P.funcs[f]? = some fn) (hb : fn.body = some c) (hn : (fn.name == "runtime.NumGoroutine") = false)
    (hp : tin.all tyPos = true) {x : dens tin} (hJ : J x = some (true, ())) {W : World} {args : Array Value} (hv : VRels (memW W) mu0 (argsA tin x) args.toList) :
    Calls P f args W fun e W' => e = .returned (.bool true) ∧ Below W.heap.size W W' := by
  obtain ⟨v, H', e, h1, h2⟩ := hs (argsA tin x) [] (fun v H e => some (v, H, e)) (.bool true, [], .pure) (by
    simp only [callPure, argsD_toA hp, hJ, List.isEmpty_nil, Bool.true_or, cond_true, Option.bind_some, if_true]
    rfl)
  cases h1
  obtain ⟨nx, w1, h3, h4⟩ := h2.2 [] (memW W) mu0 W args.toList (rh_memW W) hv
  rw [run_callFunc hf hb hn] at h3
  cases h3
  rcases h4 with ⟨g, ars, h5, h6⟩ | ⟨u, h5, _⟩
  · cases h5
    simp only [Array.toArray_toList] at h6
    refine h6.mono fun e w' he => ?_
    obtain ⟨u, m', μ', he, hv, hpo⟩ := he
    have : u = .bool true := hv.isBool
    subst this
    exact ⟨he, hpo.os, hpo.tape, hpo.output, hpo.size, fun k hk => hpo.keep k hk not_owned0⟩
  · cases h5

theorem wf_u64 {n : Int} (h : (Lit.int .u64 n).wf = true) : 0 ≤ n ∧ n ≤ 18446744073709551615 := by
  simpa [Lit.wf, IntKind.min, IntKind.max, IntKind.bits, IntKind.signed] using h
theorem wf_i64 {n : Int} (h : (Lit.int .i64 n).wf = true) : -9223372036854775808 ≤ n ∧ n ≤ 9223372036854775807 := by
  simpa [Lit.wf, IntKind.min, IntKind.max, IntKind.bits, IntKind.signed] using h
theorem wf_u32 {n : Int} (h : (Lit.int .u32 n).wf = true) : 0 ≤ n ∧ n ≤ 4294967295 := by
  simpa [Lit.wf, IntKind.min, IntKind.max, IntKind.bits, IntKind.signed] using h
theorem wf_u8 {n : Int} (h : (Lit.int .u8 n).wf = true) : 0 ≤ n ∧ n ≤ 255 := by
  simpa [Lit.wf, IntKind.min, IntKind.max, IntKind.bits, IntKind.signed] using h

section
variable {H : Type} {enc : TypeId × Value → H} {P : Program}
open Go.RowKit

theorem trodAll_stays (hl : laidOutB P = true) {W W' : World} {sp' : Nat → Bool} : ∀ {ts : List TypeId} {vs : List Value} {ds : List (DataW H)} {ps : List MemPlace}, (∀ t ∈ ts, P.readableRec t = true ∧ t < P.types.size) →
    DataW.TrodAll enc P W 0 (fun _ => true) true ts vs ds ps → (∀ p ∈ ps, W.sameAt W' p) → (∀ p ∈ ps, sp' p.block = true) → DataW.TrodAll enc P W' 0 sp' true ts vs ds ps
  | [], [], [], ps, _, h, _, _ => h
  | t :: ts, v :: vs, d :: ds, ps, hr, h, hsame, hs => by
    obtain ⟨p, q, h1, h2, rfl⟩ := h
    exact ⟨p, q, WideElems.Trod_stays hl (hr t (by simp)).1 (hr t (by simp)).2 h1 (fun x hx => hsame x (by simp [hx])) (fun x hx => hs x (by simp [hx])),
      trodAll_stays hl (fun t ht => hr t (by simp [ht])) h2 (fun x hx => hsame x (by simp [hx])) (fun x hx => hs x (by simp [hx])), rfl⟩
  | [], _ :: _, _, _, _, h, _, _ | [], [], _ :: _, _, _, h, _, _ | _ :: _, [], _, _, _, h, _, _ | _ :: _, _ :: _, [], _, _, h, _, _ => h.elim

/-- WHAT A LAW's ROW ASKS: true, and all that was there is as it was. -/
theorem post_law (hl : laidOutB P = true) {f : Func} {s : ChangeSpec} {apart fresh handsOn again : Bool} {W W' : World} {args : Array Value} {ds gs : List (DataW H)} {before : List MemPlace} {tb : TypeId}
    (hread' : (f.params.toList.all fun t => P.readableRec t && decide (t < P.types.size)) = true) (hW : DataW.Whole enc P f.params.toList s.vars apart W args.toList ds gs before) (hvars : s.vars = [])
    (hsr : (s.fn H (ds ++ gs)).results = [.lit (.bool true)]) (hsa : (s.fn H (ds ++ gs)).args = ds) (hsv : (s.fn H (ds ++ gs)).vars = []) (hr : f.resultTypes = #[tb]) (htb : P.underlying tb = some .bool) (hb : Below W.heap.size W W') :
    s.post enc P f apart fresh handsOn again W args (.bool true) W' := by
  have hread : ∀ t ∈ f.params.toList, P.readableRec t = true ∧ t < P.types.size := fun t ht => by
    have := List.all_eq_true.1 hread' t ht
    simpa using this
  have hW' := hW
  obtain ⟨p, q, hA, hV, rfl, hz, hn⟩ := hW
  rw [hvars] at hV
  obtain ⟨rfl, rfl⟩ := ChangeShapes.trodVars_none hV
  have hlt : ∀ x ∈ p, x.block < W.heap.size := fun x hx => by simpa using hW'.lt x (by simp [hx])
  have hres : ∀ (b : Nat) (sp : Nat → Bool) (hd : Bool), DataW.TrodAll enc P W' b sp hd f.resultTypes.toList ((Value.bool true).resultList f.resultTypes.size) (s.fn H (ds ++ [])).results [] := by
    intro b sp hd
    rw [hsr, hr]
    exact ⟨[], [], ⟨1, by simp [DataW.trod, Value.cells, htb]⟩, rfl, rfl⟩
  have hargs : ∀ sp : Nat → Bool, (∀ x ∈ p, sp x.block = true) → DataW.TrodAll enc P W' 0 sp true f.params.toList args.toList (s.fn H (ds ++ [])).args p := by
    intro sp hsp
    rw [hsa]
    exact trodAll_stays hl hread hA (fun x hx => hb.same (hlt x hx)) hsp
  have hvs : ∀ sp : Nat → Bool, DataW.TrodVars enc P W' sp s.vars (s.fn H (ds ++ [])).vars [] := by
    intro sp; rw [hsv, hvars]; rfl
  refine ⟨ds, [], p ++ [], [], p, [], hW', hres _ _ _, hargs _ (fun x hx => by simpa using hlt x hx), hvs _, hb.frame _, fun _ => ⟨?_, ?_⟩⟩
  · exact ok_one hr rfl (okWide_bool_mk htb true)
  · refine ⟨_, _, ([] ++ p) ++ [], ⟨[] ++ p, [], ChangeShapes.trodAll_append (hargs _ (fun _ _ => rfl)) (hres _ _ _), hvs _, rfl, ?_, ?_⟩, ?_⟩
    · intro b off hp
      rw [hb.frozen (hlt (.cell b off) (by simpa using hp))]
      exact hz b off (by simpa using hp)
    · intro ha
      have := hn ha
      simpa using this
    · intro x hx _
      simpa using hx
end
end Go.Am
/- From what a row reads to plain data. -/
namespace Go.Am
open Go

/-- Do a type's cells lie as the data's type says? -/
def layF (P : Program) (g : TypeId → Ty → Bool) : Nat → List Field → Ty → Bool
  | _, [], .unit => true
  | off, f :: fs, .pair a b => f.offset == off && P.cellsOf f.type == a.size && g f.type a && layF P g (off + a.size) fs b
  | _, _, _ => false
def layOK (P : Program) : Nat → TypeId → Ty → Bool
  | 0, _, _ => false
  | n + 1, T, t =>
    match P.underlying T, t with
    | some .bool, .bool => true
    | some (.int k), .int k' => decide (k = k')
    | some .string, .str => true
    | some (.slice e), .sl t => P.cellsOf e == t.size && t.size != 0 && layOK P n e t
    | some (.array len e), .arr m t => len == m && P.cellsOf T == m * t.size && P.cellsOf e == t.size && layOK P n e t
    | some (.struct fs), t => P.cellsOf T == t.size && layF P (layOK P n) 0 fs.toList t
    | _, _ => false

/-- How plain data read in the row's words. -/
def RD {H : Type} : (t : Ty) → t.den → DataW H → Prop
  | .int k, n, d => d = .lit (.int k n) ∧ (Lit.int k n).wf = true
  | .bool, b, d => d = .lit (.bool b)
  | .str, s, d => d = .lit (.string s.data.toList) ∧ s.size ≤ maxLen
  | .unit, _, d => d = .agg []
  | .pair a b, x, d => ∃ e r, d = .agg (e :: r) ∧ RD a x.1 e ∧ RD b x.2 (.agg r)
  | .arr n t, xs, d => ∃ ds : List (DataW H), d = .agg ds ∧ ds.length = n ∧ xs.length = n ∧ ∀ i, i < n → RD t (xs.getD i t.zero) (ds.getD i .nil)
  | .sl t, xs, d => (d = .nil ∧ xs = []) ∨ ∃ es sp : List (DataW H), d = .slice es sp ∧ es.length = xs.length ∧ ∀ i, i < xs.length → RD t (xs.getD i t.zero) (es.getD i .nil)

theorem choose_list {α : Type} (d : α) {R : Nat → α → Prop} : ∀ {n : Nat}, (∀ i, i < n → ∃ x, R i x) → ∃ xs : List α, xs.length = n ∧ ∀ i, i < n → R i (xs.getD i d)
  | 0, _ => ⟨[], rfl, fun i hi => by omega⟩
  | n + 1, h => by
    obtain ⟨xs, h1, h2⟩ := choose_list d (n := n) fun i hi => h i (by omega)
    obtain ⟨x, hx⟩ := h n (by omega)
    refine ⟨xs ++ [x], by simp [h1], fun i hi => ?_⟩
    rw [List.getD_eq_getElem?_getD]
    by_cases e : i = n
    · subst e
      rw [List.getElem?_append_right (by omega), h1, Nat.sub_self]
      exact hx
    · rw [List.getElem?_append_left (by omega), ← List.getD_eq_getElem?_getD]
      exact h2 i (by omega)

theorem mapM_some {α β : Type} {f : α → Option β} : ∀ {l : List α} {r : List β}, l.mapM f = some r → r.length = l.length ∧ ∀ (i : Nat) (x : α), l[i]? = some x → ∃ y, r[i]? = some y ∧ f x = some y
  | [], r, h => by
    simp only [List.mapM_nil] at h
    cases h
    exact ⟨rfl, fun i x hx => by simp at hx⟩
  | a :: l, r, h => by
    simp only [List.mapM_cons] at h
    obtain ⟨y, h1, h2⟩ := Option.bind_eq_some_iff.1 h
    obtain ⟨ys, h3, h4⟩ := Option.bind_eq_some_iff.1 h2
    cases h4
    obtain ⟨g1, g2⟩ := mapM_some h3
    refine ⟨by simp [g1], fun i x hx => ?_⟩
    cases i with
    | zero => simp only [List.getElem?_cons_zero, Option.some.injEq] at hx ⊢; subst hx; exact ⟨y, rfl, h1⟩
    | succ i => simp only [List.getElem?_cons_succ] at hx ⊢; exact g2 i x hx

theorem cells_of {W : World} {base : Nat} {a : Addr} {n : Nat} {c : List Value} (h : W.cells? base a n = some c) (hn : n ≠ 0) : a.spot = none ∧ (memW W).cells a.block a.off n = some c := by
  unfold World.cells? at h
  split at h
  · obtain ⟨h1, h2⟩ := mapM_some h
    simp only [List.length_range] at h1
    have look : ∀ i, i < n → ∃ y, c[i]? = some y ∧ W.cell? (a.add i) = some y := fun i hi => h2 i i (by simp [hi])
    obtain ⟨y0, _, h0⟩ := look 0 (by omega)
    have e0 : a.add 0 = a := rfl
    rw [e0] at h0
    unfold World.cell? at h0
    split at h0
    · rename_i cs E fz hb
      split at h0
      · cases h0
      · rename_i hs
        have hs' : a.spot = none := by cases h : a.spot <;> simp_all
        refine ⟨hs', ?_⟩
        have hm : memW W a.block = some cs := by simp [memW, hb]
        have each : ∀ i, i < n → ∃ y, c[i]? = some y ∧ cs[a.off + i]? = some y := by
          intro i hi
          obtain ⟨y, g1, g2⟩ := look i hi
          refine ⟨y, g1, ?_⟩
          unfold World.cell? at g2
          have hbk : (a.add i).block = a.block := by unfold Addr.add; split <;> rfl
          have hoff : (a.add i).off = a.off + i := by unfold Addr.add; split <;> simp_all
          have hsp : (a.add i).spot = none := by unfold Addr.add; split <;> simp_all
          rw [hbk, hb] at g2
          simp only [hsp, hoff, Option.isSome_none, Bool.false_eq_true, if_false] at g2
          exact g2
        have hsz : a.off + n ≤ cs.size := by
          obtain ⟨y, _, g⟩ := each (n - 1) (by omega)
          have := (Array.getElem?_eq_some_iff.1 g).1
          omega
        simp only [Mem.cells, hm, if_pos hsz, Option.some.injEq]
        apply List.ext_getElem?
        intro i
        by_cases hi : i < n
        · obtain ⟨y, g1, g2⟩ := each i hi
          rw [g1, List.getElem?_take, if_pos hi, List.getElem?_drop]
          simpa using g2
        · rw [List.getElem?_eq_none (by simp; omega), List.getElem?_eq_none (by omega)]
    · cases h0
  · cases h

section
variable {H : Type} {enc : TypeId × Value → H} {P : Program}

/-- What is read of cells is data. -/
theorem open_trod {W : World} {sp : Nat → Bool} {held : Bool} : ∀ (n : Nat) {fuel : Nat} {T : TypeId} {t : Ty} {cs : List Value} {d : DataW H} {ps : List MemPlace}, layOK P n T t = true → DataW.trod enc P W 0 sp held fuel T cs = some (d, ps) →
    ∃ x : t.den, DRel (memW W) t x cs ∧ RD t x d
  | 0, _, _, _, _, _, _, h, _ => by simp [layOK] at h
  | n + 1, 0, _, _, _, _, _, _, h => by simp [DataW.trod] at h
  | n + 1, fuel + 1, T, t, cs, d, ps, hl, h => by
    simp only [layOK] at hl
    split at hl
    · rename_i hu
      obtain ⟨b, rfl, hx⟩ := DataW.trod_bool hu h
      cases hx
      exact ⟨b, rfl, rfl⟩
    · rename_i k k' hu
      simp only [decide_eq_true_eq] at hl
      subst hl
      obtain ⟨m, rfl, hx, hw⟩ := DataW.trod_int hu h
      cases hx
      exact ⟨m, rfl, rfl, hw⟩
    · rename_i hu
      obtain ⟨b, rfl, hx, hw⟩ := DataW.trod_string hu h
      cases hx
      exact ⟨b, rfl, rfl, hw⟩
    · rename_i e t hu
      simp only [Bool.and_eq_true, beq_iff_eq, bne_iff_ne] at hl
      obtain ⟨⟨hce, hts⟩, hle⟩ := hl
      rcases DataW.trod_slice hu h with ⟨rfl, hx⟩ | ⟨a, len, cap, elems, rest, m, _, rfl, hx, hb, hlc, hcm, hlen, hel, _, _⟩
      · cases hx
        exact ⟨[], ⟨none, 0, rfl, Nat.le_refl _, fun i hi => by simp at hi⟩, .inl ⟨rfl, rfl⟩⟩
      · cases hx
        have key : ∀ i, i < len → ∃ x : t.den, (∃ c, (a.add (i * t.size)).spot = none ∧ (memW W).cells a.block (a.off + i * t.size) t.size = some c ∧ DRel (memW W) t x c) ∧ RD t x ((elems.map (·.1)).getD i .nil) := by
          intro i hi
          have h1 := hel i hi
          have hel2 : elems[i]? = some (elems[i]'(by omega)) := by simp [show i < elems.length by omega]
          rw [hel2, Option.bind_eq_some_iff] at h1
          obtain ⟨c, h2, h3⟩ := h1
          rw [hce] at h2
          obtain ⟨g1, g2⟩ := cells_of h2 hts
          obtain ⟨x, k1, k2⟩ := open_trod n (d := (elems[i]'(by omega)).1) (ps := (elems[i]'(by omega)).2) hle h3
          have hbk : (a.add (i * t.size)).block = a.block := by unfold Addr.add; split <;> rfl
          have hoff : (a.add (i * t.size)).off = a.off + i * t.size := by unfold Addr.add; split <;> simp_all
          rw [hbk, hoff] at g2
          refine ⟨x, ⟨c, g1, g2, k1⟩, ?_⟩
          rw [List.getD_eq_getElem?_getD, List.getElem?_map, hel2]
          exact k2
        obtain ⟨xs, h1, h2⟩ := choose_list t.zero key
        refine ⟨xs, ⟨some a, cap, by rw [h1], by omega, fun i hi => ?_⟩, .inr ⟨_, _, rfl, by simp [hlen, h1], fun i hi => ?_⟩⟩
        · rw [h1] at hi
          obtain ⟨⟨c, g1, g2, g3⟩, _⟩ := h2 i hi
          obtain ⟨⟨c0, g4, _, _⟩, _⟩ := h2 0 (by omega)
          have : a.spot = none := by simpa [Addr.add] using g4
          exact ⟨a, c, rfl, this, g2, g3⟩
        · rw [h1] at hi
          exact (h2 i hi).2
    · rename_i len e m t hu
      simp only [Bool.and_eq_true, beq_iff_eq] at hl
      obtain ⟨⟨⟨rfl, hcT⟩, hce⟩, hle⟩ := hl
      obtain ⟨elems, m, _, hx, hlen, hel, hr⟩ := DataW.trod_array hu h
      cases hx
      have key : ∀ i, i < len → ∃ x : t.den, DRel (memW W) t x ((cs.drop (i * t.size)).take t.size) ∧ RD t x ((elems.map (·.1)).getD i .nil) := by
        intro i hi
        have h1 := hr i hi
        have hel2 : elems[i]? = some (elems[i]'(by omega)) := by simp [show i < elems.length by omega]
        rw [hel2, hce] at h1
        obtain ⟨x, k1, k2⟩ := open_trod n (d := (elems[i]'(by omega)).1) (ps := (elems[i]'(by omega)).2) hle h1
        refine ⟨x, k1, ?_⟩
        rw [List.getD_eq_getElem?_getD, List.getElem?_map, hel2]
        exact k2
      obtain ⟨xs, h1, h2⟩ := choose_list t.zero key
      exact ⟨xs, ⟨h1, by rw [hlen, hcT], fun i hi => (h2 i hi).1⟩, ⟨_, rfl, by simp [hel], h1, fun i hi => (h2 i hi).2⟩⟩
    · rename_i t _ _ fs hu
      simp only [Bool.and_eq_true, beq_iff_eq] at hl
      obtain ⟨hcT, hlf⟩ := hl
      obtain ⟨elems, m, _, hx, hlen, hel, hr⟩ := DataW.trod_struct hu h
      cases hx
      -- the fields from one on
      have key : ∀ (l : List Field) (off j : Nat) (t : Ty), (∀ i : Nat, l[i]? = fs[j + i]?) → layF P (layOK P n) off l t = true → off + t.size = cs.length →
          ∃ x : t.den, DRel (memW W) t x (cs.drop off) ∧ RD t x (.agg ((elems.map (·.1)).drop j)) := by
        intro l
        induction l with
        | nil =>
          intro off j t hl h1 h2
          cases t <;> simp only [layF] at h1 <;> try (cases h1; done)
          refine ⟨(), ?_, ?_⟩
          · simp only [Ty.size, Nat.add_zero] at h2
            simp only [DRel]
            rw [h2]; simp
          · have := hl 0
            simp only [Nat.add_zero, List.getElem?_nil] at this
            have hj : fs.size ≤ j := by
              rcases Nat.lt_or_ge j fs.size with h | h
              · simp [h] at this
              · exact h
            simp only [RD]
            rw [List.drop_eq_nil_of_le (by simp; omega)]
        | cons f l ih =>
          intro off j t hl h1 h2
          cases t <;> simp only [layF] at h1 <;> try (cases h1; done)
          rename_i a b
          simp only [Bool.and_eq_true, beq_iff_eq] at h1
          obtain ⟨⟨⟨ho, hs⟩, hg⟩, hrest⟩ := h1
          simp only [Ty.size] at h2
          have hf : fs[j]? = some f := by have := hl 0; simpa using this.symm
          have hr1 := hr j f hf
          have hjlt : j < fs.size := (Array.getElem?_eq_some_iff.1 hf).1
          have hel2 : elems[j]? = some (elems[j]'(by omega)) := by simp [show j < elems.length by omega]
          rw [hel2, hs, ho] at hr1
          obtain ⟨x, k1, k2⟩ := open_trod n (d := (elems[j]'(by omega)).1) (ps := (elems[j]'(by omega)).2) hg hr1
          obtain ⟨y, k3, k4⟩ := ih (off + a.size) (j + 1) b (fun i => by have := hl (i + 1); simpa [Nat.add_assoc, Nat.add_comm 1 i] using this) hrest (by omega)
          refine ⟨(x, y), ?_, ?_⟩
          · simp only [DRel]
            exact ⟨k1, by rw [List.drop_drop]; exact k3⟩
          · simp only [RD]
            refine ⟨_, _, ?_, k2, k4⟩
            rw [List.drop_eq_getElem_cons (by simp; omega)]
            simp
      have := key fs.toList 0 0 t (fun i => by simp) hlf (by rw [hlen, hcT]; simp)
      simpa using this
    · cases hl

/-- What a value of the row's is as data. -/
theorem okWide_agg {W : World} {r : Reach} {base : Nat} {T : TypeId} {t : Ty} {v : Value} {n : Nat} (hl : layOK P n T t = true) (hv : Value.okWide P W r base T v) :
    if (toA t t.zero).isAgg then ∃ cs, v = .agg cs else v.cells = #[v] := by
  cases n with
  | zero => simp [layOK] at hl
  | succ n =>
    simp only [layOK] at hl
    unfold Value.okWide at hv
    split at hl
    · rename_i hu
      rw [hu] at hv; dsimp only at hv
      unfold Cell.okWide Cell.ok at hv
      rw [hu] at hv
      cases v <;> simp_all [toA, AVal.isAgg, Value.cells]
    · rename_i k k' hu
      rw [hu] at hv; dsimp only at hv
      unfold Cell.okWide Cell.ok at hv
      rw [hu] at hv
      cases v <;> simp_all [toA, AVal.isAgg, Value.cells]
    · rename_i hu
      rw [hu] at hv; dsimp only at hv
      unfold Cell.okWide Cell.ok at hv
      rw [hu] at hv
      cases v <;> simp_all [toA, AVal.isAgg, Value.cells]
    · rename_i e t hu
      rw [hu] at hv; dsimp only at hv
      unfold Cell.okWide Cell.ok at hv
      rw [hu] at hv
      cases v <;> simp_all [toA, AVal.isAgg, Value.cells]
    · rename_i len e m t hu
      rw [hu] at hv; dsimp only at hv
      obtain ⟨cs, h, _⟩ := hv
      simp only [toA, AVal.isAgg, if_true]
      exact ⟨cs, h⟩
    · rename_i t _ _ fs hu
      rw [hu] at hv; dsimp only at hv
      obtain ⟨cs, h, _⟩ := hv
      simp only [Bool.and_eq_true] at hl
      have : (toA t t.zero).isAgg = true := by
        cases hf : fs.toList with
        | nil => rw [hf] at hl; cases t <;> simp [layF] at hl <;> rfl
        | cons f l => rw [hf] at hl; cases t <;> simp [layF] at hl <;> rfl
      rw [this]
      exact ⟨cs, h⟩
    · cases hl

theorem isAgg_any {t : Ty} (x y : t.den) : (toA t x).isAgg = (toA t y).isAgg := by cases t <;> rfl

theorem vrel_open {W : World} {t : Ty} {x : t.den} {v : Value} (ha : if (toA t t.zero).isAgg then ∃ cs, v = .agg cs else v.cells = #[v]) (h : DRel (memW W) t x v.cells.toList) : VRel (memW W) mu0 (toA t x) v := by
  rw [isAgg_any t.zero x] at ha
  have hne := toA_ne (t := t) (x := x)
  rw [VRel_eq0 hne.2, VRel0_iff hne.1 hne.2]
  split
  · rename_i hx
    rw [if_pos hx] at ha
    obtain ⟨cs, rfl⟩ := ha
    exact ⟨cs, rfl, toA_rel.2 h⟩
  · rename_i hx
    rw [if_neg hx] at ha
    rw [ha] at h
    exact toA_rel.2 h

def layAll (P : Program) : List TypeId → List Ty → Bool
  | [], [] => true
  | T :: Ts, t :: ts => layOK P 40 T t && layAll P Ts ts
  | _, _ => false

def RDa : (ts : List Ty) → dens ts → List (DataW H) → Prop
  | [], _, ds => ds = []
  | t :: ts, x, ds => ∃ d r, ds = d :: r ∧ RD t x.1 d ∧ RDa ts x.2 r

theorem open_all {W : World} {base : Nat} {sp : Nat → Bool} {held : Bool} : ∀ {Ts : List TypeId} {ts : List Ty} {vs : List Value} {ds : List (DataW H)} {ps : List MemPlace}, layAll P Ts ts = true →
    (∀ (j : Nat) T v, Ts[j]? = some T → vs[j]? = some v → Value.okWide P W .any base T v) → DataW.TrodAll enc P W 0 sp held Ts vs ds ps → ∃ x : dens ts, VRels (memW W) mu0 (argsA ts x) vs ∧ RDa ts x ds
  | [], [], [], [], _, _, _, _ => ⟨(), trivial, rfl⟩
  | T :: Ts, t :: ts, v :: vs, d :: ds, ps, hl, hv, h => by
    simp only [layAll, Bool.and_eq_true] at hl
    obtain ⟨p, q, h1, h2, rfl⟩ := h
    obtain ⟨fuel, h1⟩ := h1
    obtain ⟨x, k1, k2⟩ := open_trod 40 hl.1 h1
    obtain ⟨y, k3, k4⟩ := open_all hl.2 (fun j T v h3 h4 => hv (j + 1) T v (by simpa using h3) (by simpa using h4)) h2
    exact ⟨(x, y), ⟨vrel_open (okWide_agg hl.1 (hv 0 T v rfl rfl)) k1, k3⟩, ⟨d, ds, rfl, k2, k4⟩⟩
  | [], [], _ :: _, _, _, _, _, h | [], [], [], _ :: _, _, _, _, h | _ :: _, _ :: _, [], _, _, _, _, h | _ :: _, _ :: _, _ :: _, [], _, _, _, h => h.elim
  | [], _ :: _, _, _, _, h, _, _ | _ :: _, [], _, _, _, h, _, _ => by simp [layAll] at h
end
end Go.Am
