/- A part of a proof: a machine of abstract values that tells what functions of the program compute, and the plain facts on them. -/
import Derived.Test.YtkcoljbmhmbmbaaGreatAm7
set_option linter.unusedVariables false
set_option linter.unusedSimpArgs false
set_option linter.unnecessarySimpa false
set_option linter.unusedSectionVars false
namespace Go.Am
open Go
def Q5M : List ResultVar → St → Option St
 | [], st => some st
 | .tmp t :: rs, st => ((Q1i.freeze (.slot t)).run0 st).bind (Q5M rs)
 | .cell a _ :: rs, st => match st.sl.getD a .undef with
  | .ptr id p => ((Q1i.freeze (.blk id p)).run0 st).bind (Q5M rs)
  | _ => none
theorem Q4I {np : Nat} : ∀ {rs : List ResultVar} {st st' : St}, Q5M rs st = some st' → Q1a np st st'
 | [], st, st', h => by simp only [Q5M, Option.some.injEq] at h; subst h; exact .refl np st
 | .tmp t :: rs, st, st', h => by
  simp only [Q5M, Option.bind_eq_some_iff] at h
  obtain ⟨s, h1, h2⟩ := h
  exact (Q2J (by rfl) h1).trans (Q4I h2)
 | .cell a T :: rs, st, st', h => by
  simp only [Q5M] at h
  split at h
  ·obtain ⟨s, h1, h2⟩ := Option.bind_eq_some_iff.1 h
   exact (Q2J (by rfl) h1).trans (Q4I h2)
  ·cases h
theorem Goes.after {np : Nat} {P : Program} {c : Code} {st s1 s2 : St} {e : Exit} (h : Goes np P c st e s1) (g : Q1a np s1 s2) : Goes np P c st e s2 := by
 intro m μ w a Q rh rs hQ
 refine h m μ w a Q rh rs fun a1 w1 m1 μ1 rs1 p1 => ?_
 obtain ⟨m2, μ2, rs2, p2⟩ := g m1 μ1 w1 a1 p1.rh rs1
 exact hQ _ _ _ _ rs2 (p1.trans p2)
def Qar (C : Ctx) (fn : Func) (c : Code) (ann : Ann) : Qj :=
 ⟨fun as H k =>
  let kp := Q1S H as
  let keep := kp.1 ++ kp.2
  cond (Q1V keep && Q2z H keep)
   (evC C c ann ⟨(as.map fun a => (renA keep a).getD .undef) ++ List.replicate (fn.ntmps - as.length) .undef, keep.map fun i => (H.getD i none).bind (renA keep)⟩
    fun e st => match Q5M fn.results.toList st with
     | some st1 => (finI C.P fn.results.toList fun vs Hc =>
      cond (Nat.ble keep.length Hc.length && Q2n vs)
       (k (resL (vs.map (renF (Q1c keep keep.length H.length)))) (Q1A keep (renH (Q1c keep keep.length H.length) Hc) H ++ renH (Q1c keep keep.length H.length) (Hc.drop keep.length)) (.touch H.length keep)) none) e st1
     | none => none) none⟩
theorem Qdr {C : Ctx} (hΓ : ∀ f, Qb C.P f (C.Γ f)) (hmix : C.P.follows .mixedOrders = true) {f : Nat} {fn : Func} {c : Code} {ann : Ann}
  (hf : C.P.funcs[f]? = some fn) (hb : fn.body = some c) (hn : (fn.name == "runtime.NumGoroutine") = false) (hA : ∀ np, Q3 np C.P c ann) : Qb C.P f (Qar C fn c ann) := by
 intro ρ args H k r h
 simp only [Qar] at h
 generalize hkeep : (Q1S H args).1 ++ (Q1S H args).2 = keep at h
 rw [Bool.cond_eq_ite] at h
 split at h
 case isFalse => cases h
 rename_i hchk
 simp only [Bool.and_eq_true] at hchk
 obtain ⟨hnd, hlive⟩ := hchk
 obtain ⟨e, st', h2, h3⟩ := Q1u hΓ hmix c ann _ _ _ (hA keep.length) h
 split at h2
 case h_2 => cases h2
 rename_i st1 hst1
 obtain ⟨vs, hvs, he, hk⟩ := Q4a h2
 rw [Bool.cond_eq_ite] at hk
 split at hk
 case isFalse => cases hk
 rename_i hc
 simp only [Bool.and_eq_true] at hc
 refine ⟨_, _, _, hk, ?_, Q2S hf hb hn hnd hlive (h3.after (Q4I hst1)) hvs he hc.2 (Nat.le_of_ble_eq_true hc.1)⟩
 intro i hi hni
 rw [List.getElem?_append_left (by rw [Q1w]; exact hi), Q29 hni]
def Q5T : List ResultVar → List Nat
 | [] => []
 | .tmp t :: rs => t :: Q5T rs
 | .cell a _ :: rs => a :: Q5T rs
def Qbm (np : Nat) (rs : List ResultVar) (st : St) : Option St :=
 let st1 : St := ⟨Q3j (Q5T rs) 0 st.sl, st.H⟩
 cond (Q1V (Q3i np st1) && Q5B (Q3i np st1) np) (Q1i.run0 (.renum (Q3i np st1)) st1) none
theorem QaF {keep : List Nat} : ∀ {n : Nat}, Q5B keep n = true → n ≤ keep.length
 | 0, _ => Nat.zero_le _
 | n + 1, h => by
  simp only [Q5B, Bool.and_eq_true] at h
  split at h
  ·rename_i i hi
   exact (List.getElem?_eq_some_iff.1 hi).1
  ·cases h.2
theorem Qa8 {np : Nat} {rs : List ResultVar} {st st' : St} (h : Qbm np rs st = some st') : Q1a np st st' ∧ np ≤ st'.H.length := by
 simp only [Qbm] at h
 rw [Bool.cond_eq_ite] at h
 split at h
 case isFalse => cases h
 rename_i hc
 rw [Bool.and_eq_true] at hc
 refine ⟨(Q2J (g := .mask (Q5T rs)) (st := st) rfl rfl).trans (Q2J (g := .renum _) (by simp only [Q1i.okN, Bool.and_eq_true]; exact ⟨Q39 hc.1, Q5g (Nat.le_refl _) hc.2⟩) h), ?_⟩
 simp only [Q1i.run0, Option.some.injEq] at h
 subst h
 simpa using QaF hc.2
def QaR (fz : Bool) (C : Ctx) (fn : Func) (c : Code) (ann : Ann) : Qj :=
 ⟨fun as H k =>
  let kp := Q1S H as
  let keep := kp.1 ++ kp.2
  cond (Q1V keep && Q2z H keep)
   (evC C c ann ⟨(as.map fun a => (renA keep a).getD .undef) ++ List.replicate (fn.ntmps - as.length) .undef, keep.map fun i => (H.getD i none).bind (renA keep)⟩
    fun e st => match (cond fz (Q5M fn.results.toList st) (some st)) with
     | some st1 => (match Qbm keep.length fn.results.toList st1 with
      | some st2 => (finI C.P fn.results.toList fun vs Hc =>
       cond (Q2n vs)
        (k (resL (vs.map (renF (Q1c keep keep.length H.length)))) (Q1A keep (renH (Q1c keep keep.length H.length) Hc) H ++ renH (Q1c keep keep.length H.length) (Hc.drop keep.length)) (.touch H.length keep)) none) e st2
      | none => none)
     | none => none) none⟩
theorem QdB {C : Ctx} (fz : Bool) (hΓ : ∀ f, Qb C.P f (C.Γ f)) (hmix : C.P.follows .mixedOrders = true) {f : Nat} {fn : Func} {c : Code} {ann : Ann}
  (hf : C.P.funcs[f]? = some fn) (hb : fn.body = some c) (hn : (fn.name == "runtime.NumGoroutine") = false) (hA : ∀ np, Q3 np C.P c ann) : Qb C.P f (QaR fz C fn c ann) := by
 intro ρ args H k r h
 simp only [QaR] at h
 generalize hkeep : (Q1S H args).1 ++ (Q1S H args).2 = keep at h
 rw [Bool.cond_eq_ite] at h
 split at h
 case isFalse => cases h
 rename_i hchk
 simp only [Bool.and_eq_true] at hchk
 obtain ⟨hnd, hlive⟩ := hchk
 obtain ⟨e, st', h2, h3⟩ := Q1u hΓ hmix c ann _ _ _ (hA keep.length) h
 split at h2
 case h_2 => cases h2
 rename_i st1 hst1
 split at h2
 case h_2 => cases h2
 rename_i st2 hst2
 have g1 : Q1a keep.length st' st1 := by
  cases fz with
  | true => exact Q4I hst1
  | false => cases hst1; exact .refl _ _
 obtain ⟨g2, hlen⟩ := Qa8 hst2
 obtain ⟨vs, hvs, he, hk⟩ := Q4a h2
 rw [Bool.cond_eq_ite] at hk
 split at hk
 case isFalse => cases hk
 rename_i hc
 refine ⟨_, _, _, hk, ?_, Q2S hf hb hn hnd hlive ((h3.after g1).after g2) hvs he hc hlen⟩
 intro i hi hni
 rw [List.getElem?_append_left (by rw [Q1w]; exact hi), Q29 hni]
def runK (P : Program) (told : List (Nat × Qj)) (fns : List (Nat × Func)) (frs : List Nat) (fuel deep : Nat) : Nat → Nat → Qj
 | 0, f => gam told f
 | n + 1, f => match Q8A fns f with
  | some fn => (match fn.body with
   | some c => QaR (inB f frs) ⟨P, runK P told fns frs fuel deep n⟩ fn c (annF ⟨P, runK P told fns frs fuel deep n⟩ fuel deep c)
   | none => gam told f)
  | none => gam told f
theorem Q5L {P : Program} {told : List (Nat × Qj)} {fns : List (Nat × Func)} {frs : List Nat} {fuel deep : Nat} (ht : ∀ f, Qb P f (gam told f)) (hmix : P.follows .mixedOrders = true) (hfns : Q3s P fns) : ∀ n f, Qb P f (runK P told fns frs fuel deep n f)
 | 0, f => ht f
 | n + 1, f => by
  simp only [runK]
  split
  ·rename_i fn hf
   obtain ⟨h1, h2⟩ := hfns f fn hf
   split
   ·rename_i c hc
    exact QdB (C := ⟨P, runK P told fns frs fuel deep n⟩) _ (Q5L ht hmix hfns n) hmix h1 hc h2 (fun np => Q22 (C := ⟨P, runK P told fns frs fuel deep n⟩) (Q5L ht hmix hfns n) hmix fuel deep c np)
   ·exact ht f
  ·exact ht f
theorem QdH {P : Program} {told : List (Nat × Qj)} {fns : List (Nat × Func)} {frs : List Nat} {fuel deep n : Nat} (ht : ∀ f, Qb P f (gam told f)) (hmix : P.follows .mixedOrders = true) (hfns : Q3s P fns) {f : Nat} {fn : Func} {c : Code} {tout : List Ty} {y : dens tout}
  (hf : P.funcs[f]? = some fn) (hb : fn.body = some c) (hn : (fn.name == "runtime.NumGoroutine") = false)
  (hr : ∀ {ρ : Type} (K : dens tout → Option ρ), evC ⟨P, runK P told fns frs fuel deep n⟩ c (annF ⟨P, runK P told fns frs fuel deep n⟩ fuel deep c) (Q32 fn.ntmps []) (finK P fn.results.toList tout K) = K y) : Qb P f (Qn [] tout fun _ => some y) :=
 Qs (C := ⟨P, runK P told fns frs fuel deep n⟩) (Q5L ht hmix hfns n) hmix (tin := []) (tout := tout) (fun _ K => K y) hf hb hn (Q22 (C := ⟨P, runK P told fns frs fuel deep n⟩) (Q5L ht hmix hfns n) hmix fuel deep c 0) (fun _ K => hr K)
end Go.Am
namespace Go.Am
open Go
structure MemE where
 args : List AVal
 H : Heap
 vs : List AVal
 Hc : Heap
def Q7X (P : Program) (fn : Func) (c : Code) (e : MemE) : Prop :=
 ∃ ex st', Goes e.H.length P c ⟨e.args ++ List.replicate (fn.ntmps - e.args.length) .undef, e.H⟩ ex st' ∧ Q1Z P st' fn.results.toList = some e.vs ∧ (ex = .ret ∨ ex = .normal) ∧ st'.H = e.Hc ∧ e.H.length ≤ e.Hc.length
def QdD (C : Ctx) (fn : Func) (c : Code) (ann : Ann) (fz : Bool) (e : MemE) : Option Unit :=
 evC C c ann ⟨e.args ++ List.replicate (fn.ntmps - e.args.length) .undef, e.H⟩
  fun ex st => match (cond fz (Q5M fn.results.toList st) (some st)) with
   | some st1 => (match Qbm e.H.length fn.results.toList st1 with
    | some st2 => (finI C.P fn.results.toList fun vs Hc => cond (eqL eqAV vs e.vs && eqHp Hc e.Hc) (some ()) none) ex st2
    | none => none)
   | none => none
theorem Q43 {C : Ctx} (hΓ : ∀ f, Qb C.P f (C.Γ f)) (hmix : C.P.follows .mixedOrders = true) {fn : Func} {c : Code} {ann : Ann} {fz : Bool} {e : MemE} (hA : ∀ np, Q3 np C.P c ann) (h : QdD C fn c ann fz e = some ()) : Q7X C.P fn c e := by
 obtain ⟨ex, st', h2, h3⟩ := Q1u hΓ hmix c ann _ _ _ (hA e.H.length) h
 split at h2
 case h_2 => cases h2
 rename_i st1 hst1
 split at h2
 case h_2 => cases h2
 rename_i st2 hst2
 have g1 : Q1a e.H.length st' st1 := by
  cases fz with
  | true => exact Q4I hst1
  | false => cases hst1; exact .refl _ _
 obtain ⟨g2, hlen⟩ := Qa8 hst2
 obtain ⟨vs, hvs, he, hk⟩ := Q4a h2
 rw [Bool.cond_eq_ite] at hk
 split at hk
 case isFalse => cases hk
 rename_i hc
 rw [Bool.and_eq_true] at hc
 have e1 := Q2g (fun _ _ => Q6K) hc.1
 have e2 := Q4Y hc.2
 exact ⟨ex, st2, (h3.after g1).after g2, by rw [hvs, e1], he, e2, by rw [← e2]; exact hlen⟩
def Q5H (e : MemE) (b : Qj) : Qj :=
 ⟨fun as H k =>
  let kp := Q1S H as
  let keep := kp.1 ++ kp.2
  cond (Q1V keep && (Q2z H keep && (eqL eqAV (as.map fun a => (renA keep a).getD .undef) e.args && (eqHp (keep.map fun i => (H.getD i none).bind (renA keep)) e.H && Q2n e.vs))))
   (k (resL (e.vs.map (renF (Q1c keep keep.length H.length)))) (Q1A keep (renH (Q1c keep keep.length H.length) e.Hc) H ++ renH (Q1c keep keep.length H.length) (e.Hc.drop keep.length)) (.touch H.length keep))
   (b.f as H k)⟩
theorem Q7P {P : Program} {f : Nat} {fn : Func} {c : Code} {e : MemE} {b : Qj} (hf : P.funcs[f]? = some fn) (hb : fn.body = some c) (hn : (fn.name == "runtime.NumGoroutine") = false) (he : Q7X P fn c e) (hs : Qb P f b) : Qb P f (Q5H e b) := by
 intro ρ args H k r h
 simp only [Q5H] at h
 generalize hkeep : (Q1S H args).1 ++ (Q1S H args).2 = keep at h
 rw [Bool.cond_eq_ite] at h
 split at h
 case isFalse => exact hs _ _ _ _ h
 rename_i hchk
 simp only [Bool.and_eq_true] at hchk
 obtain ⟨hnd, hlive, ha, hH, hnt⟩ := hchk
 have ha := Q2g (fun _ _ => Q6K) ha
 have hH := Q4Y hH
 obtain ⟨ex, st', hg, hvs, hex, hHc, hlen⟩ := he
 have hl : e.H.length = keep.length := by rw [← hH]; simp
 have hla : e.args.length = args.length := by rw [← ha]; simp
 refine ⟨_, _, _, h, ?_, ?_⟩
 ·intro i hi hni
  rw [List.getElem?_append_left (by rw [Q1w]; exact hi), Q29 hni]
 ·have := Q2S (C := ⟨P, fun _ => Qbs⟩) (args := args) (H := H) hf hb hn hnd hlive (by rw [ha, hH, ← hl, ← hla]; exact hg) hvs hex hnt (by rw [hHc, ← hl]; exact hlen)
  rw [hHc] at this
  exact this
theorem QcL {P : Program} {f : Nat} : Qb P f Qbs := by
 intro ρ args H k r h
 cases h
end Go.Am
