/- A part of a proof: a machine of abstract values that tells what functions of the program compute, and the plain facts on them. -/
import Derived.Test.YtkcoljbmhmbmbaaGreatAm6
import Derived.Laws.IdiomRangeMap
set_option linter.unusedVariables false
set_option linter.unusedSimpArgs false
set_option linter.unnecessarySimpa false
set_option linter.unusedSectionVars false
namespace Go.Am
open Go
def finI {ρ : Type} (P : Program) (rs : List ResultVar) (K : List AVal → Heap → Option ρ) (e : Exit) (st : St) : Option ρ :=
 match e with
 | .ret => (match Q1Z P st rs with | some vs => K vs st.H | none => none)
 | .normal => (match Q1Z P st rs with | some vs => K vs st.H | none => none)
 | _ => none
def Q9c (C : Ctx) (fn : Func) (c : Code) (ann : Ann) : Qj :=
 ⟨fun as H k =>
  let kp := Q1S H as
  let keep := kp.1 ++ kp.2
  cond (Q1V keep && Q2z H keep)
   (evC C c ann ⟨(as.map fun a => (renA keep a).getD .undef) ++ List.replicate (fn.ntmps - as.length) .undef, keep.map fun i => (H.getD i none).bind (renA keep)⟩
    (finI C.P fn.results.toList fun vs Hc =>
     cond (Nat.ble keep.length Hc.length && Q2n vs)
      (k (resL (vs.map (renF (Q1c keep keep.length H.length)))) (Q1A keep (renH (Q1c keep keep.length H.length) Hc) H ++ renH (Q1c keep keep.length H.length) (Hc.drop keep.length)) (.touch H.length keep)) none)) none⟩
theorem Q2S {C : Ctx} {f : Nat} {fn : Func} {c : Code} (hf : C.P.funcs[f]? = some fn) (hb : fn.body = some c) (hn : (fn.name == "runtime.NumGoroutine") = false)
  {args vs : List AVal} {H : Heap} {keep : List Nat} {e : Exit} {st' : St} (hnd : Q1V keep = true) (hlive : Q2z H keep = true)
  (h3 : Goes keep.length C.P c ⟨(args.map fun a => (renA keep a).getD .undef) ++ List.replicate (fn.ntmps - args.length) .undef, keep.map fun i => (H.getD i none).bind (renA keep)⟩ e st')
  (hvs : Q1Z C.P st' fn.results.toList = some vs) (he : e = .ret ∨ e = .normal) (hnt : Q2n vs = true) (hsn : keep.length ≤ st'.H.length) :
  Q1B C.P f args H (resL (vs.map (renF (Q1c keep keep.length H.length)))) (Q1A keep (renH (Q1c keep keep.length H.length) st'.H) H ++ renH (Q1c keep keep.length H.length) (st'.H.drop keep.length)) := by
 intro m μ w us0 rh hv
 refine ⟨_, _, Q1z hf hb hn _ w, .inl ⟨f, _, rfl, ?_⟩⟩
 obtain ⟨hrs1, hpw1⟩ := Q3k (np := 0) (st := ⟨args, H⟩) (keep := keep) (Q39 hnd) rfl rh (Q4w hv)
 have hv1 := Q4E hrs1
 refine calls_of_wp hf hb ?_
 have hstart := Q8v fn.ntmps hv1
 rw [List.length_map] at hstart
 refine h3 m (renM keep μ) w _ _ hpw1.rh hstart fun a' w' m' μ' rs' p => ?_
 obtain ⟨us, h4, h5⟩ := Q5E p.rh rs' hvs
 have P : Q11 keep.length m (renM (keep ++ []) μ) ((keep ++ []).map fun i => ((Q0v [] H).getD i none).bind (renA (keep ++ []))) w m' μ' st'.H w' := by
  rw [List.append_nil]; exact p
 have hlive' : Q2z (Q0v [] H) (keep ++ []) = true := by rw [List.append_nil]; exact hlive
 have hg := Q7B rh rfl hlive' P
 have hP := Q8E rh rfl hsn hlive' P p.ml p.rh.mem (fun _ _ _ _ h => h) (fun b c hc => by
  rcases p.mgrow b c hc with g | g | g
  ·exact .inl g
  ·refine .inr (.inl ?_)
   rw [List.append_nil]; exact g
  ·exact .inr (.inr g)) (fun _ h => h) (fun _ _ _ _ _ _ _ h => h)
 have fin : a'.defers = [] ∧ ∃ v, (results fn a'.tmps).run C.P w' = .ok v w' ∧ Came m μ H w (resL (vs.map (renF (Q1c keep keep.length H.length)))) (Q1A keep (renH (Q1c keep keep.length H.length) st'.H) H ++ renH (Q1c keep keep.length H.length) (st'.H.drop keep.length)) (.returned v) w' := by
  refine ⟨rs'.defers, _, Q2u h4, _, m', _, rfl, Q9J ?_ (Q6C (fun a ha v hv => Q8t hg hv) h5), hP⟩
  intro a ha q e
  rw [List.mem_map] at ha
  obtain ⟨b, hb, rfl⟩ := ha
  obtain ⟨q', hq⟩ := (Q3n b).2.1 ⟨q, e⟩
  exact Q4V hnt b hb q' hq
 rcases he with rfl | rfl <;> exact fin
theorem Q4a {ρ : Type} {P : Program} {rs : List ResultVar} {K : List AVal → Heap → Option ρ} {e : Exit} {st : St} {r : ρ} (h : finI P rs K e st = some r) :
  ∃ vs, Q1Z P st rs = some vs ∧ (e = .ret ∨ e = .normal) ∧ K vs st.H = some r := by
 have go : (match Q1Z P st rs with | some vs => K vs st.H | none => none) = some r → ∃ vs, Q1Z P st rs = some vs ∧ K vs st.H = some r := by
  intro h
  split at h
  ·rename_i vs hvs; exact ⟨vs, hvs, h⟩
  ·cases h
 cases e with
 | ret => obtain ⟨vs, g1, g2⟩ := go h; exact ⟨vs, g1, .inl rfl, g2⟩
 | normal => obtain ⟨vs, g1, g2⟩ := go h; exact ⟨vs, g1, .inr rfl, g2⟩
 | _ => cases h
theorem Qc0 {C : Ctx} (hΓ : ∀ f, Qb C.P f (C.Γ f)) (hmix : C.P.follows .mixedOrders = true) {f : Nat} {fn : Func} {c : Code} {ann : Ann}
  (hf : C.P.funcs[f]? = some fn) (hb : fn.body = some c) (hn : (fn.name == "runtime.NumGoroutine") = false) (hA : ∀ np, Q3 np C.P c ann) : Qb C.P f (Q9c C fn c ann) := by
 intro ρ args H k r h
 simp only [Q9c] at h
 generalize hkeep : (Q1S H args).1 ++ (Q1S H args).2 = keep at h
 rw [Bool.cond_eq_ite] at h
 split at h
 case isFalse => cases h
 rename_i hchk
 simp only [Bool.and_eq_true] at hchk
 obtain ⟨hnd, hlive⟩ := hchk
 obtain ⟨e, st', h2, h3⟩ := Q1u hΓ hmix c ann _ _ _ (hA keep.length) h
 obtain ⟨vs, hvs, he, hk⟩ := Q4a h2
 rw [Bool.cond_eq_ite] at hk
 split at hk
 case isFalse => cases hk
 rename_i hc
 simp only [Bool.and_eq_true] at hc
 refine ⟨_, _, _, hk, ?_, Q2S hf hb hn hnd hlive h3 hvs he hc.2 (Nat.le_of_ble_eq_true hc.1)⟩
 intro i hi hni
 rw [List.getElem?_append_left (by rw [Q1w]; exact hi), Q29 hni]
theorem Q9W {s t : ByteArray} (h : Q3W s t = true) : s = t := by
 unfold Q3W at h
 rw [beq_iff_eq, ByteArray.toList_eq, ByteArray.toList_eq] at h
 cases s; cases t
 congr
 exact Array.toList_inj.1 h
def eqL {α : Type} (f : α → α → Bool) : List α → List α → Bool
 | [], [] => true
 | a :: l, b :: r => f a b && eqL f l r
 | _, _ => false
theorem Q2g {α : Type} {f : α → α → Bool} (hf : ∀ a b, f a b = true → a = b) : ∀ {l r : List α}, eqL f l r = true → l = r
 | [], [], _ => rfl
 | a :: l, b :: r, h => by
  simp only [eqL, Bool.and_eq_true] at h
  rw [hf a b h.1, Q2g hf h.2]
 | [], _ :: _, h | _ :: _, [], h => by cases h
def eqT : (t : Ty) → t.den → t.den → Bool
 | .int _, x, y => x == y
 | .bool, x, y => x == y
 | .str, x, y => Q3W x y
 | .unit, _, _ => true
 | .pair a b, x, y => eqT a x.1 y.1 && eqT b x.2 y.2
 | .arr _ t, x, y => eqL (eqT t) x y
 | .sl t, x, y => eqL (eqT t) x y
theorem Q3O : ∀ {t : Ty} {x y : t.den}, eqT t x y = true → x = y := by
 intro t
 induction t with
 | int k => intro x y h; exact (beq_iff_eq (α := Int)).1 h
 | bool => intro x y h; exact (beq_iff_eq (α := Bool)).1 h
 | str => intro x y h; exact Q9W h
 | unit => intro x y _; rfl
 | pair a b ha hb =>
  intro x y h
  simp only [eqT, Bool.and_eq_true] at h
  exact Prod.ext (ha h.1) (hb h.2)
 | arr n t ih => intro x y h; exact Q2g (fun _ _ => ih) h
 | sl t ih => intro x y h; exact Q2g (fun _ _ => ih) h
def eqN (a b : List Nat) : Bool := eqL Nat.beq a b
theorem QbX {a b : List Nat} (h : eqN a b = true) : a = b := Q2g (fun _ _ => Nat.eq_of_beq_eq_true) h
def eqAV : AVal → AVal → Bool
 | .undef, .undef => true
 | .int k n, .int k' n' => decide (k = k') && n == n'
 | .bool b, .bool b' => b == b'
 | .str s, .str s' => Q3W s s'
 | .nilp, .nilp => true
 | .nils, .nils => true
 | .nilm, .nilm => true
 | .unit, .unit => true
 | .ptr i p, .ptr i' p' => Nat.beq i i' && eqN p p'
 | .vsl i, .vsl i' => Nat.beq i i'
 | .vbs i, .vbs i' => Nat.beq i i'
 | .mp i, .mp i' => Nat.beq i i'
 | .pair a b, .pair a' b' => eqAV a a' && eqAV b b'
 | .vec t xs, .vec t' xs' => if h : t = t' then eqL (eqT t') (h ▸ xs) xs' else false
 | .arr n t xs, .arr n' t' xs' => Nat.beq n n' && if h : t = t' then eqL (eqT t') (h ▸ xs) xs' else false
 | .ros t xs, .ros t' xs' => if h : t = t' then eqL (eqT t') (h ▸ xs) xs' else false
 | .mpc a b xs, .mpc a' b' xs' => if h : a = a' then (if g : b = b' then eqL (fun x y => eqT a' x.1 y.1 && eqT b' x.2 y.2) (h ▸ g ▸ xs) xs' else false) else false
 | _, _ => false
theorem Q6K : ∀ {a b : AVal}, eqAV a b = true → a = b := by
 intro a
 induction a with
 | pair u v hu hv =>
  intro b h
  cases b <;> simp only [eqAV, Bool.and_eq_true] at h <;> try (cases h; done)
  rw [hu h.1, hv h.2]
 | undef => intro b h; cases b <;> first | rfl | cases h
 | nilp => intro b h; cases b <;> first | rfl | cases h
 | nils => intro b h; cases b <;> first | rfl | cases h
 | nilm => intro b h; cases b <;> first | rfl | cases h
 | unit => intro b h; cases b <;> first | rfl | cases h
 | int k n =>
  intro b h
  cases b <;> simp only [eqAV, Bool.and_eq_true, decide_eq_true_eq, beq_iff_eq] at h <;> try (cases h; done)
  rw [h.1, h.2]
 | bool x =>
  intro b h
  cases b <;> simp only [eqAV, beq_iff_eq] at h <;> try (cases h; done)
  rw [h]
 | str x =>
  intro b h
  cases b <;> simp only [eqAV] at h <;> try (cases h; done)
  rw [Q9W h]
 | ptr i p =>
  intro b h
  cases b <;> simp only [eqAV, Bool.and_eq_true] at h <;> try (cases h; done)
  rw [Nat.eq_of_beq_eq_true h.1, QbX h.2]
 | vsl i =>
  intro b h
  cases b <;> simp only [eqAV] at h <;> try (cases h; done)
  rw [Nat.eq_of_beq_eq_true h]
 | vbs i =>
  intro b h
  cases b <;> simp only [eqAV] at h <;> try (cases h; done)
  rw [Nat.eq_of_beq_eq_true h]
 | mp i =>
  intro b h
  cases b <;> simp only [eqAV] at h <;> try (cases h; done)
  rw [Nat.eq_of_beq_eq_true h]
 | vec t xs =>
  intro b h
  cases b <;> simp only [eqAV] at h <;> try (cases h; done)
  split at h
  ·rename_i xs' e; subst e; have h : xs = xs' := Q2g (fun _ _ => Q3O) h; rw [h]
  ·cases h
 | ros t xs =>
  intro b h
  cases b <;> simp only [eqAV] at h <;> try (cases h; done)
  split at h
  ·rename_i xs' e; subst e; have h : xs = xs' := Q2g (fun _ _ => Q3O) h; rw [h]
  ·cases h
 | arr n t xs =>
  intro b h
  cases b <;> simp only [eqAV, Bool.and_eq_true] at h <;> try (cases h; done)
  obtain ⟨h1, h⟩ := h
  split at h
  ·rename_i xs' e; subst e; have h : xs = xs' := Q2g (fun _ _ => Q3O) h; rw [Nat.eq_of_beq_eq_true h1, h]
  ·cases h
 | mpc u v xs =>
  intro b h
  cases b <;> simp only [eqAV] at h <;> try (cases h; done)
  rename_i u' v' xs'
  split at h
  ·rename_i e
   split at h
   ·rename_i e'
    subst e; subst e'
    have h : xs = xs' := Q2g (f := fun (x y : Ty.den u × Ty.den v) => eqT u x.1 y.1 && eqT v x.2 y.2) (fun a b hab => by
     rw [Bool.and_eq_true] at hab
     exact Prod.ext (Q3O hab.1) (Q3O hab.2)) h
    rw [h]
   ·cases h
  ·cases h
 | _ => intro b h; cases b <;> cases h
def eqHp : Heap → Heap → Bool
 | [], [] => true
 | some a :: l, some b :: r => eqAV a b && eqHp l r
 | _, _ => false
theorem Q4Y : ∀ {l r : Heap}, eqHp l r = true → l = r
 | [], [], _ => rfl
 | some a :: l, some b :: r, h => by
  simp only [eqHp, Bool.and_eq_true] at h
  rw [Q6K h.1, Q4Y h.2]
 | [], some _ :: _, h | [], none :: _, h | some _ :: _, [], h | none :: _, [], h | none :: _, none :: _, h | none :: _, some _ :: _, h | some _ :: _, none :: _, h => by cases h
theorem QcB {n p : Nat} (h : p < n) : Q1F p 0 (List.range n) = some p := by
 have key : ∀ (k s : Nat), s ≤ p → p < s + k → Q1F p s (List.range' s k) = some p := by
  intro k
  induction k with
  | zero => intro s h1 h2; omega
  | succ k ih =>
   intro s h1 h2
   rw [List.range'_succ]
   simp only [Q1F]
   by_cases hs : p = s
   ·subst hs; rw [if_pos rfl]
   ·rw [if_neg hs]
    exact ih (s + 1) (by omega) (by omega)
 rw [List.range_eq_range']
 exact key n 0 (Nat.zero_le _) (by omega)
theorem Came.forget {m : Mem} {μ : LMap} {H X : Heap} {w w' : World} {v : AVal} {e : Ending} (rh : RH m μ H w) (hv : idsA v = []) (hr1 : Q1R (List.range H.length) = true) (hr2 : Q2X (List.range H.length) H.length = true) (h : Came m μ H w v (H ++ X) e w') : Came m μ H w v H e w' := by
 obtain ⟨u, m', μ', rfl, h1, p⟩ := h
 obtain ⟨_, q⟩ := Q3k (np := H.length) (st := ⟨[], H ++ X⟩) hr1 hr2 (a := ⟨#[], []⟩) p.rh ⟨rfl, rfl, fun i x hx => by simp at hx⟩
 have hHe : (List.range H.length).map (fun i => ((H ++ X).getD i none).bind (renA (List.range H.length))) = H := by
  apply List.ext_getElem?
  intro i
  rw [List.getElem?_map]
  rcases Nat.lt_or_ge i H.length with hi | hi
  ·rw [List.getElem?_range hi, Option.map_some, List.getD_eq_getElem?_getD, List.getElem?_append_left hi]
   cases hq : H[i]? with
   | none => rw [List.getElem?_eq_none_iff] at hq; omega
   | some o =>
    cases o with
    | none => rfl
    | some a =>
     obtain ⟨l, hb⟩ := rh.blk i a hq
     have hids : ∀ p, p ∈ idsA a → p < H.length := by
      intro p hp
      have : ∃ l, μ p = some l := by
       rcases hb.cells with ⟨_, _, _, g⟩ | ⟨_, _, cs, E, fz, _, _, _, _, g⟩
       ·exact g.named p hp
       ·exact g.named p hp
      obtain ⟨l', hl'⟩ := this
      rcases Nat.lt_or_ge p H.length with h | h
      ·exact h
      ·rw [rh.dom p h] at hl'; cases hl'
     simp only [Option.getD_some, Option.bind_some]
     rw [Q2x fun p hp => QcB (hids p hp)]
  ·rw [List.getElem?_eq_none (by simpa using hi), List.getElem?_eq_none hi]; rfl
 have q' : Q11 H.length m' μ' (H ++ X) w' m' (renM (List.range H.length) μ') H w' := by
  have := q
  rw [hHe] at this
  exact this
 have hren : ∀ i, i < H.length → renM (List.range H.length) μ' i = μ' i := fun i hi => by simp [renM, hi]
 refine ⟨u, m', renM (List.range H.length) μ', rfl, Q6n (Q2x fun p hp => by rw [hv] at hp; simp at hp) h1, ⟨q'.rh, p.ml, fun i l hl => ?_, p.os, p.tape, p.output, p.size, p.keep, fun b ho hb => p.grow b (q'.grow b ho (Nat.lt_of_lt_of_le hb p.size)) hb, p.mgrow, ⟨Nat.le_refl _, fun i hi hn => ?_⟩⟩⟩
 ·have hi : i < H.length := by
   rcases Nat.lt_or_ge i H.length with h | h
   ·exact h
   ·rw [rh.dom i h] at hl; cases hl
  rw [hren i hi]; exact p.μl i l hl
 ·rw [hren i hi]; exact p.hol.2 i hi hn
theorem Q1B.forget {P : Program} {f : Nat} {args : List AVal} {H X : Heap} {v : AVal} (hv : idsA v = []) (h : Q1B P f args H v (H ++ X)) : Q1B P f args H v H := by
 have hr1 : ∀ n, Q1R (List.range n) = true := by
  intro n
  have key : ∀ (k s : Nat), Q1R (List.range' s k) = true := by
   intro k
   induction k with
   | zero => intro s; rfl
   | succ k ih =>
    intro s
    rw [List.range'_succ]
    simp only [Q1R, Bool.and_eq_true, List.all_eq_true, bne_iff_ne]
    refine ⟨fun b hb => ?_, ih _⟩
    have := (List.mem_range'_1.1 hb).1
    omega
  rw [List.range_eq_range']; exact key n 0
 have hr2 : ∀ n, Q2X (List.range n) n = true := by
  intro n
  have key : ∀ k, k ≤ n → Q2X (List.range n) k = true := by
   intro k
   induction k with
   | zero => intro _; rfl
   | succ k ih =>
    intro hk
    simp only [Q2X, Bool.and_eq_true, beq_iff_eq]
    exact ⟨ih (by omega), List.getElem?_range (by omega)⟩
  exact key n (Nat.le_refl _)
 intro m μ w vs rh hvs
 obtain ⟨nx, w1, h1, h2⟩ := h m μ w vs rh hvs
 refine ⟨nx, w1, h1, ?_⟩
 rcases h2 with ⟨g, as, e1, e2⟩ | ⟨u, e1, e2⟩
 ·exact .inl ⟨g, as, e1, e2.mono fun e w' hc => hc.forget rh hv (hr1 _) (hr2 _)⟩
 ·exact .inr ⟨u, e1, e2.forget rh hv (hr1 _) (hr2 _)⟩
def Q9m (C : Ctx) (fn : Func) (c : Code) (ann : Ann) : Qj :=
 ⟨fun as H k =>
  let kp := Q1S H as
  let keep := kp.1 ++ kp.2
  let H0 : Heap := keep.map fun i => (H.getD i none).bind (renA keep)
  cond (Q1V keep && Q2z H keep)
   (evC C c ann ⟨(as.map fun a => (renA keep a).getD .undef) ++ List.replicate (fn.ntmps - as.length) .undef, H0⟩
    (finI C.P fn.results.toList fun vs Hc =>
     cond (eqHp (Hc.take keep.length) H0 && Q2n vs && (idsL vs).isEmpty && (idsA (resL vs)).isEmpty && Nat.ble keep.length Hc.length) (k (resL vs) H (.read keep)) none)) none⟩
theorem Qcc {C : Ctx} (hΓ : ∀ f, Qb C.P f (C.Γ f)) (hmix : C.P.follows .mixedOrders = true) {f : Nat} {fn : Func} {c : Code} {ann : Ann}
  (hf : C.P.funcs[f]? = some fn) (hb : fn.body = some c) (hn : (fn.name == "runtime.NumGoroutine") = false) (hA : ∀ np, Q3 np C.P c ann) : Qb C.P f (Q9m C fn c ann) := by
 intro ρ args H k r h
 simp only [Q9m] at h
 generalize hkeep : (Q1S H args).1 ++ (Q1S H args).2 = keep at h
 rw [Bool.cond_eq_ite] at h
 split at h
 case isFalse => cases h
 rename_i hchk
 simp only [Bool.and_eq_true] at hchk
 obtain ⟨hnd, hlive⟩ := hchk
 obtain ⟨e, st', h2, h3⟩ := Q1u hΓ hmix c ann _ _ _ (hA keep.length) h
 obtain ⟨vs, hvs, he, hk⟩ := Q4a h2
 rw [Bool.cond_eq_ite] at hk
 split at hk
 case isFalse => cases hk
 rename_i hc
 simp only [Bool.and_eq_true, List.isEmpty_iff] at hc
 obtain ⟨⟨⟨⟨hH, hnt⟩, hids⟩, hidr⟩, hlen⟩ := hc
 have hlen := Nat.le_of_ble_eq_true hlen
 have hHb := hH
 have hH := Q4Y hH
 refine ⟨_, _, _, hk, rfl, fun H2 hag => ?_⟩
 have hB : (keep.map fun i => (H2.getD i none).bind (renA keep)) = keep.map fun i => (H.getD i none).bind (renA keep) := by
  apply List.map_congr_left
  intro i hi
  rw [List.getD_eq_getElem?_getD, List.getD_eq_getElem?_getD, hag i hi]
 have hl2 : Q2z H2 keep = true := by rw [Q3H hag]; exact hlive
 have := Q2S (args := args) hf hb hn hnd hl2 (by rw [hB]; exact h3) hvs he hnt hlen
 rw [Q3w hids] at this
 have e3 : Q1A keep (renH (Q1c keep keep.length H2.length) st'.H) H2 = H2 := by
  apply Q4q
  intro j i hj
  have hjk : j < keep.length := (List.getElem?_eq_some_iff.1 hj).1
  have hst : st'.H[j]? = (st'.H.take keep.length)[j]? := by rw [List.getElem?_take, if_pos hjk]
  rw [Q3g, hst, hH, List.getElem?_map, hj]
  have hi : i ∈ keep := List.mem_of_getElem? hj
  obtain ⟨a, ha⟩ := Q3v hlive i hi
  rw [hag i hi, ha]
  have hne : (keep.map fun i => (H.getD i none).bind (renA keep))[j]? ≠ some none := by
   have noNone : ∀ {l r : Heap}, eqHp l r = true → ∀ j : Nat, r[j]? ≠ some none := by
    intro l
    induction l with
    | nil => intro r h j; cases r with
     | nil => simp
     | cons a r => cases a <;> cases h
    | cons a l ih =>
     intro r h j
     cases r with
     | nil => simp
     | cons b r =>
      cases a <;> cases b <;> simp only [eqHp, Bool.and_eq_true] at h <;> try (cases h; done)
      cases j with
      | zero => simp
      | succ j => simpa using ih h.2 j
   exact noNone hHb j
  rw [List.getElem?_map, hj] at hne
  simp only [Option.map_some, List.getD_eq_getElem?_getD, ha, Option.getD_some, Option.bind_some] at hne ⊢
  cases hr : renA keep a with
  | none => rw [hr] at hne; exact absurd rfl hne
  | some a' =>
   have := Q8z (n := H2.length) hr
   simp only [Option.map_some, this]
 rw [e3] at this
 exact this.forget hidr
def Q6B (C : Ctx) (c : Code) (ann : Ann) : Nat → Q2T
 | 0 => Qda
 | n + 1 => ⟨fun st K => evC C c ann st fun e st' => match e with
  | .normal => (Q6B C c ann n).f st' K
  | e => K e st'⟩
inductive Q8H (np : Nat) (P : Program) (c : Code) : Nat → St → Exit → St → Prop
 | out {j st e s} : e ≠ .normal → Goes np P c st e s → Q8H np P c (j + 1) st e s
 | step {j st s1 e s} : Goes np P c st .normal s1 → Q8H np P c j s1 e s → Q8H np P c (j + 1) st e s
theorem Qb4 {np : Nat} {P : Program} {c : Code} {n : Nat} {st : St} {e : Exit} {s : St} (h : Q8H np P c n st e s) : Goes np P (.loop c) st e s := by
 intro m μ w a Q rh rs hQ
 refine Q1U (fun j a' w' => ∃ st1 m1 μ1, Q8H np P c j st1 e s ∧ RS m1 μ1 st1.sl a' ∧ Q11 np m μ st.H w m1 μ1 st1.H w') ?_ ?_ (n := n) ⟨st, m, μ, h, rs, (Post.refl rh).toW⟩
 ·rintro a w ⟨_, _, _, h, _⟩; cases h
 ·rintro j a1 w1 ⟨st1, m1, μ1, h1, rs1, p1⟩
  cases h1 with
  | out hne hg =>
   refine hg m1 μ1 w1 a1 _ p1.rh rs1 fun a2 w2 m2 μ2 rs2 p2 => ?_
   have := hQ a2 w2 m2 μ2 rs2 (p1.trans p2)
   cases e <;> first | exact absurd rfl hne | exact this
  | step hg hc =>
   refine hg m1 μ1 w1 a1 _ p1.rh rs1 fun a2 w2 m2 μ2 rs2 p2 => ?_
   exact ⟨_, m2, μ2, hc, rs2, p1.trans p2⟩
theorem Qcv {np : Nat} {C : Ctx} (hΓ : ∀ f, Qb C.P f (C.Γ f)) (hmix : C.P.follows .mixedOrders = true) {c : Code} {ann : Ann} (hA : Q3 np C.P c ann) (n : Nat) : StOK np C.P (.loop c) (Q6B C c ann n) := by
 intro ρ st K r h
 have key : ∀ (n : Nat) (st : St), (Q6B C c ann n).f st K = some r → ∃ e s, K e s = some r ∧ Q8H np C.P c n st e s := by
  intro n
  induction n with
  | zero => intro st h; cases h
  | succ n ih =>
   intro st h
   simp only [Q6B] at h
   obtain ⟨e, s, h1, h2⟩ := Q1u hΓ hmix c ann _ _ _ hA h
   cases e with
   | normal =>
    obtain ⟨e', s', h3, h4⟩ := ih s h1
    exact ⟨e', s', h3, .step h2 h4⟩
   | _ => exact ⟨_, _, h1, .out (by simp) h2⟩
 obtain ⟨e, s, h1, h2⟩ := key n st h
 exact ⟨e, s, h1, Qb4 h2⟩
def annR (C : Ctx) (fuel : Nat) : Code → Ann
 | .seq a b => .node [] none (annR C fuel a) (annR C fuel b)
 | .cond _ a b => .node [] none (annR C fuel a) (annR C fuel b)
 | .block _ a => .node [] none (annR C fuel a) .nil
 | .loop a => .node [] (some (Q6B C a (annR C fuel a) fuel)) .nil .nil
 | _ => .nil
theorem Q9o {C : Ctx} (hΓ : ∀ f, Qb C.P f (C.Γ f)) (hmix : C.P.follows .mixedOrders = true) (fuel np : Nat) : ∀ c, Q3 np C.P c (annR C fuel c) := by
 intro c
 induction c with
 | seq a b ha hb => exact ⟨rfl, ha, hb⟩
 | cond v a b ha hb => exact ⟨rfl, ha, hb⟩
 | block i a ha => exact ⟨rfl, ha⟩
 | loop a ha => exact ⟨rfl, Qcv hΓ hmix ha fuel⟩
 | _ => trivial
def Q8A : List (Nat × Func) → Nat → Option Func
 | [], _ => none
 | (i, fn) :: l, f => cond (Nat.beq f i) (some fn) (Q8A l f)
def Q3s (P : Program) (l : List (Nat × Func)) : Prop := ∀ f fn, Q8A l f = some fn → P.funcs[f]? = some fn ∧ (fn.name == "runtime.NumGoroutine") = false
theorem Q3s.nil {P : Program} : Q3s P [] := fun _ _ h => by cases h
theorem Q3s.cons {P : Program} {i : Nat} {fn : Func} {l : List (Nat × Func)} (h1 : P.funcs[i]? = some fn) (h2 : (fn.name == "runtime.NumGoroutine") = false) (h3 : Q3s P l) : Q3s P ((i, fn) :: l) := by
 intro f fn' h
 simp only [Q8A] at h
 cases hb : Nat.beq f i with
 | true =>
  rw [hb] at h
  have := Nat.eq_of_beq_eq_true hb
  subst this
  cases h
  exact ⟨h1, h2⟩
 | false => rw [hb] at h; exact h3 f fn' h
def runG (P : Program) (told : List (Nat × Qj)) (fns : List (Nat × Func)) (rds : List Nat) (fuel : Nat) : Nat → Nat → Qj
 | 0, f => gam told f
 | n + 1, f => match Q8A fns f with
  | some fn => (match fn.body with
   | some c => cond (inB f rds) (Q9m ⟨P, runG P told fns rds fuel n⟩ fn c (annR ⟨P, runG P told fns rds fuel n⟩ fuel c)) (Q9c ⟨P, runG P told fns rds fuel n⟩ fn c (annR ⟨P, runG P told fns rds fuel n⟩ fuel c))
   | none => gam told f)
  | none => gam told f
theorem Q54 {P : Program} {told : List (Nat × Qj)} {fns : List (Nat × Func)} {rds : List Nat} {fuel : Nat} (ht : ∀ f, Qb P f (gam told f)) (hmix : P.follows .mixedOrders = true) (hfns : Q3s P fns) : ∀ n f, Qb P f (runG P told fns rds fuel n f)
 | 0, f => ht f
 | n + 1, f => by
  simp only [runG]
  split
  ·rename_i fn hf
   obtain ⟨h1, h2⟩ := hfns f fn hf
   split
   ·rename_i c hc
    cases inB f rds with
    | true => exact Qcc (C := ⟨P, runG P told fns rds fuel n⟩) (Q54 ht hmix hfns n) hmix h1 hc h2 (fun np => Q9o (C := ⟨P, runG P told fns rds fuel n⟩) (Q54 ht hmix hfns n) hmix fuel np c)
    | false =>
    exact Qc0 (C := ⟨P, runG P told fns rds fuel n⟩) (Q54 ht hmix hfns n) hmix h1 hc h2 (fun np => Q9o (C := ⟨P, runG P told fns rds fuel n⟩) (Q54 ht hmix hfns n) hmix fuel np c)
   ·exact ht f
  ·exact ht f
theorem QdR {P : Program} {told : List (Nat × Qj)} {fns : List (Nat × Func)} {rds : List Nat} {fuel n : Nat} (ht : ∀ f, Qb P f (gam told f)) (hmix : P.follows .mixedOrders = true) (hfns : Q3s P fns) {f : Nat} {fn : Func} {c : Code} {tout : List Ty} {y : dens tout}
  (hf : P.funcs[f]? = some fn) (hb : fn.body = some c) (hn : (fn.name == "runtime.NumGoroutine") = false)
  (hr : ∀ {ρ : Type} (K : dens tout → Option ρ), evC ⟨P, runG P told fns rds fuel n⟩ c (annR ⟨P, runG P told fns rds fuel n⟩ fuel c) (Q32 fn.ntmps []) (finK P fn.results.toList tout K) = K y) : Qb P f (Qn [] tout fun _ => some y) :=
 Qs (C := ⟨P, runG P told fns rds fuel n⟩) (Q54 ht hmix hfns n) hmix (tin := []) (tout := tout) (fun _ K => K y) hf hb hn (Q9o (C := ⟨P, runG P told fns rds fuel n⟩) (Q54 ht hmix hfns n) hmix fuel 0 c) (fun _ K => hr K)
end Go.Am
namespace Go.Am
open Go
def eqDs : (ts : List Ty) → dens ts → dens ts → Bool
 | [], _, _ => true
 | t :: ts, x, y => eqT t x.1 y.1 && eqDs ts x.2 y.2
theorem Q8J : ∀ {ts : List Ty} {x y : dens ts}, eqDs ts x y = true → x = y
 | [], _, _, _ => rfl
 | t :: ts, x, y, h => by
  simp only [eqDs, Bool.and_eq_true] at h
  exact Prod.ext (Q3O h.1) (Q8J h.2)
def Q1Q (tin tout : List Ty) (x0 : dens tin) (y0 : dens tout) (J : dens tin → Option (dens tout)) (x : dens tin) : Option (dens tout) :=
 bif eqDs tin x x0 then some y0 else J x
theorem Q1s {P : Program} {f : Nat} {tin tout : List Ty} {x0 : dens tin} {y0 : dens tout} {J : dens tin → Option (dens tout)} (h : J x0 = some y0) (hs : Qb P f (Qn tin tout J)) :
  Qb P f (Qn tin tout (Q1Q tin tout x0 y0 J)) := by
 have e : Q1Q tin tout x0 y0 J = J := by
  funext x
  unfold Q1Q
  cases hb : eqDs tin x x0 with
  | true => rw [Q8J hb, h]; rfl
  | false => rfl
 rw [e]; exact @hs
end Go.Am
namespace Go.Am
open Go
theorem RH.itNew {m : Mem} {μ : LMap} {H : Heap} {w : World} (h : RH m μ H w) (o : Obj) :
  Post m μ H w m (fun i => if i = H.length then some ⟨w.heap.size, 0, .unit, 0, 0, false⟩ else μ i) (H ++ [some .unit]) { w with heap := w.heap.push o } := by
 have hdom : μ H.length = none := h.dom _ (Nat.le_refl _)
 have hμ : μ.le (fun j => if j = H.length then some ⟨w.heap.size, 0, .unit, 0, 0, false⟩ else μ j) := by
  intro j l' hl'
  show (if j = H.length then _ else μ j) = some l'
  rw [if_neg (fun e => by subst e; rw [hdom] at hl'; cases hl')]; exact hl'
 have hpush : ∀ b, b < w.heap.size → (w.heap.push o)[b]? = w.heap[b]? := fun b hb => by rw [Array.getElem?_push, if_neg (by omega)]
 have hnew : (w.heap.push o)[w.heap.size]? = some o := by rw [Array.getElem?_push, if_pos rfl]
 refine ⟨⟨?_, ?_, ?_, ?_, ?_, ?_, ?_, ?_⟩, Mem.le_refl _, hμ, rfl, rfl, rfl, by show w.heap.size ≤ (w.heap.push _).size; simp, fun b hb _ => hpush b hb, ?_, fun _ _ h => .inl h, ⟨by simp, fun i hi h => by show (if i = H.length then _ else μ i) = none; rw [if_neg (by omega)]; exact h⟩⟩
 ·intro b cs hb
  obtain ⟨E, fz, h1⟩ := h.mem b cs hb
  exact ⟨E, fz, (hpush b (Q0Q h1)).trans h1⟩
 ·intro j x hj
  rcases Q0z hj with ⟨h1, h2⟩ | ⟨h1, h2⟩
  ·subst h1; subst h2
   exact ⟨⟨w.heap.size, 0, .unit, 0, 0, false⟩, by simp, rfl, .inl ⟨rfl, rfl, rfl, rfl⟩⟩
  ·obtain ⟨lj, hbj⟩ := h.blk j x h2
   refine ⟨lj, hμ _ _ hbj.loc, hbj.sh, ?_⟩
   rcases hbj.cells with ⟨p1, p2, p3, p4⟩ | ⟨p0, q1, c, E1, fz1, q2, q3⟩
   ·exact .inl ⟨p1, p2, p3, p4.mono (Mem.le_refl m) hμ⟩
   ·exact .inr ⟨p0, q1, c, E1, fz1, (hpush lj.b (Q0Q q2)).trans q2, q3.1, q3.2.1, q3.2.2.1, q3.2.2.2.mono (Mem.le_refl m) hμ⟩
 ·intro j k x y lj lk hj hk hlj hlk z1 z2 he
  rcases Q0z hj with ⟨h1, h2⟩ | ⟨h1, h2⟩
  ·subst h1
   simp only [if_true, Option.some.injEq] at hlj
   subst hlj; simp at z1
  ·rcases Q0z hk with ⟨h4, h5⟩ | ⟨h4, h5⟩
   ·subst h4
    simp only [if_true, Option.some.injEq] at hlk
    subst hlk; simp at z2
   ·have hlj : μ j = some lj := by simpa [Nat.ne_of_lt h1] using hlj
    have hlk : μ k = some lk := by simpa [Nat.ne_of_lt h4] using hlk
    exact h.inj j k x y lj lk h2 h5 hlj hlk z1 z2 he
 ·intro j hj
  simp only [List.length_append, List.length_cons, List.length_nil] at hj
  show (if j = H.length then _ else μ j) = none
  rw [if_neg (by omega)]; exact h.dom j (by omega)
 ·intro j x lj hj hlj hz
  rcases Q0z hj with ⟨h1, h2⟩ | ⟨h1, h2⟩
  ·subst h1
   simp only [if_true, Option.some.injEq] at hlj
   subst hlj; simp at hz
  ·have hlj : μ j = some lj := by simpa [Nat.ne_of_lt h1] using hlj
   obtain ⟨cs1, fz1, k1⟩ := h.typ j x lj h2 hlj hz
   exact ⟨cs1, fz1, (hpush lj.b (Q0Q k1)).trans k1⟩
 ·intro j x lj hj hx hlj hz
  rcases Q0z hj with ⟨h1, h2⟩ | ⟨h1, h2⟩
  ·subst h1
   simp only [if_true, Option.some.injEq] at hlj
   subst hlj; simp at hz
  ·have hlj : μ j = some lj := by simpa [Nat.ne_of_lt h1] using hlj
   exact h.vb j x lj h2 hx hlj hz
 ·intro j x lj hj hlj hpz
  rcases Q0z hj with ⟨h1, h2⟩ | ⟨h1, h2⟩
  ·subst h1; subst h2
   simp only [if_true, Option.some.injEq] at hlj
   subst hlj
   simp at hpz
  ·have hlj : μ j = some lj := by simpa [Nat.ne_of_lt h1] using hlj
   obtain ⟨h0, kt', vt', xs, es, c, e1, e2, e3⟩ := h.mp j x lj h2 hlj hpz
   exact ⟨h0, kt', vt', xs, es, c, e1, (hpush lj.b (Q0Q e2)).trans e2, e3⟩
 ·have old : ∀ {k : Nat} {y : AVal} {lk : Loc}, k < H.length → H[k]? = some (some y) → μ k = some lk → lk.mp = true → lk.b < w.heap.size := by
   intro k y lk _ h2 hlk pk
   obtain ⟨_, _, _, _, es, c, _, e2, _⟩ := h.mp k y lk h2 hlk pk
   exact Q0Q e2
  intro j k x y lj lk hj hk pj pk hlj hlk he
  rcases Q0z hj with ⟨h1, h2⟩ | ⟨h1, h2⟩
  ·rcases Q0z hk with ⟨h4, h5⟩ | ⟨h4, h5⟩
   ·omega
   ·subst h1
    simp only [if_true, Option.some.injEq] at hlj
    have hlk : μ k = some lk := by simpa [Nat.ne_of_lt h4] using hlk
    have := old h4 h5 hlk pk
    subst hlj; simp only at he; omega
  ·rcases Q0z hk with ⟨h4, h5⟩ | ⟨h4, h5⟩
   ·subst h4
    simp only [if_true, Option.some.injEq] at hlk
    have hlj : μ j = some lj := by simpa [Nat.ne_of_lt h1] using hlj
    have := old h1 h2 hlj pj
    subst hlk; simp only at he; omega
   ·have hlj : μ j = some lj := by simpa [Nat.ne_of_lt h1] using hlj
    have hlk : μ k = some lk := by simpa [Nat.ne_of_lt h4] using hlk
    exact h.mpi j k x y lj lk h2 h5 pj pk hlj hlk he
 ·rintro b' ⟨j, x, lj, hj, hlj, q, he⟩ hb
  rcases Q0z hj with ⟨h1, h2⟩ | ⟨h1, h2⟩
  ·subst h1
   simp only [if_true, Option.some.injEq] at hlj
   subst hlj; simp only at he; omega
  ·have hlj : μ j = some lj := by simpa [Nat.ne_of_lt h1] using hlj
   exact ⟨j, x, lj, h2, hlj, q, he⟩
theorem Q5c {np : Nat} {m1 m5 : Mem} {μ1 μ5 : LMap} {H1 H5 : Heap} {w1 w5 : World} {mid : Nat} {kt vt : Ty} {xs : List (kt.den × vt.den)} {lm : Loc} (rh : RH m1 μ1 H1 w1) (hi : H1[mid]? = some (some (.mpc kt vt xs)))
  (hl : μ1 mid = some lm) (hp : lm.mp = true) (hmid : mid < np) (h : Q11 np m1 μ1 (H1.set mid none) w1 m5 μ5 H5 w5) :
  (w5.heap[lm.b]? = w1.heap[lm.b]?) ∧ Q11 np m1 μ1 H1 w1 m5 μ5 (H5.set mid (some (.mpc kt vt xs))) w5 := by
 obtain ⟨h0, kt', vt', xs', es, c, e, hw, hm⟩ := rh.mp mid _ lm hi hl hp
 cases e
 have hlt : lm.b < w1.heap.size := Q0Q hw
 have nown : ¬ Q1q μ1 (H1.set mid none) lm.b := by
  rintro ⟨j, x, lj, hj, hlj, q, he⟩
  by_cases hjm : j = mid
  ·subst hjm
   rw [List.getElem?_set_self (List.getElem?_eq_some_iff.1 hi).1] at hj
   cases hj
  ·rw [List.getElem?_set_ne (Ne.symm hjm)] at hj
   exact hjm (Q61 rh hj hi hlj hl q (.inr hp) he)
 have hkeep := h.keep lm.b hlt nown
 have hμ5 : μ5 mid = some lm := h.fix mid lm hmid hl
 have hlen : mid < H5.length := by
  rcases Nat.lt_or_ge mid H5.length with g | g
  ·exact g
  ·rw [h.rh.dom mid g] at hμ5; cases hμ5
 have nown5 : ¬ Q1q μ5 H5 lm.b := fun ho => nown (h.grow _ ho hlt)
 have look : ∀ {j : Nat} {x : AVal}, (H5.set mid (some (.mpc kt vt xs)))[j]? = some (some x) → (j = mid ∧ x = .mpc kt vt xs) ∨ (j ≠ mid ∧ H5[j]? = some (some x)) := by
  intro j x hj
  by_cases hji : j = mid
  ·subst hji; rw [List.getElem?_set_self hlen] at hj; exact .inl ⟨rfl, (Option.some.inj (Option.some.inj hj)).symm⟩
  ·rw [List.getElem?_set_ne (Ne.symm hji)] at hj; exact .inr ⟨hji, hj⟩
 obtain ⟨lb, hblk⟩ := rh.blk mid _ hi
 have hlb : lb = lm := Option.some.inj (hblk.loc.symm.trans hl)
 subst hlb
 have hoff : lb.off = 0 := by
  rcases hblk.cells with g | g
  ·exact g.2.1
  ·omega
 refine ⟨hkeep, ⟨h.rh.mem, ?_, ?_, ?_, ?_, ?_, ?_, ?_⟩, h.ml, h.fix, h.os, h.tape, h.output, h.size, ?_, ?_, ?_⟩
 ·intro j x hj
  rcases look hj with ⟨rfl, rfl⟩ | ⟨_, g⟩
  ·exact ⟨lb, hμ5, hblk.sh, .inl ⟨h0, hoff, rfl, rfl⟩⟩
  ·exact h.rh.blk j x g
 ·intro j k x y lj lk hj hk hlj hlk p1 p2 he
  rcases look hj with ⟨rfl, rfl⟩ | ⟨_, g⟩
  ·have : lj = lb := Option.some.inj (hlj.symm.trans hμ5)
   subst this; omega
  ·rcases look hk with ⟨rfl, rfl⟩ | ⟨_, g'⟩
   ·have : lk = lb := Option.some.inj (hlk.symm.trans hμ5)
    subst this; omega
   ·exact h.rh.inj j k x y lj lk g g' hlj hlk p1 p2 he
 ·intro j hj; rw [List.length_set] at hj; exact h.rh.dom j hj
 ·intro j x lj hj hlj hz
  rcases look hj with ⟨rfl, rfl⟩ | ⟨_, g⟩
  ·have : lj = lb := Option.some.inj (hlj.symm.trans hμ5)
   subst this; omega
  ·exact h.rh.typ j x lj g hlj hz
 ·intro j x lj hj hx hlj hz
  rcases look hj with ⟨rfl, rfl⟩ | ⟨_, g⟩
  ·cases hx
  ·exact h.rh.vb j x lj g hx hlj hz
 ·intro j x lj hj hlj hpz
  rcases look hj with ⟨rfl, rfl⟩ | ⟨_, g⟩
  ·have : lj = lb := Option.some.inj (hlj.symm.trans hμ5)
   subst this
   exact ⟨h0, kt, vt, xs, es, c, rfl, hkeep.trans hw, hm.mono h.ml⟩
  ·exact h.rh.mp j x lj g hlj hpz
 ·intro j k x y lj lk hj hk pj pk hlj hlk he
  rcases look hj with ⟨rfl, rfl⟩ | ⟨g0, g⟩
  ·have e1 : lj = lb := Option.some.inj (hlj.symm.trans hμ5)
   subst e1
   rcases look hk with ⟨rfl, rfl⟩ | ⟨_, g'⟩
   ·rfl
   ·exact (nown5 ⟨k, y, lk, g', hlk, .inr pk, he.symm⟩).elim
  ·rcases look hk with ⟨rfl, rfl⟩ | ⟨_, g'⟩
   ·have e1 : lk = lb := Option.some.inj (hlk.symm.trans hμ5)
    subst e1
    exact (nown5 ⟨j, x, lj, g, hlj, .inr pj, he⟩).elim
   ·exact h.rh.mpi j k x y lj lk g g' pj pk hlj hlk he
 ·intro b hb ho
  refine h.keep b hb fun ho' => ho ?_
  obtain ⟨j, x, lj, hj, hlj, q, he⟩ := ho'
  by_cases hjm : j = mid
  ·subst hjm
   rw [List.getElem?_set_self (List.getElem?_eq_some_iff.1 hi).1] at hj
   cases hj
  ·rw [List.getElem?_set_ne (Ne.symm hjm)] at hj
   exact ⟨j, x, lj, hj, hlj, q, he⟩
 ·rintro b ⟨j, x, lj, hj, hlj, q, he⟩ hb
  rcases look hj with ⟨rfl, rfl⟩ | ⟨_, g⟩
  ·have : lj = lb := Option.some.inj (hlj.symm.trans hμ5)
   subst this
   exact ⟨j, _, lj, hi, hl, q, he⟩
  ·obtain ⟨j', x', lj', hj', hlj', q', he'⟩ := h.grow b ⟨j, x, lj, g, hlj, q, he⟩ hb
   by_cases hjm : j' = mid
   ·subst hjm
    rw [List.getElem?_set_self (List.getElem?_eq_some_iff.1 hi).1] at hj'
    cases hj'
   ·rw [List.getElem?_set_ne (Ne.symm hjm)] at hj'
    exact ⟨j', x', lj', hj', hlj', q', he'⟩
 ·intro b cc hc
  rcases h.mgrow b cc hc with g | g | g
  ·exact .inl g
  ·obtain ⟨j', x', lj', hj', hlj', q', he'⟩ := g
   by_cases hjm : j' = mid
   ·subst hjm
    rw [List.getElem?_set_self (List.getElem?_eq_some_iff.1 hi).1] at hj'
    cases hj'
   ·rw [List.getElem?_set_ne (Ne.symm hjm)] at hj'
    exact .inr (.inl ⟨j', x', lj', hj', hlj', q', he'⟩)
  ·exact .inr (.inr g)
section
variable {P : Program} {w : World} {b bm since last clock : Nat} {seen : Array Nat} {es : Array MapEntry} {ty : TypeId}
theorem Q35 (h : w.heap[b]? = some (.mapIter (some bm) since seen last)) : (getObj b).run P w = .ok (.mapIter (some bm) since seen last) w := by
 simp only [getObj, Sem.run, h]
theorem Q51 (h1 : w.heap[b]? = some (.mapIter (some bm) since seen last)) (h2 : w.heap[bm]? = some (.map es clock)) (hl : es.filter (fun e => !seen.contains e.born) = #[])
  (hg : (!seen.isEmpty && !es.isEmpty && es.all fun e => decide (e.born ≥ last)) = false) : (Instr.next (.pointer (some ⟨b, 0, none⟩)) false ty).run P w = .ok (.tuple #[.bool false]) w := by
 simp only [Instr.next, Sem.run_bind, Q35 h1, Q1f h2, Result.andThen, hg, hl, Bool.false_eq_true, if_false]
 simp [choose, Sem.run, Question.forced]
theorem Q8o (o : Obj) (h : w.heap[b]? = some (.mapIter (some bm) since seen last)) : (setObj b o).run P w = .ok () { w with heap := w.heap.setIfInBounds b o } := by
 simp only [setObj, Sem.run, h]
theorem Qc4 {e : MapEntry} (h1 : w.heap[b]? = some (.mapIter (some bm) since #[] last)) (h2 : w.heap[bm]? = some (.map #[e] clock)) (hb : e.born < since) :
  (Instr.next (.pointer (some ⟨b, 0, none⟩)) false ty).run P w = .ok (.tuple #[.bool true, e.key, e.val]) { w with heap := w.heap.setIfInBounds b (.mapIter (some bm) since #[e.born] clock) } := by
 have f0 : (#[e] : Array MapEntry).filter (fun e => !(#[] : Array Nat).contains e.born) = #[e] := by simp
 have f1 : (#[e] : Array MapEntry).filter (fun x => decide (x.born < since)) = #[e] := by simp [hb]
 have f2 : (#[e] : Array MapEntry).filter (fun x => decide (x.born ≥ since)) = #[] := by simp; omega
 simp only [Instr.next, Sem.run_bind, Q35 h1, Q1f h2, Result.andThen, f0, f1, f2]
 simp [choose, Sem.run, Question.forced, Q8o _ h1, Result.andThen]
theorem QbC {e : MapEntry} (h1 : w.heap[b]? = some (.mapIter (some bm) since #[e.born] clock)) (h2 : w.heap[bm]? = some (.map #[e] clock)) :
  (Instr.entry (.pointer (some ⟨b, 0, none⟩))).run P w = .ok (.tuple #[e.key, e.val]) w := by
 simp only [Instr.entry, Sem.run_bind, Q35 h1, Result.andThen]
 simp [Q1f h2, Result.andThen]
end
end Go.Am
namespace Go.Am
open Go
theorem Q5Q {m : Mem} {μ : LMap} {t : Ty} {d : t.den} {v : Value} (h : DV m t d v) : Q1k m μ (toA t d) v := by
 have := h.rel (μ := μ)
 have tne : ∀ s, toA t d ≠ .tup s := by intro s; cases t <;> simp [toA]
 unfold VRel at this
 split at this
 ·exact absurd ‹_› (tne _)
 ·exact this
structure Rng where
 i0 : Nat
 ops : Array Oper
 out : Nat
 i1 : Nat
 step : Array Oper
 more : Operand
 nxt : Nat
 i2 : Nat
 asg : Array Oper
 body : Code
def Rng.code (p : Rng) : Code :=
 .seq (.region p.i0 p.ops false) (.block p.out (.loop (.seq (.region p.i1 p.step false) (.seq (.cond p.more .skip (.exit p.out)) (.block p.nxt (.seq (.region p.i2 p.asg false) p.body))))))
def Qcg : Code → Option Rng
 | .seq (.region i0 ops false) (.block out (.loop (.seq (.region i1 step false) (.seq (.cond more .skip (.exit out')) (.block nxt (.seq (.region i2 asg false) body)))))) =>
  if out = out' then some ⟨i0, ops, out, i1, step, more, nxt, i2, asg, body⟩ else none
 | _ => none
theorem QcD {c : Code} {p : Rng} (h : Qcg c = some p) : c = p.code := by
 unfold Qcg at h
 split at h
 ·split at h
  ·rename_i e; subst e; cases h; rfl
  ·cases h
 ·cases h
def QaW (o n1 e1 : Oper) : Option (TypeId × Operand × Nat × Nat × Nat) :=
 match o.op, o.guard, o.dst, n1.op, n1.guard, n1.dst, e1.op, e1.guard, e1.dst with
 | .range T x, none, some dI, .next (.tmp t) false, none, some dN, .entry (.tmp t'), none, some dE => if t = dI ∧ t' = dI then some (T, x, dI, dN, dE) else none
 | _, _, _, _, _, _, _, _, _ => none
theorem Q9y {o n1 e1 : Oper} {T : TypeId} {x : Operand} {dI dN dE : Nat} (h : QaW o n1 e1 = some (T, x, dI, dN, dE)) :
  (o.op = .range T x ∧ o.guard = none ∧ o.dst = some dI) ∧ (n1.op = .next (.tmp dI) false ∧ n1.guard = none ∧ n1.dst = some dN) ∧ (e1.op = .entry (.tmp dI) ∧ e1.guard = none ∧ e1.dst = some dE) := by
 unfold QaW at h
 split at h
 ·rename_i h1 h2 h3 h4 h5 h6 h7 h8 h9
  split at h
  ·rename_i e; obtain ⟨rfl, rfl⟩ := e; cases h; exact ⟨⟨h1, h2, h3⟩, ⟨h4, h5, h6⟩, h7, h8, h9⟩
  ·cases h
 ·cases h
def itAt (sl : List AVal) (d iid : Nat) : Bool := match sl.getD d .undef with | .ptr i [] => Nat.beq i iid | _ => false
theorem Q5b {sl : List AVal} {d iid : Nat} (h : itAt sl d iid = true) : sl[d]? = some (.ptr iid []) := by
 unfold itAt at h
 split at h
 ·rename_i i e
  have := Nat.eq_of_beq_eq_true h
  subst this
  exact Q7d e (by simp)
 ·cases h
def QaO (C : Ctx) (p : Rng) (ann : Ann) : Q2T :=
 ⟨fun st K =>
  match p.ops[p.ops.size - 1]?, p.step.toList, p.asg.toList with
  | some o, n1 :: step', e1 :: asg' =>
   match QaW o n1 e1 with
   | some (T, x, dI, dN, dE) =>
    Q1W C p.ops p.ops.toList.dropLast st [] fun st1 _ =>
     match Q0i st1.sl x with
     | .mp mid =>
      match st1.H[mid]? with
      | some (some (.mpc kt vt xs)) =>
       cond (decide (Q5r C.P T = some (kt, vt)))
       (match xs with
       | [] =>
        cond (itAt (st1.sl.set dI (.ptr st1.H.length [])) dI st1.H.length)
        (Q1W C p.step step' ⟨(st1.sl.set dI (.ptr st1.H.length [])).set dN (.tup (.pair (.bool false) .unit)), st1.H ++ [some AVal.unit]⟩ [] fun st2 _ =>
         match Q0i st2.sl p.more with
         | .bool false => K .normal st2
         | _ => none) none
       | [e] =>
        cond (itAt (st1.sl.set dI (.ptr st1.H.length [])) dI st1.H.length)
        (Q1W C p.step step' ⟨(st1.sl.set dI (.ptr st1.H.length [])).set dN (.tup (.pair (.bool true) (.pair (toA kt e.1) (.pair (toA vt e.2) .unit)))), (st1.H ++ [some AVal.unit]).set mid none⟩ [] fun st2 _ =>
         match Q0i st2.sl p.more with
         | .bool true =>
          cond (itAt st2.sl dI st1.H.length)
          (Q1W C p.asg asg' ⟨st2.sl.set dE (.tup (.pair (toA kt e.1) (.pair (toA vt e.2) .unit))), st2.H⟩ [] fun st3 _ =>
           evC C p.body ann st3 fun ex st4 =>
            cond ((match ex with | .normal => true | .exit i => Nat.beq i p.nxt | _ => false) && itAt st4.sl dI st1.H.length)
            (Q1W C p.step step' ⟨st4.sl.set dN (.tup (.pair (.bool false) .unit)), st4.H⟩ [] fun st5 _ =>
             match Q0i st5.sl p.more with
             | .bool false => K .normal ⟨st5.sl, st5.H.set mid (some (.mpc kt vt [e]))⟩
             | _ => none) none) none
         | _ => none) none
       | _ => none) none
      | _ => none
     | _ => none
   | none => none
  | _, _, _ => none⟩
theorem Q4f {P : Program} {ops : Array Oper} {Q : Exit → Act → World → Prop} {i0 : Nat} {os : List Oper} {S : Nat → St} {V : Nat → AVal} {E : Nat → Eff} (hc : Q1I P ops i0 os S V E) (rest : List Nat) :
  ∀ (n j : Nat), j + n = os.length → ∀ (m : Mem) (μ : LMap) (w : World) (a : Act), RH m μ (S j).H w → RS m μ (S j).sl a →
   (∀ a' w' m' μ', RS m' μ' (S os.length).sl a' → Post m μ (S j).H w m' μ' (S os.length).H w' → wpOps P ops Q rest a' w') → wpOps P ops Q (List.range' (i0 + j) n ++ rest) a w
 | 0, j, hj, m, μ, w, a, rh, rs, hQ => by
  have : j = os.length := by omega
  subst this
  exact hQ _ _ _ _ rs (.refl rh)
 | n + 1, j, hj, m, μ, w, a, rh, rs, hQ => by
  rw [List.range'_succ, List.cons_append, wpOps_cons]
  have hlt : j < os.length := by omega
  have ho : os[j]? = some os[j] := by simp [hlt]
  obtain ⟨h1, h2, _⟩ := hc j _ ho
  refine h1.now m μ w a Q _ rh rs fun u w' m' μ' hv hp => ?_
  refine Q4f hc rest n (j + 1) (by omega) m' μ' w' _ hp.rh ?_ fun a' w'' m'' μ'' hs hp' => hQ _ _ _ _ hs (hp.trans hp')
  rw [h2]
  exact Q3F hp.ml hp.μl rs hv
theorem Q26 {P : Program} {ops : Array Oper} {Q : Exit → Act → World → Prop} {i : Nat} {o : Oper} {K : Act → World → Prop} {a : Act} {w w' : World} {v : Value} (hi : ops[i]? = some o) (hg : o.guard = none)
  (hr : (execOp a.eval o).run P w = .ok (.value v) w') (hK : K (a.put o.dst v) w') : wpOp P ops Q i K a w := by
 unfold wpOp
 simp only [hi, Region.wanted, hg, if_true]
 refine .inl ?_
 unfold Oper.wp
 rw [hr]
 exact hK
theorem Q6o {m : Mem} {μ : LMap} {sl : List AVal} {a : Act} {dI iid b : Nat} (rs : RS m μ sl a) (h : sl[dI]? = some (.ptr iid [])) (hμ : μ iid = some ⟨b, 0, .unit, 0, 0, false⟩) : a.eval (.tmp dI) = .pointer (some ⟨b, 0, none⟩) := by
 have h0 : Q0i sl (.tmp dI) = .ptr iid [] := by
  show sl.getD dI .undef = _
  rw [List.getD_eq_getElem?_getD, h]; rfl
 have hr := Q04 rs (.tmp dI)
 rw [h0] at hr
 obtain ⟨l, o, s, h1, h2, h3⟩ := hr.one rfl rfl
 rw [hμ] at h1
 cases h1
 have : o = 0 := by
  simp only [Sh.offP, Option.some.injEq, Prod.mk.injEq] at h2
  exact h2.1.symm
 subst this
 exact (List.cons.inj h3).1
theorem QaE {P : Program} {m : Mem} {μ : LMap} {w : World} {a : Act} {sl : List AVal} {H : Heap} {mid : Nat} {kt vt : Ty} {xs : List (kt.den × vt.den)} {T : TypeId} {x : Operand} {o : Oper} (rh : RH m μ H w) (rs : RS m μ sl a)
  (hx : Q0i sl x = .mp mid) (hi : H[mid]? = some (some (.mpc kt vt xs))) (hT : Q5r P T = some (kt, vt)) (ho : o.op = .range T x) :
  ∃ lm es clock, μ mid = some lm ∧ lm.mp = true ∧ w.heap[lm.b]? = some (.map es clock) ∧ Q2t m kt vt xs es.toList clock ∧
   (execOp a.eval o).run P w = .ok (.value (.pointer (some ⟨w.heap.size, 0, none⟩))) (w.alloc (.mapIter (some lm.b) clock #[] clock)) := by
 have hr := Q04 rs x
 rw [hx] at hr
 obtain ⟨lm, es, clock, h1, h2, h3, h4, h5⟩ := Q4d rh hi hr
 obtain ⟨K, V, hu, _⟩ := Q2o hT
 refine ⟨lm, es, clock, h1, h2, h4, h5, ?_⟩
 unfold execOp
 rw [ho]
 simp only [h3, Sem.run_bind, run_range_map w T K V lm.b es clock hu h4, Result.andThen]
 rfl
theorem Q40 {P : Program} {a : Act} {w w' : World} {o : Oper} {dI : Nat} {v : Value} (ho : o.op = .next (.tmp dI) false) (h : (Instr.next (a.eval (.tmp dI)) false o.type).run P w = .ok v w') : (execOp a.eval o).run P w = .ok (.value v) w' := by
 unfold execOp
 rw [ho]
 simp only [Sem.run_bind, h, Result.andThen]
 rfl
theorem Q7J {P : Program} {a : Act} {w w' : World} {o : Oper} {dI : Nat} {v : Value} (ho : o.op = .entry (.tmp dI)) (h : (Instr.entry (a.eval (.tmp dI))).run P w = .ok v w') : (execOp a.eval o).run P w = .ok (.value v) w' := by
 unfold execOp
 rw [ho]
 simp only [Sem.run_bind, h, Result.andThen]
 rfl
theorem QaZ {n : Nat} (h : 1 ≤ n) : List.range' 0 n = List.range' 0 (n - 1) ++ [n - 1] := by
 obtain ⟨k, rfl⟩ : ∃ k, n = k + 1 := ⟨n - 1, by omega⟩
 rw [List.range'_concat]; simp
theorem Q9k {α : Type} {l : List α} {j : Nat} {x : α} (h : l.dropLast[j]? = some x) : l[j]? = some x := by
 rw [List.getElem?_dropLast] at h
 split at h
 ·exact h
 ·cases h
theorem tup3 {m : Mem} {μ : LMap} {b : Bool} {kt vt : Ty} {k : kt.den} {v : vt.den} {x y : Value} (hk : DV m kt k x) (hv : DV m vt v y) : VRel m μ (.tup (.pair (.bool b) (.pair (toA kt k) (.pair (toA vt v) .unit)))) (.tuple #[.bool b, x, y]) := by
 refine ⟨#[.bool b, x, y], rfl, .bool b, [x, y], rfl, rfl, x, [y], rfl, ?_, y, [], rfl, ?_, rfl⟩
 ·exact Q5Q hk
 ·exact Q5Q hv
theorem tup2 {m : Mem} {μ : LMap} {kt vt : Ty} {k : kt.den} {v : vt.den} {x y : Value} (hk : DV m kt k x) (hv : DV m vt v y) : VRel m μ (.tup (.pair (toA kt k) (.pair (toA vt v) .unit))) (.tuple #[x, y]) := by
 refine ⟨#[x, y], rfl, x, [y], rfl, ?_, y, [], rfl, ?_, rfl⟩
 ·exact Q5Q hk
 ·exact Q5Q hv
theorem tup1 {m : Mem} {μ : LMap} (b : Bool) : VRel m μ (.tup (.pair (.bool b) .unit)) (.tuple #[.bool b]) := ⟨#[.bool b], rfl, .bool b, [], rfl, rfl, rfl⟩
end Go.Am
namespace Go.Am
open Go
theorem QbT {α : Type} {b : Bool} {x : Option α} {r : α} (h : cond b x none = some r) : b = true ∧ x = some r := by
 cases b
 ·cases h
 ·exact ⟨rfl, h⟩
theorem Qa9 {α : Type} {l : Array α} (h : l.toList.length = 1) : ∃ x, l = #[x] := by
 cases l with
 | mk l =>
  match l, h with
  | [x], _ => exact ⟨x, rfl⟩
theorem Q2Z {P : Program} {id : Nat} {ops : Array Oper} {o1 : Oper} {os : List Oper} {Q : Exit → Act → World → Prop} {S : Nat → St} {V : Nat → AVal} {E : Nat → Eff} (hops : ops.toList = o1 :: os) (hg : o1.guard = none) (hc : Q1I P ops 1 os S V E)
  {m : Mem} {μ : LMap} {w w1 : World} {a : Act} {v : Value} (hr : (execOp a.eval o1).run P w = .ok (.value v) w1) (rh : RH m μ (S 0).H w1) (rs : RS m μ (S 0).sl (a.put o1.dst v))
  (hQ : ∀ a' w' m' μ', RS m' μ' (S os.length).sl a' → Post m μ (S 0).H w1 m' μ' (S os.length).H w' → Q .normal a' w') : (Code.region id ops false).wp P Q a w := by
 refine wp_region ?_
 have hsz : ops.size = os.length + 1 := by rw [← Array.length_toList, hops]; rfl
 rw [List.range_eq_range', hsz, List.range'_succ, wpOps_cons]
 have h0 : ops[0]? = some o1 := by rw [← Array.getElem?_toList, hops]; rfl
 refine Q26 h0 hg hr ?_
 have := Q4f (Q := Q) hc [] os.length 0 (by omega) m μ w1 _ rh rs fun a' w' m' μ' hs hp => hQ a' w' m' μ' hs hp
 simpa using this
theorem Q5R {m : Mem} {μ : LMap} {H : Heap} {w : World} (rh : RH m μ H w) {b bm since last : Nat} {seen : Array Nat} (h : w.heap[b]? = some (.mapIter (some bm) since seen last)) : ¬ Q1q μ H b := by
 rintro ⟨j, x, lj, hj, hlj, q, rfl⟩
 rcases q with q | q
 ·obtain ⟨cs, fz, h1⟩ := rh.typ j x lj hj hlj q
  rw [h] at h1; cases h1
 ·obtain ⟨_, _, _, _, es, c, _, h1, _⟩ := rh.mp j x lj hj hlj q
  rw [h] at h1; cases h1
theorem Q11.it {np : Nat} {m0 m : Mem} {μ0 μ : LMap} {H0 H : Heap} {w0 w : World} (p : Q11 np m0 μ0 H0 w0 m μ H w) {b bm since last : Nat} {seen : Array Nat} (h : w.heap[b]? = some (.mapIter (some bm) since seen last)) (hb : w0.heap.size ≤ b) (since' last' : Nat) (seen' : Array Nat) :
  Q11 np m0 μ0 H0 w0 m μ H { w with heap := w.heap.setIfInBounds b (.mapIter (some bm) since' seen' last') } := by
 have rh := p.rh
 have keep : ∀ c, c ≠ b → (w.heap.setIfInBounds b (Obj.mapIter (some bm) since' seen' last'))[c]? = w.heap[c]? := fun c hc => by simp [Ne.symm hc]
 have ne : ∀ {c : Nat} {o : Obj}, w.heap[c]? = some o → (∀ x y z t, o ≠ .mapIter x y z t) → c ≠ b := by
  intro c o hc ho e
  subst e
  rw [h] at hc
  exact ho _ _ _ _ (Option.some.inj hc).symm
 refine ⟨⟨?_, ?_, rh.inj, rh.dom, ?_, rh.vb, ?_, rh.mpi⟩, p.ml, p.fix, p.os, p.tape, p.output, by show w0.heap.size ≤ (w.heap.setIfInBounds _ _).size; simpa using p.size, ?_, p.grow, p.mgrow⟩
 ·intro c cs hc
  obtain ⟨E1, fz1, h1⟩ := rh.mem c cs hc
  exact ⟨E1, fz1, (keep c (ne h1 (by simp))).trans h1⟩
 ·intro j x hj
  obtain ⟨lj, hbj⟩ := rh.blk j x hj
  refine ⟨lj, hbj.loc, hbj.sh, ?_⟩
  rcases hbj.cells with g | ⟨p0, q1, cs, E1, fz1, q2, q3⟩
  ·exact .inl g
  ·exact .inr ⟨p0, q1, cs, E1, fz1, (keep lj.b (ne q2 (by simp))).trans q2, q3⟩
 ·intro j x lj hj hlj hz
  obtain ⟨cs1, fz1, k1⟩ := rh.typ j x lj hj hlj hz
  exact ⟨cs1, fz1, (keep lj.b (ne k1 (by simp))).trans k1⟩
 ·intro j x lj hj hlj hpz
  obtain ⟨g0, kt', vt', ys, es1, c1, e1, e2, e3⟩ := rh.mp j x lj hj hlj hpz
  exact ⟨g0, kt', vt', ys, es1, c1, e1, (keep lj.b (ne e2 (by simp))).trans e2, e3⟩
 ·intro c hc ho
  exact (keep c (by omega)).trans (p.keep c hc ho)
theorem Qdw {np : Nat} {C : Ctx} (hΓ : ∀ f, Qb C.P f (C.Γ f)) (hmix : C.P.follows .mixedOrders = true) {p : Rng} {ann : Ann} (hA : ∀ np, Q3 np C.P p.body ann) : StOK np C.P p.code (QaO C p ann) := by
 intro ρ st K r h
 simp only [QaO] at h
 split at h
 case h_2 => cases h
 rename_i o n1 step' e1 asg' ho hstep hasg
 split at h
 case h_2 => cases h
 rename_i T x dI dN dE hops
 obtain ⟨⟨o1, o2, o3⟩, ⟨n1a, n1b, n1c⟩, e1a, e1b, e1c⟩ := Q9y hops
 have hn : 1 ≤ p.ops.size := by
  have := (Array.getElem?_eq_some_iff.1 ho).1
  omega
 obtain ⟨S, V, E, es', hS0, hc, hk, _⟩ := Q1P hΓ p.ops.toList.dropLast 0 st [] (fun j o' hj => by
  rw [Nat.zero_add, ← Array.getElem?_toList]; exact Q9k hj) h
 have hdl : p.ops.toList.dropLast.length = p.ops.size - 1 := by rw [List.length_dropLast, Array.length_toList]
 generalize hst1 : S p.ops.toList.dropLast.length = st1 at hk
 split at hk
 case h_2 => cases hk
 rename_i mid hx
 split at hk
 case h_2 => cases hk
 rename_i kt vt xs hi
 rw [Bool.cond_eq_ite] at hk
 split at hk
 case isFalse => cases hk
 rename_i hT
 simp only [decide_eq_true_eq] at hT
 have ahead : ∀ {m : Mem} {μ : LMap} {w : World} {a : Act} {Q : Exit → Act → World → Prop}, RH m μ st.H w → RS m μ st.sl a →
   (∀ (a1 : Act) (w1 : World) (m1 : Mem) (μ1 : LMap) (lm : Loc) (es : Array MapEntry) (clock : Nat), RS m1 μ1 (st1.sl.set dI (.ptr st1.H.length [])) a1 → Q11 np m μ st.H w m1 μ1 (st1.H ++ [some AVal.unit]) w1 →
    w.heap.size ≤ w1.heap.size - 1 → w1.heap[w1.heap.size - 1]? = some (.mapIter (some lm.b) clock #[] clock) → μ1 st1.H.length = some ⟨w1.heap.size - 1, 0, .unit, 0, 0, false⟩ →
    μ1 mid = some lm → lm.mp = true → w1.heap[lm.b]? = some (.map es clock) → Q2t m1 kt vt xs es.toList clock → Q .normal a1 w1) →
   (Code.region p.i0 p.ops false).wp C.P Q a w := by
  intro m μ w a Q rh rs hQ
  refine wp_region ?_
  rw [List.range_eq_range', QaZ hn]
  have := Q4f (Q := Q) hc [p.ops.size - 1] (p.ops.size - 1) 0 (by omega) m μ w a (by rw [hS0]; exact rh) (by rw [hS0]; exact rs) fun a1 w1 m1 μ1 rs1 p1 => ?_
  ·simpa using this
  ·rw [hst1] at rs1 p1
   rw [hS0] at p1
   obtain ⟨lm, es, clock, g1, g2, g3, g4, g5⟩ := QaE p1.rh rs1 hx hi hT o1
   rw [wpOps_cons]
   refine Q26 ho o2 g5 ?_
   have hit := p1.rh.itNew (.mapIter (some lm.b) clock #[] clock)
   have hlt := Q0Q g3
   have hsz : (w1.alloc (.mapIter (some lm.b) clock #[] clock)).heap.size - 1 = w1.heap.size := by
    show (w1.heap.push _).size - 1 = _
    simp
   have hid : mid < st1.H.length := (List.getElem?_eq_some_iff.1 hi).1
   show Q .normal _ _
   refine hQ _ (w1.alloc (.mapIter (some lm.b) clock #[] clock)) m1 _ lm es clock ?_ (p1.toW.trans hit.toW) (by rw [hsz]; exact p1.size) ?_ ?_ ?_ g2 ?_ g4
   ·rw [o3]
    exact Q3F (dst := some dI) (Mem.le_refl _) hit.μl rs1 ⟨⟨w1.heap.size, 0, .unit, 0, 0, false⟩, 0, .unit, if_pos rfl, rfl, rfl⟩
   ·rw [hsz]; exact heap_alloc_new _ _
   ·rw [hsz]; exact if_pos rfl
   ·exact hit.μl _ _ g1
   ·rw [heap_alloc_old _ _ hlt]; exact g3
 have stepIx : ∀ (j : Nat) (o' : Oper), step'[j]? = some o' → p.step[1 + j]? = some o' := fun j o' hj => by
  rw [← Array.getElem?_toList, hstep, Nat.add_comm]; simpa using hj
 have asgIx : ∀ (j : Nat) (o' : Oper), asg'[j]? = some o' → p.asg[1 + j]? = some o' := fun j o' hj => by
  rw [← Array.getElem?_toList, hasg, Nat.add_comm]; simpa using hj
 have hid : mid < st1.H.length := (List.getElem?_eq_some_iff.1 hi).1
 split at hk
 ·-- no entry
  rw [Bool.cond_eq_ite] at hk
  split at hk
  case isFalse => cases hk
  rename_i hat
  have hsl := Q5b hat
  obtain ⟨S2, V2, E2, es2, hS2, hc2, hk2, _⟩ := Q1P hΓ step' 1 _ _ stepIx hk
  split at hk2
  case h_2 => cases hk2
  rename_i hmore
  refine ⟨_, _, hk2, fun m μ w a Q rh rs hQ => ?_⟩
  refine wp_seq (ahead rh rs fun a1 w1 m1 μ1 lm es clock rs1 p1 hsz hit hiid hlm hmp hmap hrel => ?_)
  have hes : es = #[] := by
   apply Array.eq_empty_of_size_eq_zero
   obtain ⟨ys, hp, _, hm, _⟩ := hrel
   have h1 := hp.length_eq
   have := hm.1
   simp at h1
   subst h1
   simpa using this
  subst hes
  refine wp_block (wp_loop_once (wp_seq ?_))
  refine Q2Z hstep n1b hc2 (Q40 n1a (by rw [Q6o rs1 hsl hiid]; exact Q51 hit hmap (by simp) (by simp))) (m := m1) (μ := μ1) (by rw [hS2]; exact p1.rh) ?_ fun a2 w2 m2 μ2 rs2 p2 => ?_
  ·rw [hS2, n1c]
   exact Q3F (dst := some dN) (Mem.le_refl _) (LMap.le_refl _) rs1 (tup1 false)
  ·have hmv := Q04 rs2 p.more
   rw [hmore] at hmv
   refine wp_seq (wp_cond_false hmv.isBool (wp_exit ?_))
   simp only [Exit.then, Exit.inBlock, if_true]
   rw [hS2] at p2
   exact hQ _ _ _ _ rs2 (p1.trans p2.toW)
 ·-- one entry
  rename_i e
  rw [Bool.cond_eq_ite] at hk
  split at hk
  case isFalse => cases hk
  rename_i hat
  have hsl := Q5b hat
  obtain ⟨S2, V2, E2, es2, hS2, hc2, hk2, _⟩ := Q1P hΓ step' 1 _ _ stepIx hk
  split at hk2
  case h_2 => cases hk2
  rename_i hmore2
  rw [Bool.cond_eq_ite] at hk2
  split at hk2
  case isFalse => cases hk2
  rename_i hat2
  have hsl2 := Q5b hat2
  obtain ⟨S3, V3, E3, es3, hS3, hc3, hk3, _⟩ := Q1P hΓ asg' 1 _ _ asgIx hk2
  generalize hNP : max np ((S3 asg'.length).H.length) = NP
  obtain ⟨ex, st4, hk4, hbody⟩ := Q1u hΓ hmix p.body ann _ _ _ (hA NP) hk3
  obtain ⟨hat4, hk4⟩ := QbT hk4
  rw [Bool.and_eq_true] at hat4
  have hsl4 := Q5b hat4.2
  obtain ⟨S5, V5, E5, es5, hS5, hc5, hk5, _⟩ := Q1P hΓ step' 1 _ _ stepIx hk4
  split at hk5
  case h_2 => cases hk5
  rename_i hmore5
  refine ⟨_, _, hk5, fun m μ w a Q rh rs hQ => ?_⟩
  refine wp_seq (ahead rh rs fun a1 w1 m1 μ1 lm es clock rs1 p1 hsz hit hiid hlm hmp hmap hrel => ?_)
  obtain ⟨ys, hpe, _, hmr, hbr, _⟩ := hrel
  have hys : ys = [e] := List.perm_singleton.1 hpe
  subst hys
  obtain ⟨e0, rfl⟩ := Qa9 (hmr.1)
  have hborn : e0.born < clock := hbr e0 (by simp)
  have hdv := hmr.2 0 e e0 rfl rfl
  generalize hbo : w1.heap.size - 1 = b0 at hsz hit hiid
  have hb0 : b0 < w1.heap.size := Q0Q hit
  have hbm : lm.b ≠ b0 := fun e => by rw [e, hit] at hmap; cases hmap
  have pn := p1.it hit hsz clock clock #[e0.born]
  have hrun1 := Qc4 (P := C.P) (ty := n1.type) hit hmap hborn
  generalize hwn : ({ w1 with heap := w1.heap.setIfInBounds b0 (.mapIter (some lm.b) clock #[e0.born] clock) } : World) = wn at pn hrun1
  have hitn : wn.heap[b0]? = some (.mapIter (some lm.b) clock #[e0.born] clock) := by
   rw [← hwn]; simp [hb0]
  have hmapn : wn.heap[lm.b]? = some (.map #[e0] clock) := by
   rw [← hwn]
   show (w1.heap.setIfInBounds b0 _)[lm.b]? = _
   rw [Array.getElem?_setIfInBounds_ne (Ne.symm hbm)]; exact hmap
  have hi1 : (st1.H ++ [some AVal.unit])[mid]? = some (some (.mpc kt vt [e])) := by rw [List.getElem?_append_left hid]; exact hi
  have killed := pn.rh.kill mid
  have nob : ¬ Q1q μ1 ((st1.H ++ [some AVal.unit]).set mid none) b0 := Q5R killed.rh hitn
  have hbn : b0 < wn.heap.size := Q0Q hitn
  have hnpNP : np ≤ NP := by rw [← hNP]; exact Nat.le_max_left _ _
  have h3NP : (S3 asg'.length).H.length ≤ NP := by rw [← hNP]; exact Nat.le_max_right _ _
  refine wp_block (Q1U (fun j a' w' => (j = 2 ∧ a' = a1 ∧ w' = w1) ∨ (j = 1 ∧ st1.H.length < NP ∧ ∃ m4 μ4, RS m4 μ4 st4.sl a' ∧ Q11 NP m1 μ1 ((st1.H ++ [some AVal.unit]).set mid none) wn m4 μ4 st4.H w')) ?_ ?_ (n := 2) (.inl ⟨rfl, rfl, rfl⟩))
  ·rintro a w (⟨h, _⟩ | ⟨h, _⟩) <;> cases h
  ·rintro j a' w' (⟨hj, rfl, rfl⟩ | ⟨hj, hiNP, m4, μ4, rs4, p4⟩)
   ·-- the entry
    obtain rfl : j = 1 := by omega
    refine wp_seq ?_
    refine Q2Z hstep n1b hc2 (Q40 n1a (by rw [Q6o rs1 hsl hiid]; exact hrun1)) (m := m1) (μ := μ1) (by rw [hS2]; exact killed.rh) ?_ fun a2 w2 m2 μ2 rs2 p2 => ?_
    ·rw [hS2, n1c]
     exact Q3F (dst := some dN) (Mem.le_refl _) (LMap.le_refl _) rs1 (tup3 hdv.1 hdv.2)
    rw [hS2] at p2
    have hmv := Q04 rs2 p.more
    rw [hmore2] at hmv
    refine wp_seq (wp_cond_true hmv.isBool (wp_skip ?_))
    simp only [Exit.then]
    refine wp_block (wp_seq ?_)
    have hit2 := (p2.keep b0 hbn nob).trans hitn
    have hmap2 := (Q5c (np := mid + 1) pn.rh hi1 hlm hmp (by omega) p2.toW).1.trans hmapn
    have hμ2 := p2.μl _ _ hiid
    have up : ∀ {t : Ty} {d : t.den} {v : Value}, DV m1 t d v → DV m2 t d v := fun h => Q1k.mono p2.ml (LMap.le_refl _) h
    refine Q2Z hasg e1b hc3 (Q7J e1a (by rw [Q6o rs2 hsl2 hμ2]; exact QbC hit2 hmap2)) (m := m2) (μ := μ2) (by rw [hS3]; exact p2.rh) ?_ fun a3 w3 m3 μ3 rs3 p3 => ?_
    ·rw [hS3, e1c]
     exact Q3F (dst := some dE) (Mem.le_refl _) (LMap.le_refl _) rs2 (tup2 (up hdv.1) (up hdv.2))
    rw [hS3] at p3
    simp only [Exit.then]
    have hlen : st1.H.length < NP := by
     have g1 := p2.hol.1
     have g2 := p3.hol.1
     simp only [List.length_set, List.length_append, List.length_cons, List.length_nil] at g1
     dsimp only at g2
     omega
    refine hbody m3 μ3 w3 a3 _ p3.rh rs3 fun a4 w4 m4 μ4 rs4 p4 => ?_
    have fin := (p2.toW (np := NP)).trans ((p3.toW (np := NP)).trans p4)
    cases ex with
    | normal => exact .inr ⟨trivial, hlen, m4, μ4, rs4, fin⟩
    | exit i =>
     have := Nat.eq_of_beq_eq_true hat4.1
     subst this
     simp only [Exit.inBlock, if_true]
     exact .inr ⟨trivial, hlen, m4, μ4, rs4, fin⟩
    | _ => exact absurd hat4.1 (by simp)
   ·-- the end
    obtain rfl : j = 0 := by omega
    have hit4 := (p4.keep b0 hbn nob).trans hitn
    have hmap4 := (Q5c pn.rh hi1 hlm hmp (by omega) p4).1.trans hmapn
    have hμ4 := p4.fix _ _ hiNP hiid
    refine wp_seq ?_
    refine Q2Z hstep n1b hc5 (Q40 n1a (by
     rw [Q6o rs4 hsl4 hμ4]
     refine Q51 hit4 hmap4 (by simp) ?_
     simp
     omega)) (m := m4) (μ := μ4) (by rw [hS5]; exact p4.rh) ?_ fun a5 w5 m5 μ5 rs5 p5 => ?_
    ·rw [hS5, n1c]
     exact Q3F (dst := some dN) (Mem.le_refl _) (LMap.le_refl _) rs4 (tup1 false)
    rw [hS5] at p5
    have hmv := Q04 rs5 p.more
    rw [hmore5] at hmv
    refine wp_seq (wp_cond_false hmv.isBool (wp_exit ?_))
    simp only [Exit.then, Exit.inBlock, if_true]
    have hp5 := Q5c pn.rh hi1 hlm hmp (by omega) (p4.trans p5.toW)
    exact hQ _ _ _ _ rs5 (pn.trans (hp5.2.weaken hnpNP))
 ·cases hk
end Go.Am
namespace Go.Am
open Go
def QcV (p : Rng) : Bool := match p.ops[p.ops.size - 1]? with | some o => (match o.op with | .range _ _ => true | _ => false) | none => false
def Qan (c : Code) : Option Rng := match Qcg c with | some p => if QcV p then some p else none | none => none
theorem QbR {c : Code} {p : Rng} (h : Qan c = some p) : c = p.code := by
 unfold Qan at h
 split at h
 ·rename_i q hq
  split at h
  ·cases h; exact QcD hq
  ·cases h
 ·cases h
def annF (C : Ctx) (fuel : Nat) : Nat → Code → Ann
 | 0, _ => .nil
 | d + 1, c => match Qan c with
  | some p => .node [] (some (QaO C p (annF C fuel d p.body))) .nil .nil
  | none => match c with
   | .seq a b => .node [] none (annF C fuel d a) (annF C fuel d b)
   | .cond _ a b => .node [] none (annF C fuel d a) (annF C fuel d b)
   | .block _ a => .node [] none (annF C fuel d a) .nil
   | .loop a => .node [] (some (Q6B C a (annF C fuel d a) fuel)) .nil .nil
   | _ => .nil
theorem Q8S {np : Nat} {P : Program} {c : Code} {s : Q2T} (h : StOK np P c s) : Q3 np P c (.node [] (some s) .nil .nil) := by cases c <;> exact ⟨rfl, h⟩
theorem Q1J {np : Nat} {P : Program} {c : Code} : Q3 np P c .nil := by cases c <;> trivial
theorem Q22 {C : Ctx} (hΓ : ∀ f, Qb C.P f (C.Γ f)) (hmix : C.P.follows .mixedOrders = true) (fuel : Nat) : ∀ (d : Nat) (c : Code) (np : Nat), Q3 np C.P c (annF C fuel d c)
 | 0, c, np => Q1J
 | d + 1, c, np => by
  simp only [annF]
  split
  ·rename_i p hp
   rw [QbR hp]
   exact Q8S (Qdw hΓ hmix fun np' => Q22 hΓ hmix fuel d p.body np')
  ·split
   ·exact ⟨rfl, Q22 hΓ hmix fuel d _ np, Q22 hΓ hmix fuel d _ np⟩
   ·exact ⟨rfl, Q22 hΓ hmix fuel d _ np, Q22 hΓ hmix fuel d _ np⟩
   ·exact ⟨rfl, Q22 hΓ hmix fuel d _ np⟩
   ·exact Q8S (Qcv hΓ hmix (Q22 hΓ hmix fuel d _ np) fuel)
   ·exact Q1J
def runH (P : Program) (told : List (Nat × Qj)) (fns : List (Nat × Func)) (rds : List Nat) (fuel deep : Nat) : Nat → Nat → Qj
 | 0, f => gam told f
 | n + 1, f => match Q8A fns f with
  | some fn => (match fn.body with
   | some c => cond (inB f rds) (Q9m ⟨P, runH P told fns rds fuel deep n⟩ fn c (annF ⟨P, runH P told fns rds fuel deep n⟩ fuel deep c)) (Q9c ⟨P, runH P told fns rds fuel deep n⟩ fn c (annF ⟨P, runH P told fns rds fuel deep n⟩ fuel deep c))
   | none => gam told f)
  | none => gam told f
theorem Q3x {P : Program} {told : List (Nat × Qj)} {fns : List (Nat × Func)} {rds : List Nat} {fuel deep : Nat} (ht : ∀ f, Qb P f (gam told f)) (hmix : P.follows .mixedOrders = true) (hfns : Q3s P fns) : ∀ n f, Qb P f (runH P told fns rds fuel deep n f)
 | 0, f => ht f
 | n + 1, f => by
  simp only [runH]
  split
  ·rename_i fn hf
   obtain ⟨h1, h2⟩ := hfns f fn hf
   split
   ·rename_i c hc
    cases inB f rds with
    | true => exact Qcc (C := ⟨P, runH P told fns rds fuel deep n⟩) (Q3x ht hmix hfns n) hmix h1 hc h2 (fun np => Q22 (C := ⟨P, runH P told fns rds fuel deep n⟩) (Q3x ht hmix hfns n) hmix fuel deep c np)
    | false => exact Qc0 (C := ⟨P, runH P told fns rds fuel deep n⟩) (Q3x ht hmix hfns n) hmix h1 hc h2 (fun np => Q22 (C := ⟨P, runH P told fns rds fuel deep n⟩) (Q3x ht hmix hfns n) hmix fuel deep c np)
   ·exact ht f
  ·exact ht f
theorem Qbw {P : Program} {told : List (Nat × Qj)} {fns : List (Nat × Func)} {rds : List Nat} {fuel deep n : Nat} (ht : ∀ f, Qb P f (gam told f)) (hmix : P.follows .mixedOrders = true) (hfns : Q3s P fns) {f : Nat} {fn : Func} {c : Code} {tout : List Ty} {y : dens tout}
  (hf : P.funcs[f]? = some fn) (hb : fn.body = some c) (hn : (fn.name == "runtime.NumGoroutine") = false)
  (hr : ∀ {ρ : Type} (K : dens tout → Option ρ), evC ⟨P, runH P told fns rds fuel deep n⟩ c (annF ⟨P, runH P told fns rds fuel deep n⟩ fuel deep c) (Q32 fn.ntmps []) (finK P fn.results.toList tout K) = K y) : Qb P f (Qn [] tout fun _ => some y) :=
 Qs (C := ⟨P, runH P told fns rds fuel deep n⟩) (Q3x ht hmix hfns n) hmix (tin := []) (tout := tout) (fun _ K => K y) hf hb hn (Q22 (C := ⟨P, runH P told fns rds fuel deep n⟩) (Q3x ht hmix hfns n) hmix fuel deep c 0) (fun _ K => hr K)
end Go.Am
namespace Go.Am
open Go
theorem Qd7 {np : Nat} {C : Ctx} (hΓ : ∀ f, Qb C.P f (C.Γ f)) (hmix : C.P.follows .mixedOrders = true) {c : Code} {st st' : St} {e : Exit} (keep : List Nat)
  (h : evC C c .nil st (fun e st => some (e, (⟨Q3j keep 0 st.sl, st.H⟩ : St))) = some (e, st')) : Goes np C.P c st e st' := by
 obtain ⟨e1, st1, h1, h2⟩ := Q1u (np := np) hΓ hmix c .nil st _ _ Q1J h
 cases h1
 intro m μ w a Q rh rs hQ
 refine h2 m μ w a Q rh rs fun a1 w1 m1 μ1 rs1 p1 => ?_
 obtain ⟨m2, μ2, rs2, p2⟩ := Qb8 (np := np) keep m1 μ1 w1 a1 p1.rh rs1
 exact hQ _ _ _ _ rs2 (p1.trans p2)
structure Q8m (m : Mem) (w : World) (xs : List Int) (v : Value) (l : Loc) : Prop where
 val : ∃ cap, v = .slice (some ⟨l.b, l.off, none⟩) xs.length cap ∧ xs.length ≤ cap ∧ l.off + cap ≤ l.tot
 pos : 0 < l.tot
 sh : l.sh = .arr xs.length (.int .i64)
 mp : l.mp = false
 cells : ∃ cs fz, w.heap[l.b]? = some (.cells cs l.E fz) ∧ cs.size = l.tot ∧ (∀ j, j < l.tot → ¬ (fz.1 ≤ j ∧ j < fz.2)) ∧ l.off + (AVal.vec (.int .i64) xs).sh.size ≤ l.tot ∧ DRel m (.arr xs.length (.int .i64)) xs ((cs.toList.drop l.off).take (AVal.vec (.int .i64) xs).sh.size)
theorem Q8m.step {m m' : Mem} {w w' : World} {xs : List Int} {v : Value} {l : Loc} (h : Q8m m w xs v l) (hm : m.le m') (hk : w'.heap[l.b]? = w.heap[l.b]?) : Q8m m' w' xs v l := by
 obtain ⟨cs, fz, g1, g2, g3, g4, g5⟩ := h.cells
 exact ⟨h.val, h.pos, h.sh, h.mp, cs, fz, hk.trans g1, g2, g3, g4, g5.mono hm⟩
structure HR (m : Mem) (μ : LMap) (H : Heap) (w : World) (lo b : Nat) (rows : List (Int × List Int)) (es : Array MapEntry) (clock : Nat) (ls : List Loc) (hole : Option Nat) : Prop where
 map : w.heap[b]? = some (.map es clock)
 own : ¬ Q1q μ H b
 len : es.toList.length = rows.length
 len' : ls.length = rows.length
 key : ∀ (i : Nat) (r : Int × List Int) (e : MapEntry), rows[i]? = some r → es.toList[i]? = some e → e.key = .int .u64 r.1
 row : ∀ (i : Nat) (r : Int × List Int) (e : MapEntry) (l : Loc), some i ≠ hole → rows[i]? = some r → es.toList[i]? = some e → ls[i]? = some l → Q8m m w r.2 e.val l ∧ ¬ Q1q μ H l.b ∧ m l.b = none ∧ w.heap.size > l.b
 inj : ∀ (i j : Nat) (li lj : Loc), some i ≠ hole → some j ≠ hole → ls[i]? = some li → ls[j]? = some lj → li.b = lj.b → i = j
 lows : ∀ (i : Nat) (l : Loc), some i ≠ hole → ls[i]? = some l → lo ≤ l.b
theorem HR.step {np : Nat} {m m' : Mem} {μ μ' : LMap} {H H' : Heap} {w w' : World} {lo b : Nat} {rows : List (Int × List Int)} {es : Array MapEntry} {clock : Nat} {ls : List Loc} {hole : Option Nat} (h : HR m μ H w lo b rows es clock ls hole)
  (p : Q11 np m μ H w m' μ' H' w') : HR m' μ' H' w' lo b rows es clock ls hole := by
 have hb := Q0Q h.map
 refine ⟨(p.keep b hb h.own).trans h.map, fun ho => h.own (p.grow b ho hb), h.len, h.len', h.key, fun i r e l hi h1 h2 h3 => ?_, h.inj, h.lows⟩
 obtain ⟨g1, g2, g3, g4⟩ := h.row i r e l hi h1 h2 h3
 refine ⟨g1.step p.ml (p.keep _ g4 g2), fun ho => g2 (p.grow _ ho g4), ?_, Nat.lt_of_lt_of_le g4 p.size⟩
 cases hc : m' l.b with
 | none => rfl
 | some c =>
  rcases p.mgrow _ _ hc with g | g | g
  ·rw [g3] at g; cases g
  ·exact (g2 g).elim
  ·omega
theorem Q11.adopt {np : Nat} {m0 m : Mem} {μ0 μ : LMap} {H0 H : Heap} {w0 w : World} (p : Q11 np m0 μ0 H0 w0 m μ H w) (hnp : np ≤ H.length) {xs : List Int} {v : Value} {l : Loc} (hr : Q8m m w xs v l) (hno : ¬ Q1q μ H l.b) (hm : m l.b = none) (hlo : w0.heap.size ≤ l.b) :
  Q11 np m0 μ0 H0 w0 m (fun i => if i = H.length then some l else μ i) (H ++ [some (.vec (.int .i64) xs)]) w ∧ μ.le (fun i => if i = H.length then some l else μ i) ∧ VRel m (fun i => if i = H.length then some l else μ i) (.vsl H.length) v := by
 have h := p.rh
 have hdom : μ H.length = none := h.dom _ (Nat.le_refl _)
 have hμ : μ.le (fun i => if i = H.length then some l else μ i) := by
  intro j l' hl'
  show (if j = H.length then _ else μ j) = some l'
  rw [if_neg (fun e => by subst e; rw [hdom] at hl'; cases hl')]; exact hl'
 obtain ⟨cap, hv, hcap, htot⟩ := hr.val
 obtain ⟨cs, fz, g1, g2, g3, g4, g5⟩ := hr.cells
 have hsh : (AVal.vec (.int .i64) xs).sh = .arr xs.length (.int .i64) := rfl
 refine ⟨⟨⟨h.mem, ?_, ?_, ?_, ?_, ?_, ?_, ?_⟩, p.ml, ?_, p.os, p.tape, p.output, p.size, p.keep, ?_, p.mgrow⟩, hμ, ?_⟩
 ·intro j x hj
  rcases Q0z hj with ⟨h1, h2⟩ | ⟨h1, h2⟩
  ·subst h1; subst h2
   exact ⟨l, by simp, by rw [hr.sh, hsh], .inr ⟨hr.pos, hm, cs, l.E, fz, g1, g2, g3, g4, g5⟩⟩
  ·obtain ⟨lj, hbj⟩ := h.blk j x h2
   refine ⟨lj, hμ _ _ hbj.loc, hbj.sh, ?_⟩
   rcases hbj.cells with ⟨p1, p2, p3, p4⟩ | ⟨p0, q1, c, E1, fz1, q2, q3⟩
   ·exact .inl ⟨p1, p2, p3, p4.mono (Mem.le_refl m) hμ⟩
   ·exact .inr ⟨p0, q1, c, E1, fz1, q2, q3.1, q3.2.1, q3.2.2.1, q3.2.2.2.mono (Mem.le_refl m) hμ⟩
 ·intro j k x y lj lk hj hk hlj hlk z1 z2 he
  rcases Q0z hj with ⟨h1, h2⟩ | ⟨h1, h2⟩
  ·subst h1
   simp only [if_true, Option.some.injEq] at hlj
   subst hlj
   rcases Q0z hk with ⟨h4, h5⟩ | ⟨h4, h5⟩
   ·exact h4.symm
   ·have hlk : μ k = some lk := by simpa [Nat.ne_of_lt h4] using hlk
    exact (hno ⟨k, y, lk, h5, hlk, .inl z2, he.symm⟩).elim
  ·rcases Q0z hk with ⟨h4, h5⟩ | ⟨h4, h5⟩
   ·subst h4
    simp only [if_true, Option.some.injEq] at hlk
    subst hlk
    have hlj : μ j = some lj := by simpa [Nat.ne_of_lt h1] using hlj
    exact (hno ⟨j, x, lj, h2, hlj, .inl z1, he⟩).elim
   ·have hlj : μ j = some lj := by simpa [Nat.ne_of_lt h1] using hlj
    have hlk : μ k = some lk := by simpa [Nat.ne_of_lt h4] using hlk
    exact h.inj j k x y lj lk h2 h5 hlj hlk z1 z2 he
 ·intro j hj
  simp only [List.length_append, List.length_cons, List.length_nil] at hj
  show (if j = H.length then _ else μ j) = none
  rw [if_neg (by omega)]; exact h.dom j (by omega)
 ·intro j x lj hj hlj hz
  rcases Q0z hj with ⟨h1, h2⟩ | ⟨h1, h2⟩
  ·subst h1
   simp only [if_true, Option.some.injEq] at hlj
   subst hlj
   exact ⟨cs, fz, g1⟩
  ·have hlj : μ j = some lj := by simpa [Nat.ne_of_lt h1] using hlj
   exact h.typ j x lj h2 hlj hz
 ·intro j x lj hj hx hlj hz
  rcases Q0z hj with ⟨h1, h2⟩ | ⟨h1, h2⟩
  ·subst h2; cases hx
  ·have hlj : μ j = some lj := by simpa [Nat.ne_of_lt h1] using hlj
   exact h.vb j x lj h2 hx hlj hz
 ·intro j x lj hj hlj hpz
  rcases Q0z hj with ⟨h1, h2⟩ | ⟨h1, h2⟩
  ·subst h1
   simp only [if_true, Option.some.injEq] at hlj
   subst hlj
   rw [hr.mp] at hpz; cases hpz
  ·have hlj : μ j = some lj := by simpa [Nat.ne_of_lt h1] using hlj
   exact h.mp j x lj h2 hlj hpz
 ·intro j k x y lj lk hj hk pj pk hlj hlk he
  rcases Q0z hj with ⟨h1, h2⟩ | ⟨h1, h2⟩
  ·subst h1
   simp only [if_true, Option.some.injEq] at hlj
   subst hlj
   rw [hr.mp] at pj; cases pj
  ·rcases Q0z hk with ⟨h4, h5⟩ | ⟨h4, h5⟩
   ·subst h4
    simp only [if_true, Option.some.injEq] at hlk
    subst hlk
    rw [hr.mp] at pk; cases pk
   ·have hlj : μ j = some lj := by simpa [Nat.ne_of_lt h1] using hlj
    have hlk : μ k = some lk := by simpa [Nat.ne_of_lt h4] using hlk
    exact h.mpi j k x y lj lk h2 h5 pj pk hlj hlk he
 ·intro i l' hi hl'
  exact hμ _ _ (p.fix i l' hi hl')
 ·rintro b' ⟨j, x, lj, hj, hlj, q, he⟩ hb
  rcases Q0z hj with ⟨h1, h2⟩ | ⟨h1, h2⟩
  ·subst h1
   simp only [if_true, Option.some.injEq] at hlj
   subst hlj; omega
  ·have hlj : μ j = some lj := by simpa [Nat.ne_of_lt h1] using hlj
   exact p.grow b' ⟨j, x, lj, h2, hlj, q, he⟩ hb
 ·exact ⟨l, xs.length, .int .i64, _, cap, if_pos rfl, hr.sh, hcap, by rw [hv], .inl ⟨rfl, by show l.off + cap * 1 ≤ l.tot; omega⟩⟩
theorem Qd8 {μ : LMap} {H : Heap} {l : Loc} {a : AVal} {b : Nat} (h : Q1q (fun i => if i = H.length then some l else μ i) (H ++ [some a]) b) : Q1q μ H b ∨ b = l.b := by
 obtain ⟨j, x, lj, hj, hlj, q, he⟩ := h
 rcases Q0z hj with ⟨h1, h2⟩ | ⟨h1, h2⟩
 ·subst h1
  simp only [if_true, Option.some.injEq] at hlj
  subst hlj; exact .inr he.symm
 ·have hlj : μ j = some lj := by simpa [Nat.ne_of_lt h1] using hlj
  exact .inl ⟨j, x, lj, h2, hlj, q, he⟩
theorem QdS {m : Mem} {μ : LMap} {H : Heap} {w : World} (rh : RH m μ H w) {k : Nat} {xs : List Int} {v : Value} (hk : H[k]? = some (some (.vec (.int .i64) xs))) (hx : 1 ≤ xs.length) (hv : VRel m μ (.vsl k) v) :
  ∃ l, μ k = some l ∧ Q8m m w xs v l ∧ m l.b = none ∧ Q1q μ H l.b ∧ ¬ Q1q μ (H.set k none) l.b := by
 obtain ⟨l, n, t, a, cap, h1, h2, h3, h4, h5⟩ := hv.one rfl rfl
 obtain ⟨l', hb⟩ := rh.blk k _ hk
 have : l' = l := Option.some.inj (hb.loc.symm.trans h1)
 subst this
 have hsh : (AVal.vec (.int .i64) xs).sh = .arr xs.length (.int .i64) := rfl
 have h6 := hb.sh
 rw [h2, hsh] at h6
 injection h6 with e1 e2
 subst e1; subst e2
 have hsz : (AVal.vec (.int .i64) xs).sh.size = xs.length * 1 := rfl
 rcases hb.cells with ⟨p1, p2, p3, p4⟩ | ⟨p0, gm, cs, E, fz, g1, g2, g3, g4, g5⟩
 ·rw [hsz] at p3; omega
 ·have hc : a = some ⟨l'.b, l'.off, none⟩ ∧ l'.off + cap * 1 ≤ l'.tot := by
   rcases h5 with h5 | h5
   ·exact h5
   ·omega
  obtain ⟨rfl, h7⟩ := hc
  have hmp : l'.mp = false := by
   cases hq : l'.mp with
   | false => rfl
   | true => obtain ⟨h0, _⟩ := rh.mp k _ l' hk h1 hq; omega
  obtain ⟨cs', fz', hE⟩ := rh.typ k _ l' hk h1 p0
  rw [g1] at hE
  cases hE
  refine ⟨l', h1, ⟨⟨cap, (List.cons.inj h4).1, h3, by omega⟩, p0, hb.sh, hmp, cs, fz, g1, g2, g3, g4, g5⟩, gm, ⟨k, _, l', hk, h1, .inl p0, rfl⟩, ?_⟩
  rintro ⟨j, x, lj, hj, hlj, q, he⟩
  have := Q1X hj
  exact this.1 (Q61 rh this.2 hk hlj h1 q (.inl p0) he)
theorem Q11.put {np : Nat} {m0 m : Mem} {μ0 μ : LMap} {H0 H : Heap} {w0 w : World} (p : Q11 np m0 μ0 H0 w0 m μ H w) {b : Nat} {es : Array MapEntry} {c : Nat} (h : w.heap[b]? = some (.map es c)) (hno : ¬ Q1q μ H b) (hb : b < w0.heap.size → Q1q μ0 H0 b) (o : Obj) :
  Q11 np m0 μ0 H0 w0 m μ H { w with heap := w.heap.setIfInBounds b o } := by
 have rh := p.rh
 have keep : ∀ c, c ≠ b → (w.heap.setIfInBounds b o)[c]? = w.heap[c]? := fun c hc => by simp [Ne.symm hc]
 have ne : ∀ {c : Nat} {cs : Array Value} {E : TypeId} {fz : Nat × Nat}, w.heap[c]? = some (.cells cs E fz) → c ≠ b := by
  intro c cs E fz hc e
  subst e
  rw [h] at hc; cases hc
 refine ⟨⟨?_, ?_, rh.inj, rh.dom, ?_, rh.vb, ?_, rh.mpi⟩, p.ml, p.fix, p.os, p.tape, p.output, by show w0.heap.size ≤ (w.heap.setIfInBounds _ _).size; simpa using p.size, ?_, p.grow, p.mgrow⟩
 ·intro c cs hc
  obtain ⟨E1, fz1, h1⟩ := rh.mem c cs hc
  exact ⟨E1, fz1, (keep c (ne h1)).trans h1⟩
 ·intro j x hj
  obtain ⟨lj, hbj⟩ := rh.blk j x hj
  refine ⟨lj, hbj.loc, hbj.sh, ?_⟩
  rcases hbj.cells with g | ⟨p0, q1, cs, E1, fz1, q2, q3⟩
  ·exact .inl g
  ·exact .inr ⟨p0, q1, cs, E1, fz1, (keep lj.b (ne q2)).trans q2, q3⟩
 ·intro j x lj hj hlj hz
  obtain ⟨cs1, fz1, k1⟩ := rh.typ j x lj hj hlj hz
  exact ⟨cs1, fz1, (keep lj.b (ne k1)).trans k1⟩
 ·intro j x lj hj hlj hpz
  obtain ⟨g0, kt', vt', ys, es1, c1, e1, e2, e3⟩ := rh.mp j x lj hj hlj hpz
  exact ⟨g0, kt', vt', ys, es1, c1, e1, (keep lj.b (fun e => hno ⟨j, x, lj, hj, hlj, .inr hpz, e⟩)).trans e2, e3⟩
 ·intro c hc ho
  exact (keep c (fun e => ho (by subst e; exact hb hc))).trans (p.keep c hc ho)
theorem Q6N {s : Int} : ∀ (rows : List (Int × List Int)) (es : List MapEntry) (i : Nat), es.length = rows.length → (∀ (j : Nat) (r : Int × List Int) (e : MapEntry), rows[j]? = some r → es[j]? = some e → e.key = .int .u64 r.1) →
  Instr.findNow (.int .u64) (.int .u64 s) es i = some ((fnd (.int .u64) s rows).map fun j => (i + j, (es.getD j default).val))
 | [], es, i, h, _ => by
  have : es = [] := List.eq_nil_of_length_eq_zero (by rw [h]; rfl)
  subst this
  rfl
 | x :: xs, es, i, h, hk => by
  cases es with
  | nil => simp at h
  | cons e es =>
   have h0 := hk 0 x e rfl rfl
   simp only [Instr.findNow, h0, Instr.sameNow, if_true, fnd, eqK, eqD, Option.getD_some]
   cases c : (s == x.1) with
   | true => simp
   | false =>
    simp only [cond_false]
    rw [Q6N xs es (i + 1) (by simpa using h) (fun j r e h1 h2 => hk (j + 1) r e (by simpa using h1) (by simpa using h2))]
    congr 1
    rw [Option.map_map]
    congr 1
    funext j
    simp only [Function.comp, List.getD_cons_succ]
    congr 1
    omega
section
variable {P : Program} {T K V : TypeId} {m : Mem} {μ : LMap} {w : World} {b clock : Nat} {es : Array MapEntry} {rows : List (Int × List Int)} {s : Int}
theorem Q6U (hK : P.underlying K = some (.int .u64)) (hlen : es.toList.length = rows.length) (hkey : ∀ (i : Nat) (r : Int × List Int) (e : MapEntry), rows[i]? = some r → es.toList[i]? = some e → e.key = .int .u64 r.1) :
  (Instr.findKey K (.int .u64 s) es.toList).run P w = .ok ((fnd (.int .u64) s rows).map fun j => (j, (es.toList.getD j default).val)) w := by
 unfold Instr.findKey
 simp only [run_bind, Qa hK]
 rw [Q6N rows es.toList 0 hlen hkey]
 simp
theorem Qdt {i : TypeInfo} (hu : P.underlying T = some (.map K V)) (hK : P.underlying K = some (.int .u64)) (he : eqTy P 40 K (.int .u64 s) = true) (hi : P.info? V = some i) (hz : i.zero = some (.slice none 0 0))
  (hw : w.heap[b]? = some (.map es clock)) (hlen : es.toList.length = rows.length) (hkey : ∀ (i : Nat) (r : Int × List Int) (e : MapEntry), rows[i]? = some r → es.toList[i]? = some e → e.key = .int .u64 r.1) :
  (Instr.lookup T (.map (some b)) (.int .u64 s) false).run P w = .ok (match fnd (.int .u64) s rows with | some j => (es.toList.getD j default).val | none => .slice none 0 0) w := by
 have hck : (Instr.checkKey es.isEmpty 10000 K (.int .u64 s)).run P w = .ok () w := Q2a (m := fun _ => none) (μ := fun _ => none) 40 10000 K (.int .u64 s) _ w (by decide) he rfl
 have hf := Q6U (w := w) (s := s) hK hlen hkey
 cases hq : fnd (.int .u64) s rows with
 | none =>
  rw [hq] at hf
  simp only [Instr.lookup, run_bind, Qa hu, Q1f hw, QP, hck, hf, Option.map_none, Q1y hi hz]
  rfl
 | some j =>
  rw [hq] at hf
  simp only [Instr.lookup, run_bind, Qa hu, Q1f hw, QP, hck, hf, Option.map_some]
  rfl
theorem QdC (v : Value) (hu : P.underlying T = some (.map K V)) (hK : P.underlying K = some (.int .u64)) (he : eqTy P 40 K (.int .u64 s) = true)
  (hw : w.heap[b]? = some (.map es clock)) (hlen : es.toList.length = rows.length) (hkey : ∀ (i : Nat) (r : Int × List Int) (e : MapEntry), rows[i]? = some r → es.toList[i]? = some e → e.key = .int .u64 r.1) :
  ∃ es' c', (Instr.mapUpdate T (.map (some b)) (.int .u64 s) v).run P w = .ok () { w with heap := w.heap.setIfInBounds b (.map es' c') } ∧
   ((fnd (.int .u64) s rows = none ∧ ∃ e : MapEntry, e.key = .int .u64 s ∧ e.val = v ∧ es'.toList = es.toList ++ [e]) ∨ ∃ j e, fnd (.int .u64) s rows = some j ∧ e.key = .int .u64 s ∧ e.val = v ∧ es'.toList = es.toList.set j e) := by
 have hck : (Instr.checkKey false 10000 K (.int .u64 s)).run P w = .ok () w := Q2a (m := fun _ => none) (μ := fun _ => none) 40 10000 K (.int .u64 s) _ w (by decide) he rfl
 have hf := Q6U (w := w) (s := s) hK hlen hkey
 cases hq : fnd (.int .u64) s rows with
 | none =>
  rw [hq] at hf
  refine ⟨es.push { key := .int .u64 s, val := v, born := clock }, clock + 1, ?_, .inl ⟨rfl, _, rfl, rfl, Array.toList_push⟩⟩
  simp only [Instr.mapUpdate, run_bind, Qa hu, Q1f hw, hck, hf, Option.map_none]
  exact Q2M _ hw
 | some j =>
  rw [hq] at hf
  obtain ⟨y, g1, g2, _, _⟩ := Q4A hq
  have hj : j < es.toList.length := by rw [hlen]; exact (List.getElem?_eq_some_iff.1 g1).1
  have hj' : j < es.size := by simpa using hj
  have hold := hkey j y es.toList[j] g1 (List.getElem?_eq_getElem hj)
  have hky : s = y.1 := by simpa [eqK, eqD] using g2
  have hkk : (((es[j]?).map (·.key)).getD (.int .u64 s)) = .int .u64 s := by
   rw [Array.getElem?_eq_getElem hj']
   show es[j].key = _
   rw [hky]
   simpa using hold
  have hst : (Instr.keyThatStays (.int .u64 s) (.int .u64 s)).run P w = .ok (.int .u64 s) w := Q8N (m := fun _ => none) (t := .int .u64) (x := s) w rfl rfl
  refine ⟨es.modify j fun e => { e with key := .int .u64 s, val := v }, clock, ?_, .inr ⟨j, { es[j] with key := .int .u64 s, val := v }, rfl, rfl, rfl, ?_⟩⟩
  ·simp only [Instr.mapUpdate, run_bind, Qa hu, Q1f hw, hck, hf, Option.map_some, hkk, hst]
   exact Q2M _ hw
  ·apply List.ext_getElem?
   intro i
   rw [Array.getElem?_toList, Array.getElem?_modify]
   by_cases hij : j = i
   ·subst hij
    rw [if_pos rfl, List.getElem?_set_self hj, Array.getElem?_eq_getElem hj']
    rfl
   ·rw [if_neg hij, List.getElem?_set_ne hij, Array.getElem?_toList]
end
theorem Q7a {C : Ctx} (hΓ : ∀ f, Qb C.P f (C.Γ f)) {ops : Array Oper} {os : List Oper} {st st' : St} (i0 : Nat) (keep : List Nat) (hos : ∀ (j : Nat) (o : Oper), os[j]? = some o → ops[i0 + j]? = some o)
  (h : Q1W C ops os st [] (fun st _ => some (⟨Q3j keep 0 st.sl, st.H⟩ : St)) = some st') (rest : List Nat) {m : Mem} {μ : LMap} {w : World} {a : Act} {Q : Exit → Act → World → Prop} (rh : RH m μ st.H w) (rs : RS m μ st.sl a)
  (hQ : ∀ a' w' m' μ', RS m' μ' st'.sl a' → Post m μ st.H w m' μ' st'.H w' → wpOps C.P ops Q rest a' w') : wpOps C.P ops Q (List.range' i0 os.length ++ rest) a w := by
 obtain ⟨S, V, E, es', hS0, hc, hk, _⟩ := Q1P hΓ os i0 st [] hos h
 cases hk
 refine Q4f hc rest os.length 0 (by omega) m μ w a (by rw [hS0]; exact rh) (by rw [hS0]; exact rs) fun a1 w1 m1 μ1 rs1 p1 => ?_
 rw [hS0] at p1
 refine hQ a1 w1 m1 μ1 ⟨by rw [Q33]; exact rs1.size, rs1.defers, fun i x hx => ?_⟩ p1
 rcases Q57 hx with h | ⟨rfl, h⟩
 ·exact rs1.rel i x h
 ·obtain ⟨v, hv⟩ := rs1.vals h
  exact ⟨v, hv, Q3X v⟩
theorem Qdg {P : Program} {a : Act} {w w' : World} {o : Oper} {T : TypeId} {x y : Operand} {b : Bool} {v : Value} (ho : o.op = .lookup T x y b) (h : (Instr.lookup T (a.eval x) (a.eval y) b).run P w = .ok v w') : (execOp a.eval o).run P w = .ok (.value v) w' := by
 unfold execOp
 rw [ho]
 simp only [Sem.run_bind, h, Result.andThen]
 rfl
theorem Qde {P : Program} {a : Act} {w w' : World} {o : Oper} {T : TypeId} {x y z : Operand} (ho : o.op = .mapUpdate T x y z) (h : (Instr.mapUpdate T (a.eval x) (a.eval y) (a.eval z)).run P w = .ok () w') : (execOp a.eval o).run P w = .ok .skip w' := by
 unfold execOp
 rw [ho]
 simp only [Sem.run_bind, h, Result.andThen]
 rfl
theorem QbI {P : Program} {ops : Array Oper} {Q : Exit → Act → World → Prop} {i : Nat} {o : Oper} {K : Act → World → Prop} {a : Act} {w w' : World} (hi : ops[i]? = some o) (hg : o.guard = none)
  (hr : (execOp a.eval o).run P w = .ok .skip w') (hK : K (a.put o.dst undef) w') : wpOp P ops Q i K a w := by
 unfold wpOp
 simp only [hi, Region.wanted, hg, if_true]
 refine .inl ?_
 unfold Oper.wp
 rw [hr]
 exact hK
theorem Q11.nothing {np : Nat} {m0 m : Mem} {μ0 μ : LMap} {H0 H : Heap} {w0 w : World} (p : Q11 np m0 μ0 H0 w0 m μ H w) : ∃ μ', Q11 np m0 μ0 H0 w0 m μ' (H ++ [some (.vec (.int .i64) [])]) w ∧ Q11 np m μ H w m μ' (H ++ [some (.vec (.int .i64) [])]) w ∧ μ.le μ' ∧ VRel m μ' (.vsl H.length) (.slice none 0 0) := by
 have q := p.rh.phantom (a := .vec (.int .i64) []) rfl (by show DRel m (.arr 0 (.int .i64)) [] []; simp [DRel]) 0
 exact ⟨_, p.trans q.toW, q.toW, q.μl, ⟨0, 0, .arr 0 (.int .i64), 0, 0, false⟩, 0, .int .i64, none, 0, if_pos rfl, rfl, Nat.le_refl _, rfl, .inr rfl⟩
end Go.Am
namespace Go.Am
open Go
structure TS (l : List (Option Value)) (a : Act) : Prop where
 size : a.tmps.size = l.length
 defers : a.defers = []
 val : ∀ (i : Nat) (v : Value), l[i]? = some (some v) → a.tmps[i]? = some v
theorem TS.put {l : List (Option Value)} {a : Act} (ts : TS l a) (d : Nat) (v : Value) : TS (l.set d (some v)) (a.put (some d) v) := by
 refine ⟨by simp [Act.put, ts.size], ts.defers, fun i u h => ?_⟩
 show (a.tmps.setIfInBounds d v)[i]? = some u
 by_cases hd : d = i
 ·subst hd
  have hl : d < l.length := by
   have := (List.getElem?_eq_some_iff.1 h).1
   simpa using this
  rw [List.getElem?_set_self hl] at h
  cases h
  rw [Array.getElem?_setIfInBounds_self_of_lt (by rw [ts.size]; exact hl)]
 ·rw [List.getElem?_set_ne hd] at h
  rw [Array.getElem?_setIfInBounds_ne hd]
  exact ts.val i u h
theorem TS.eval {l : List (Option Value)} {a : Act} (ts : TS l a) {t : Nat} {v : Value} (h : l.getD t none = some v) : a.eval (.tmp t) = v := by
 have h1 : l[t]? = some (some v) := by
  rw [List.getD_eq_getElem?_getD] at h
  cases hq : l[t]? with
  | none => rw [hq] at h; cases h
  | some x => rw [hq] at h; exact congrArg some h
 have := ts.val t v h1
 show a.tmps.getD t undef = v
 simp [this]
def Q6X (keep : List Nat) : Nat → List (Option Value) → List (Option Value)
 | _, [] => []
 | i, x :: l => (cond (inB i keep) x none) :: Q6X keep (i + 1) l
theorem Q8V {keep : List Nat} : ∀ {l : List (Option Value)} {i0 j : Nat} {v : Value}, (Q6X keep i0 l)[j]? = some (some v) → l[j]? = some (some v)
 | [], _, _, _, h => by simp [Q6X] at h
 | y :: l, i0, j, v, h => by
  cases j with
  | zero =>
   simp only [Q6X, List.getElem?_cons_zero, Option.some.injEq] at h ⊢
   cases hb : inB i0 keep with
   | true => rw [hb] at h; exact h
   | false => rw [hb] at h; cases h
  | succ j =>
   simp only [Q6X, List.getElem?_cons_succ] at h ⊢
   exact Q8V h
theorem Q5W {keep : List Nat} : ∀ {l : List (Option Value)} {i0 : Nat}, (Q6X keep i0 l).length = l.length
 | [], _ => rfl
 | _ :: l, _ => by simp [Q6X, Q5W (l := l)]
theorem TS.mask {l l' : List (Option Value)} {a : Act} (ts : TS l a) (keep : List Nat) (h : Q6X keep 0 l = l') : TS l' a := by
 subst h
 exact ⟨by rw [Q5W]; exact ts.size, ts.defers, fun i v h => ts.val i v (Q8V h)⟩
def OpAt (ops : Array Oper) (i : Nat) (p : Op) (d : Option Nat) : Prop := (ops[i]?).map (fun o => (o.op, o.guard.isNone, o.dst)) = some (p, true, d)
theorem OpAt.get {ops : Array Oper} {i : Nat} {p : Op} {d : Option Nat} (h : OpAt ops i p d) : ∃ o, ops[i]? = some o ∧ o.op = p ∧ o.guard = none ∧ o.dst = d := by
 unfold OpAt at h
 cases hq : ops[i]? with
 | none => rw [hq] at h; cases h
 | some o =>
  rw [hq] at h
  simp only [Option.map_some, Option.some.injEq, Prod.mk.injEq, Option.isNone_iff_eq_none] at h
  exact ⟨o, rfl, h.1, h.2.1, h.2.2⟩
section
variable {P : Program} {ops : Array Oper} {Q : Exit → Act → World → Prop} {i d : Nat} {rest : List Nat} {l : List (Option Value)} {a : Act} {w w' : World} {v : Value} {p : Op}
theorem TS.step (ts : TS l a) (ho : OpAt ops i p (some d)) (hr : ∀ o : Oper, o.op = p → (execOp a.eval o).run P w = .ok (.value v) w') (hK : ∀ a', TS (l.set d (some v)) a' → wpOps P ops Q rest a' w') : wpOps P ops Q (i :: rest) a w := by
 obtain ⟨o, h1, h2, h3, h4⟩ := ho.get
 rw [wpOps_cons]
 refine Q26 h1 h3 (hr o h2) ?_
 rw [h4]
 exact hK _ (ts.put d v)
theorem TS.skip (ts : TS l a) (ho : OpAt ops i p none) (hr : ∀ o : Oper, o.op = p → (execOp a.eval o).run P w = .ok .skip w') (hK : ∀ a', TS l a' → wpOps P ops Q rest a' w') : wpOps P ops Q (i :: rest) a w := by
 obtain ⟨o, h1, h2, h3, h4⟩ := ho.get
 rw [wpOps_cons]
 refine QbI h1 h3 (hr o h2) ?_
 rw [h4]
 exact hK _ ts
theorem TS.move {x : Operand} (ts : TS l a) (ho : OpAt ops i (.move x) (some d)) (hx : a.eval x = v) (hK : ∀ a', TS (l.set d (some v)) a' → wpOps P ops Q rest a' w) : wpOps P ops Q (i :: rest) a w :=
 ts.step ho (fun o h => by unfold execOp; rw [h]; subst hx; rfl) hK
theorem TS.assign {x : Operand} (ts : TS l a) (ho : OpAt ops i (.assign x) (some d)) (hx : a.eval x = v) (hK : ∀ a', TS (l.set d (some v)) a' → wpOps P ops Q rest a' w) : wpOps P ops Q (i :: rest) a w :=
 ts.step ho (fun o h => by unfold execOp; rw [h]; subst hx; rfl) hK
theorem TS.bin {b : BinOp} {T T' : TypeId} {x y : Operand} {vx vy : Value} (ts : TS l a) (ho : OpAt ops i (.binOp b T x y T') (some d)) (hx : a.eval x = vx) (hy : a.eval y = vy) (hr : (do eqGuard b T x y vx vy; binOp b T vx vy : Sem Value).run P w = .ok v w)
  (hK : ∀ a', TS (l.set d (some v)) a' → wpOps P ops Q rest a' w) : wpOps P ops Q (i :: rest) a w :=
 ts.step ho (fun o h => by
  unfold execOp; rw [h]; subst hx; subst hy
  show (do pure (.value (← (do eqGuard b T x y (a.eval x) (a.eval y); binOp b T (a.eval x) (a.eval y) : Sem Value))) : Sem Next).run P w = _
  rw [run_bind, hr]; rfl) hK
theorem TS.nil {x : Operand} {ad : Addr} (ts : TS l a) (ho : OpAt ops i (.nilCheck x) (some d)) (hx : a.eval x = .pointer (some ad)) (hK : ∀ a', TS (l.set d (some (.pointer (some ad)))) a' → wpOps P ops Q rest a' w) : wpOps P ops Q (i :: rest) a w :=
 ts.step ho (fun o h => by unfold execOp; rw [h]; dsimp only; rw [hx]; rfl) hK
theorem TS.field {S : TypeId} {x : Operand} {f b o' n : Nat} {fs : Array Field} {fd : Field} (ts : TS l a) (ho : OpAt ops i (.fieldAddr S x f) (some d)) (hx : a.eval x = .pointer (some ⟨b, o', none⟩)) (hu : P.underlying S = some (.struct fs)) (hf : fs[f]? = some fd)
  (hs : Q16 P fd.type = some n) (hn : n ≠ 0) (hK : ∀ a', TS (l.set d (some (.pointer (some ⟨b, o' + fd.offset, none⟩)))) a' → wpOps P ops Q rest a' w) : wpOps P ops Q (i :: rest) a w :=
 ts.step ho (fun o h => by
  unfold execOp; rw [h]; dsimp only; rw [hx, run_bind, Q4W hu hf hs hn]; rfl) hK
theorem TS.load {T : TypeId} {x : Operand} {ad : Addr} (ts : TS l a) (ho : OpAt ops i (.load T x) (some d)) (hx : a.eval x = .pointer (some ad)) (hr : (loadVar T ad).run P w = .ok v w) (hK : ∀ a', TS (l.set d (some v)) a' → wpOps P ops Q rest a' w) : wpOps P ops Q (i :: rest) a w :=
 ts.step ho (fun o h => by
  unfold execOp; rw [h]; dsimp only; rw [hx, run_bind]
  have : (Instr.loadAt T (.pointer (some ad))).run P w = .ok v w := by simp only [Instr.loadAt, run_bind, Instr.sureAddr, QP]; exact hr
  rw [this]; rfl) hK
theorem TS.index {T e : TypeId} {x y : Operand} {n j s : Nat} {k : IntKind} {cs : Array Value} (ts : TS l a) (ho : OpAt ops i (.index T x y) (some d)) (hx : a.eval x = .agg cs) (hy : a.eval y = .int k (j : Int)) (hu : P.underlying T = some (.array n e)) (hj : j < n)
  (hs : Q16 P e = some s) (ha : Q1H P e = some true) (hK : ∀ a', TS (l.set d (some (.agg (cs.extract (j * s) (j * s + s))))) a' → wpOps P ops Q rest a' w) : wpOps P ops Q (i :: rest) a w :=
 ts.step ho (fun o h => by
  unfold execOp; rw [h]; dsimp only; rw [hx, hy, run_bind]
  have : (Instr.index T (.agg cs) (.int k (j : Int))).run P w = .ok (.agg (cs.extract (j * s) (j * s + s))) w := by
   simp only [Instr.index, asIntOf, run_bind, QP, Qa hu]
   rw [if_pos (by omega)]
   simp only [run_bind, Q0N hs, part, Q2s ha, if_true, QP, Int.toNat_natCast]
  rw [this]; rfl) hK
theorem TS.alloc {T : TypeId} {ti : TypeInfo} {z : Value} (ts : TS l a) (ho : OpAt ops i (.alloc T) (some d)) (hi : P.info? T = some ti) (hz : ti.zero = some z)
  (hK : ∀ a', TS (l.set d (some (.pointer (some ⟨w.heap.size, 0, none⟩)))) a' → wpOps P ops Q rest a' { w with heap := w.heap.push (.cells z.cells T) }) : wpOps P ops Q (i :: rest) a w :=
 ts.step ho (fun o h => by
  unfold execOp; rw [h]; dsimp only
  simp only [Instr.alloc, run_bind, Q1y hi hz, Q4h, QP]) hK
theorem TS.store {T : TypeId} {x y : Operand} {ad : Addr} (ts : TS l a) (ho : OpAt ops i (.store T x y) none) (hx : a.eval x = .pointer (some ad)) (hy : a.eval y = v) (hr : (storeVar T ad v).run P w = .ok () w') (hK : ∀ a', TS l a' → wpOps P ops Q rest a' w') : wpOps P ops Q (i :: rest) a w :=
 ts.skip ho (fun o h => by
  unfold execOp; rw [h]; dsimp only; rw [hx, hy, run_bind]
  have : (Instr.storeAt T (.pointer (some ad)) v).run P w = .ok () w' := by simp only [Instr.storeAt, run_bind, Instr.sureAddr, QP]; exact hr
  rw [this]; rfl) hK
theorem TS.slice {T e : TypeId} {x : Operand} {n s : Nat} {ad : Addr} (ts : TS l a) (ho : OpAt ops i (.slice T x none none none) (some d)) (hx : a.eval x = .pointer (some ad)) (hu : P.underlying T = some (.array n e)) (hs : Q16 P e = some s) (hn : n ≠ 0)
  (hK : ∀ a', TS (l.set d (some (.slice (some ad) n n))) a' → wpOps P ops Q rest a' w) : wpOps P ops Q (i :: rest) a w :=
 ts.step ho (fun o h => by
  unfold execOp; rw [h]; dsimp only; rw [hx, run_bind]
  have hb := Q1t (P := P) (m := fun _ => none) (μ := fun _ => none) (lo := none) (hi := none) (lv := none) (hv := none) (l := 0) (h := n) (len := n) (cap := n) false w trivial trivial rfl rfl (by omega)
  have : (Instr.sliceAt T (.pointer (some ad)) none none none).run P w = .ok (.slice (some ad) n n) w := by
   simp only [Instr.sliceAt, run_bind, Qa hu, Instr.sureAddr, QP]
   rw [hb]
   simp only [run_bind, Q0N hs, QP]
   rw [if_neg (by omega)]
   have e0 : ad.add 0 = ad := by cases ad; simp [Addr.add]
   simp [e0]
  simp only [Option.map_none]
  rw [this]; rfl) hK
theorem TS.builtin {b : Builtin} {args : Array Operand} {ats : Array TypeId} (ts : TS l a) (ho : OpAt ops i (.call { callee := .builtin b, args := args, argTypes := ats }) (some d))
  (hr : ∀ o : Oper, o.op = .call { callee := .builtin b, args := args, argTypes := ats } → (execOp a.eval o).run P w = .ok (.value v) w') (hK : ∀ a', TS (l.set d (some v)) a' → wpOps P ops Q rest a' w') : wpOps P ops Q (i :: rest) a w := ts.step ho hr hK
theorem TS.enter {f : Nat} {args : Array Operand} {ats : Array TypeId} {fn : Func} {c : Code} {R : Ending → World → Prop} (ts : TS l a) (ho : OpAt ops i (.call { callee := .value (.func f), args := args, argTypes := ats }) (some d)) (hf : P.funcs[f]? = some fn) (hb : fn.body = some c) (hn : (fn.name == "runtime.NumGoroutine") = false)
  (hc : Calls P f (args.map a.eval) w R) (hK : ∀ e w', R e w' → ∃ u, e = .returned u ∧ ∀ a', TS (l.set d (some u)) a' → wpOps P ops Q rest a' w') : wpOps P ops Q (i :: rest) a w := by
 obtain ⟨o, h1, h2, h3, h4⟩ := ho.get
 rw [wpOps_cons]
 unfold wpOp
 simp only [h1, Region.wanted, h3, if_true]
 refine .inl ?_
 have he : (execOp a.eval o).run P w = .ok (.enter f (args.map a.eval)) w := by
  unfold execOp
  rw [h2]
  show (do let d ← resolve a.eval { callee := .value (.func f), args := args, argTypes := ats } o.type; invoke d.target d.args : Sem Next).run P w = _
  simp only [resolve, Act.eval, Deferred.ofValue, invoke]
  have : (callFunc f ((#[] ++ args.map a.eval) ++ #[])).run P w = .ok (.enter f (args.map a.eval)) w := by
   rw [Q1z hf hb hn]; simp
  exact this
 unfold Oper.wp
 rw [he]
 simp only [Oper.upon]
 refine hc.mono fun e w' hR => ?_
 obtain ⟨u, rfl, h5⟩ := hK e w' hR
 dsimp only
 rw [h4]
 exact h5 _ (ts.put d u)
end
structure Fr (w0 w : World) : Prop where
 os : w.os = w0.os
 tape : w.tape = w0.tape
 output : w.output = w0.output
 size : w0.heap.size ≤ w.heap.size
 keep : ∀ b, b < w0.heap.size → w.heap[b]? = w0.heap[b]?
theorem Fr.refl (w : World) : Fr w w := ⟨rfl, rfl, rfl, Nat.le_refl _, fun _ _ => rfl⟩
theorem Fr.trans {w0 w1 w2 : World} (h : Fr w0 w1) (k : Fr w1 w2) : Fr w0 w2 :=
 ⟨k.os.trans h.os, k.tape.trans h.tape, k.output.trans h.output, Nat.le_trans h.size k.size, fun b hb => (k.keep b (Nat.lt_of_lt_of_le hb h.size)).trans (h.keep b hb)⟩
theorem Fr.push {w0 w : World} (h : Fr w0 w) (o : Obj) (dr : Nat) : Fr w0 { w with heap := w.heap.push o, drawn := dr } :=
 ⟨h.os, h.tape, h.output, by show w0.heap.size ≤ (w.heap.push o).size; rw [Array.size_push]; exact Nat.le_succ_of_le h.size, fun b hb => by
  show (w.heap.push o)[b]? = _
  have := h.size
  rw [Array.getElem?_push, if_neg (by omega)]; exact h.keep b hb⟩
theorem Fr.puts {w0 w w' : World} {b : Nat} {cs : Array Value} {E : TypeId} {fz : Nat × Nat} (h : Fr w0 w) (hp : Puts w b cs E fz w') (hb : w0.heap.size ≤ b) : Fr w0 w' :=
 ⟨hp.os.trans h.os, hp.tape.trans h.tape, hp.output.trans h.output, by rw [hp.size]; exact h.size, fun c hc => (hp.keep c (by omega)).trans (h.keep c hc)⟩
end Go.Am
namespace Go.Am
open Go
def SlAt (w : World) (lo : Nat) (s : Value) (X : List Value) : Prop :=
 (s = .slice none 0 0 ∧ X = []) ∨ ∃ (ob off cap : Nat) (cs : Array Value) (E : TypeId) (fz : Nat × Nat), s = .slice (some ⟨ob, off, none⟩) X.length cap ∧ X.length ≤ cap ∧ lo ≤ ob ∧ w.heap[ob]? = some (.cells cs E fz) ∧ off + cap ≤ cs.size ∧ (∀ j, j < cs.size → ¬ (fz.1 ≤ j ∧ j < fz.2)) ∧ (cs.toList.drop off).take X.length = X
theorem SlAt.keep {w w' : World} {lo : Nat} {s : Value} {X : List Value} (h : SlAt w lo s X) (hk : ∀ b, lo ≤ b → b < w.heap.size → w'.heap[b]? = w.heap[b]?) : SlAt w' lo s X := by
 rcases h with h | ⟨ob, off, cap, cs, E, fz, g1, g2, g3, g4, g5⟩
 ·exact .inl h
 ·exact .inr ⟨ob, off, cap, cs, E, fz, g1, g2, g3, (hk ob g3 (Q0Q g4)).trans g4, g5⟩
theorem QdG {P : Program} {w0 w : World} {s : Value} {X Y : List Value} {S e ty : TypeId} {ti : TypeInfo} {z : Value} {n yo ycap : Nat} {ycs : Array Value} {yE : TypeId} {yfz : Nat × Nat} (hf : Fr w0 w) (h : SlAt w w0.heap.size s X)
  (hu : P.underlying S = some (.slice e)) (hi : P.info? e = some ti) (h1 : ti.size = 1) (hb : ti.bytes ≠ 0) (hz : ti.zero = some z) (hy : w.heap[n]? = some (.cells ycs yE yfz)) (hys : yo + Y.length ≤ ycs.size) (hY : (ycs.toList.drop yo).take Y.length = Y)
  (hfl : ∀ v ∈ Y, Q2d v = true) (hne : ∀ ob off len cap, s = .slice (some ⟨ob, off, none⟩) len cap → ob ≠ n) (hfit : (X.length + Y.length) * ti.bytes ≤ 140737488355328) (hz1 : z.cells.size = 1) :
  ∃ s' w', (Builtin.append_ #[S, S] ty #[s, .slice (some ⟨n, yo, none⟩) Y.length ycap]).run P w = .ok s' w' ∧ Fr w0 w' ∧ SlAt w' w0.heap.size s' (X ++ Y) := by
 have hn : ∀ w, (Builtin.lenOf (.slice (some ⟨n, yo, none⟩) Y.length ycap)).run P w = .ok Y.length w := fun w => rfl
 have hfc : ∀ dr, (Builtin.firstCells ti.size Y.length (.slice (some ⟨n, yo, none⟩) Y.length ycap)).run P { w with drawn := dr } = .ok Y.toArray { w with drawn := dr } := by
  intro dr
  show (loadCells ⟨n, yo, none⟩ (Y.length * ti.size)).run P _ = _
  rw [h1, Nat.mul_one, Q2i (w := { w with drawn := dr }) (n := Y.length) hy hys, hY]
 have hni : ∀ k, (TypeDesc.slice e) ≠ .int k := fun k h => by cases h
 have newCase : ∀ {base : Option Addr} {len cap : Nat}, s = .slice base len cap → X.length = len → (Builtin.firstCells ti.size len s).run P { w with drawn := w.drawn + 1 } = .ok X.toArray { w with drawn := w.drawn + 1 } → ¬ (len + Y.length ≤ cap) →
   ∃ s' w', (Builtin.append_ #[S, S] ty #[s, .slice (some ⟨n, yo, none⟩) Y.length ycap]).run P w = .ok s' w' ∧ Fr w0 w' ∧ SlAt w' w0.heap.size s' (X ++ Y) := by
  intro base len cap hs hl hold hroom
  subst hs
  obtain ⟨newCap, dr, hcap, hrun⟩ := Q3u (P := P) (w := w) (S := S) (X := S) (ats := #[S, S]) (as := #[.slice base len cap, .slice (some ⟨n, yo, none⟩) Y.length ycap]) (e := e) (i := ti) (base := base) (sLen := len) (sCap := cap) (n := Y.length)
   (x := .slice (some ⟨n, yo, none⟩) Y.length ycap) (d := .slice e) (new := Y.toArray) ty (z := z) (old := X.toArray) rfl rfl rfl rfl hu hu hni hi hz (hn w) (hfc _) hold hroom hb (by rw [← hl]; exact hfit)
  have hsz : (X.toArray ++ Y.toArray ++ Builtin.zeroCells z.cells (newCap - (len + Y.length))).size = newCap := by
   simp only [Array.size_append, List.size_toArray, Builtin.zeroCells, Array.size_map, Array.size_range, hz1]; omega
  refine ⟨_, _, hrun, hf.push _ dr, .inr ⟨w.heap.size, 0, newCap, X.toArray ++ Y.toArray ++ Builtin.zeroCells z.cells (newCap - (len + Y.length)), e, (0, 0), by rw [List.length_append, hl], by rw [List.length_append, hl]; exact hcap, hf.size, ?_, by rw [hsz]; omega, fun j _ h => by omega, ?_⟩⟩
  ·show (w.heap.push _)[w.heap.size]? = _
   rw [Array.getElem?_push, if_pos rfl]
  ·simp only [Array.toList_append, List.drop_zero]
   rw [List.take_left' (by simp)]
 rcases h with ⟨rfl, rfl⟩ | ⟨ob, off, cap, cs, E, fz, g1, g2, g3, g4, g5, g6, g7⟩
 ·by_cases hy0 : 0 + Y.length ≤ 0
  ·have : Y = [] := List.eq_nil_of_length_eq_zero (by omega)
   subst this
   refine ⟨.slice none 0 0, w, ?_, hf, .inl ⟨rfl, rfl⟩⟩
   exact Q1D (P := P) (w := w) (S := S) (X := S) (ats := #[S, S]) (e := e) (i := ti) (base := none) (sLen := 0) (sCap := 0) (n := 0) (d := .slice e) (new := #[]) ty rfl rfl rfl rfl hu hu hni hi (hn w) (hfc w.drawn) (by omega) rfl
  ·exact newCase rfl rfl rfl hy0
 ·by_cases hroom : X.length + Y.length ≤ cap
  ·have hob : ob ≠ n := hne _ _ _ _ g1
   obtain ⟨w', cs', hr, hp, hcs⟩ := Q2E (P := P) (b := ob) (off + X.length) Y 0 w cs g4 (by omega) g6 hfl
   have hlen' : cs'.size = cs.size := by
    rw [← Array.length_toList, hcs, Q1p (by simp; omega)]; simp
   subst g1
   refine ⟨.slice (some ⟨ob, off, none⟩) (X.length + Y.length) cap, w', ?_, hf.puts hp g3, .inr ⟨ob, off, cap, cs', E, fz, by rw [List.length_append], by rw [List.length_append]; exact hroom, g3, hp.blk, by rw [hlen']; exact g5, fun j hj => g6 j (by rw [← hlen']; exact hj), ?_⟩⟩
   ·refine Q1D (P := P) (w := w) (S := S) (X := S) (ats := #[S, S]) (e := e) (i := ti) (n := Y.length) (d := .slice e) (new := Y.toArray) ty rfl rfl rfl rfl hu hu hni hi (hn w) (hfc w.drawn) hroom ?_
    show (storeCells ((⟨ob, off, none⟩ : Addr).add (X.length * ti.size)) Y.toArray.toList).run P w = _
    rw [h1, Nat.mul_one, Q2h]
    exact hr
   ·have hcl : cs.toList.length = cs.size := Array.length_toList
    rw [hcs, Nat.add_zero, List.length_append, Q4H cs.toList off X.length Y.length Y rfl (by omega), g7]
  ·refine newCase g1 rfl ?_ hroom
   rw [g1]
   show (loadCells ⟨ob, off, none⟩ (X.length * ti.size)).run P _ = _
   rw [h1, Nat.mul_one, Q2i (w := { w with drawn := w.drawn + 1 }) (n := X.length) g4 (by omega), g7]
end Go.Am
namespace Go.Am
open Go
section
variable {β : Type} {t : Ty}
def Q2b (t : Ty) : List (t.den × β) → List (t.den × β) → List (t.den × β)
 | D, [] => D
 | D, x :: S => Q2b t (mset t x.1 x.2 D) S
theorem Q8O (h : keyB t = true) {k1 k2 : t.den} (hne : k1 ≠ k2) (v1 v2 : β) : ∀ D : List (t.den × β), (mset t k1 v1 (mset t k2 v2 D)).Perm (mset t k2 v2 (mset t k1 v1 D))
 | [] => by
  simp only [mset, Q4z h hne, Q4z h (Ne.symm hne), cond_false]
  exact .swap _ _ _
 | x :: D => by
  simp only [mset]
  cases c1 : eqK t k1 x.1 with
  | true =>
   have e1 := (Q3I h).1 c1
   have c2 : eqK t k2 x.1 = false := Q4z h (fun e => hne (e1.trans e.symm))
   rw [c2]
   simp only [cond_false, cond_true, mset, c1, Q4z h (Ne.symm hne)]
   exact .refl _
  | false =>
   cases c2 : eqK t k2 x.1 with
   | true =>
    simp only [cond_false, cond_true, mset, c2, Q4z h hne]
    exact .refl _
   | false =>
    simp only [cond_false, mset, c1, c2]
    exact (Q8O h hne v1 v2 D).cons _
theorem Q8W (h : keyB t = true) : ∀ (S : List (t.den × β)) {D D' : List (t.den × β)}, D.Perm D' → (D.map fun x => x.1).Nodup → (Q2b t D S).Perm (Q2b t D' S)
 | [], _, _, hp, _ => hp
 | x :: S, _, _, hp, hn => Q8W h S (Q6m h x.1 x.2 hp hn) (Q23 h x.1 x.2 hn)
theorem QaN (h : keyB t = true) {S S' : List (t.den × β)} (hp : S.Perm S') : ∀ {D : List (t.den × β)}, (S.map fun x => x.1).Nodup → (D.map fun x => x.1).Nodup → (Q2b t D S).Perm (Q2b t D S') := by
 induction hp with
 | nil => intro D _ _; exact .refl _
 | cons x _ ih =>
  intro D hs hd
  rw [List.map_cons, List.nodup_cons] at hs
  exact ih hs.2 (Q23 h _ _ hd)
 | swap x y l =>
  intro D hs hd
  simp only [List.map_cons, List.nodup_cons, List.mem_cons, not_or] at hs
  exact Q8W h l (Q8O h (fun e => hs.1.1 e.symm) _ _ D) (Q23 h _ _ (Q23 h _ _ hd))
 | trans h1 _ ih1 ih2 =>
  intro D hs hd
  exact (ih1 hs hd).trans (ih2 ((h1.map _).nodup_iff.1 hs) hd)
theorem Q7Z : ∀ (S : List (t.den × β)) (D : List (t.den × β)) (x : t.den × β), Q2b t D (S ++ [x]) = mset t x.1 x.2 (Q2b t D S)
 | [], _, _ => rfl
 | y :: S, D, x => Q7Z S (mset t y.1 y.2 D) x
theorem Qaa (h : keyB t = true) : ∀ (S : List (t.den × β)) {D : List (t.den × β)}, (D.map fun x => x.1).Nodup → ((Q2b t D S).map fun x => x.1).Nodup
 | [], _, hn => hn
 | x :: S, _, hn => Qaa h S (Q23 h x.1 x.2 hn)
end
theorem RH.reorder {m : Mem} {μ : LMap} {H : Heap} {w : World} (h : RH m μ H w) {i : Nat} {kt vt : Ty} {xs ys : List (kt.den × vt.den)} (hi : H[i]? = some (some (.mpc kt vt xs))) (hp : xs.Perm ys) : Post m μ H w m μ (H.set i (some (.mpc kt vt ys))) w := by
 have hil : i < H.length := (List.getElem?_eq_some_iff.1 hi).1
 have look : ∀ {j : Nat} {x : AVal}, (H.set i (some (.mpc kt vt ys)))[j]? = some (some x) → (j = i ∧ x = .mpc kt vt ys) ∨ (j ≠ i ∧ H[j]? = some (some x)) := by
  intro j x hj
  by_cases hji : j = i
  ·subst hji; rw [List.getElem?_set_self hil] at hj; exact .inl ⟨rfl, (Option.some.inj (Option.some.inj hj)).symm⟩
  ·rw [List.getElem?_set_ne (Ne.symm hji)] at hj; exact .inr ⟨hji, hj⟩
 have old : ∀ {j : Nat} {x : AVal}, (H.set i (some (.mpc kt vt ys)))[j]? = some (some x) → ∃ y, H[j]? = some (some y) := by
  intro j x hj
  rcases look hj with ⟨rfl, _⟩ | ⟨_, h1⟩
  ·exact ⟨_, hi⟩
  ·exact ⟨x, h1⟩
 refine ⟨⟨h.mem, fun j x hj => ?_, fun j k x y lj lk hj hk hlj hlk p1 p2 he => ?_, fun j hj => by rw [List.length_set] at hj; exact h.dom j hj, fun j x lj hj hlj hz => ?_, fun j x lj hj hx hlj hz => ?_, fun j x lj hj hlj hp' => ?_, fun j k x y lj lk hj hk pj pk hlj hlk he => ?_⟩,
  Mem.le_refl _, LMap.le_refl _, rfl, rfl, rfl, Nat.le_refl _, fun _ _ _ => rfl, ?_, fun _ _ h => .inl h, ⟨by simp, fun _ _ h => h⟩⟩
 ·rcases look hj with ⟨rfl, rfl⟩ | ⟨_, h1⟩
  ·obtain ⟨l, hb⟩ := h.blk j _ hi
   refine ⟨l, hb.loc, hb.sh, ?_⟩
   rcases hb.cells with ⟨p1, p2, p3, _⟩ | ⟨p0, _, cs, E, fz, g1, g2, g3, g4, g5⟩
   ·exact .inl ⟨p1, p2, p3, rfl⟩
   ·exact .inr ⟨p0, ‹_›, cs, E, fz, g1, g2, g3, g4, g5⟩
  ·exact h.blk j x h1
 ·obtain ⟨x', hx'⟩ := old hj
  obtain ⟨y', hy'⟩ := old hk
  exact h.inj j k x' y' lj lk hx' hy' hlj hlk p1 p2 he
 ·obtain ⟨x', hx'⟩ := old hj
  exact h.typ j x' lj hx' hlj hz
 ·rcases look hj with ⟨_, rfl⟩ | ⟨_, h1⟩
  ·cases hx
  ·exact h.vb j x lj h1 hx hlj hz
 ·rcases look hj with ⟨rfl, rfl⟩ | ⟨_, h1⟩
  ·obtain ⟨h0, kt', vt', xs', es, c, e, g1, zs, g2, g3⟩ := h.mp j _ lj hi hlj hp'
   cases e
   exact ⟨h0, kt, vt, ys, es, c, rfl, g1, zs, g2.trans hp, g3⟩
  ·exact h.mp j x lj h1 hlj hp'
 ·obtain ⟨x', hx'⟩ := old hj
  obtain ⟨y', hy'⟩ := old hk
  exact h.mpi j k x' y' lj lk hx' hy' pj pk hlj hlk he
 ·rintro b ⟨j, x, lj, hj, hlj, q, he⟩ _
  obtain ⟨x', hx'⟩ := old hj
  exact ⟨j, x', lj, hx', hlj, q, he⟩
section
variable {P : Program} {w : World} {b bm since last clock : Nat} {seen : Array Nat} {es : Array MapEntry} {ty : TypeId}
theorem Qc3 (h1 : w.heap[b]? = some (.mapIter (some bm) since seen last)) (h2 : w.heap[bm]? = some (.map es clock)) (hb : ∀ e ∈ es.toList, e.born < since) (hl : (es.filter fun e => !seen.contains e.born) ≠ #[])
  (hg : (!seen.isEmpty && !es.isEmpty && es.all fun e => decide (e.born ≥ last)) = false) :
  ∃ e dr, e ∈ es.toList ∧ seen.contains e.born = false ∧ (Instr.next (.pointer (some ⟨b, 0, none⟩)) false ty).run P w = .ok (.tuple #[.bool true, e.key, e.val]) { w with heap := w.heap.setIfInBounds b (.mapIter (some bm) since (seen.push e.born) clock), drawn := dr } := by
 generalize hL : (es.filter fun e => !seen.contains e.born) = L at hl
 have hLm : ∀ e ∈ L, e ∈ es.toList ∧ seen.contains e.born = false := by
  intro e he
  rw [← hL, Array.mem_filter] at he
  exact ⟨by simpa using he.1, by simpa using he.2⟩
 have f1 : L.filter (fun x => decide (x.born < since)) = L := by
  rw [Array.filter_eq_self]
  intro e he
  simpa using hb e (hLm e he).1
 have f2 : L.filter (fun x => decide (x.born ≥ since)) = #[] := by
  rw [Array.filter_eq_empty_iff]
  intro e he
  have := hb e (hLm e he).1
  simp; omega
 have hne : L.isEmpty = false := by simpa using hl
 have hsz : 0 < L.size := Array.size_pos_iff.2 hl
 have hcand : ((if L.isEmpty = true then #[none] else #[]) ++ (L ++ #[]).map some) = L.map some := by
  rw [hne]; simp
 have key : ∀ (q : Nat) (dr : Nat), q < L.size → ∃ e, e ∈ L ∧ (match (L.map some)[q]? with
   | some (some e) => (do setObj b (.mapIter (some bm) since (seen.push e.born) clock); pure (.tuple #[.bool true, e.key, e.val]) : Sem Value)
   | some none => pure (.tuple #[.bool false])
   | none => stuck "Next: no such candidate").run P { w with drawn := dr } = .ok (.tuple #[.bool true, e.key, e.val]) { w with heap := w.heap.setIfInBounds b (.mapIter (some bm) since (seen.push e.born) clock), drawn := dr } := by
  intro q dr hq
  refine ⟨L[q], by simp, ?_⟩
  rw [Array.getElem?_map, Array.getElem?_eq_getElem hq]
  simp only [Option.map_some, run_bind]
  have h1' : ({ w with drawn := dr } : World).heap[b]? = some (.mapIter (some bm) since seen last) := h1
  rw [Q8o _ h1']
  rfl
 by_cases hone : L.size ≤ 1
 ·obtain ⟨e, he, hr⟩ := key 0 w.drawn hsz
  refine ⟨e, w.drawn, (hLm e he).1, (hLm e he).2, ?_⟩
  simp only [Instr.next, Sem.run_bind, Q35 h1, Q1f h2, Result.andThen, hg, hL, f1, f2, hcand, Bool.false_eq_true, if_false]
  have hch : (choose (.mapNext (L.map some).size)).run P w = .ok 0 w := by
   have : (Question.mapNext (L.map some).size).forced = true := by simp [Question.forced, hone]
   simp only [choose, Sem.run, this, if_true]
  rw [hch]
  exact hr
 ·have hlt := Nat.mod_lt (w.tape w.drawn (.mapNext (L.map some).size)) hsz
  obtain ⟨e, he, hr⟩ := key (w.tape w.drawn (.mapNext (L.map some).size) % L.size) (w.drawn + 1) hlt
  refine ⟨e, w.drawn + 1, (hLm e he).1, (hLm e he).2, ?_⟩
  simp only [Instr.next, Sem.run_bind, Q35 h1, Q1f h2, Result.andThen, hg, hL, f1, f2, hcand, Bool.false_eq_true, if_false]
  have hch : (choose (.mapNext (L.map some).size)).run P w = .ok (w.tape w.drawn (.mapNext (L.map some).size) % L.size) { w with drawn := w.drawn + 1 } := by
   have : (Question.mapNext (L.map some).size).forced = false := by simp [Question.forced, hone]
   simp only [choose, Sem.run, this, Bool.false_eq_true, if_false]
   simp [Question.cut]
  rw [hch]
  exact hr
end
end Go.Am
