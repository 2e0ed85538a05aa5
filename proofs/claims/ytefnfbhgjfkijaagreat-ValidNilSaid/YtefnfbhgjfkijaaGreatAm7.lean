/- A part of a proof: a machine of abstract values that tells what functions of the program compute, and the plain facts on them. -/
import Derived.Test.YtefnfbhgjfkijaaGreatAm6
import Derived.Laws.IdiomRangeMap
set_option linter.unusedVariables false
set_option linter.unusedSimpArgs false
set_option linter.unnecessarySimpa false
set_option linter.unusedSectionVars false
namespace Go.Am
open Go
def finI {ρ : Type} (P : Program) (rs : List ResultVar) (K : List AVal → Heap → Option ρ) (e : Exit) (st : St) : Option ρ :=
 match e with
 | .ret => (match Q1T P st rs with | some vs => K vs st.H | none => none)
 | .normal => (match Q1T P st rs with | some vs => K vs st.H | none => none)
 | _ => none
def Q8v (C : Ctx) (fn : Func) (c : Code) (ann : Ann) : Qp :=
 ⟨fun as H k =>
  let kp := Q3j H as
  let keep := kp.1 ++ kp.2
  cond (Q2u keep && Q2B H keep)
   (evC C c ann ⟨(as.map fun a => (renA keep a).getD .undef) ++ List.replicate (fn.ntmps - as.length) .undef, keep.map fun i => (H.getD i none).bind (renA keep)⟩
    (finI C.P fn.results.toList fun vs Hc =>
     cond (Nat.ble keep.length Hc.length && Q2Z vs)
      (k (resL (vs.map (renF (Q1s keep keep.length H.length)))) (Q1D keep (renH (Q1s keep keep.length H.length) Hc) H ++ renH (Q1s keep keep.length H.length) (Hc.drop keep.length)) (.touch H.length keep)) none)) none⟩
theorem Q9f {C : Ctx} {f : Nat} {fn : Func} {c : Code} (hf : C.P.funcs[f]? = some fn) (hb : fn.body = some c) (hn : (fn.name == "runtime.NumGoroutine") = false)
  {args vs : List AVal} {H : Heap} {keep : List Nat} {e : Exit} {st' : St} (hnd : Q2u keep = true) (hlive : Q2B H keep = true)
  (h3 : Goes keep.length C.P c ⟨(args.map fun a => (renA keep a).getD .undef) ++ List.replicate (fn.ntmps - args.length) .undef, keep.map fun i => (H.getD i none).bind (renA keep)⟩ e st')
  (hvs : Q1T C.P st' fn.results.toList = some vs) (he : e = .ret ∨ e = .normal) (hnt : Q2Z vs = true) (hsn : keep.length ≤ st'.H.length) :
  Q3C C.P f args H (resL (vs.map (renF (Q1s keep keep.length H.length)))) (Q1D keep (renH (Q1s keep keep.length H.length) st'.H) H ++ renH (Q1s keep keep.length H.length) (st'.H.drop keep.length)) := by
 intro m μ w us0 rh hv
 refine ⟨_, _, Q1V hf hb hn _ w, .inl ⟨f, _, rfl, ?_⟩⟩
 obtain ⟨hrs1, hpw1⟩ := Q3J (np := 0) (st := ⟨args, H⟩) (keep := keep) (Q3M hnd) rfl rh (Q44 hv)
 have hv1 := Q49 hrs1
 refine calls_of_wp hf hb ?_
 have hstart := Q7X fn.ntmps hv1
 rw [List.length_map] at hstart
 refine h3 m (renM keep μ) w _ _ hpw1.rh hstart fun a' w' m' μ' rs' p => ?_
 obtain ⟨us, h4, h5⟩ := Q4S p.rh rs' hvs
 have P : Q1l keep.length m (renM (keep ++ []) μ) ((keep ++ []).map fun i => ((Q0C [] H).getD i none).bind (renA (keep ++ []))) w m' μ' st'.H w' := by
  rw [List.append_nil]; exact p
 have hlive' : Q2B (Q0C [] H) (keep ++ []) = true := by rw [List.append_nil]; exact hlive
 have hg := Q6X rh rfl hlive' P
 have hP := Q86 rh rfl hsn hlive' P p.ml p.rh.mem (fun _ _ _ _ h => h) (fun b c hc => by
  rcases p.mgrow b c hc with g | g | g
  ·exact .inl g
  ·refine .inr (.inl ?_)
   rw [List.append_nil]; exact g
  ·exact .inr (.inr g)) (fun _ h => h) (fun _ _ _ _ _ _ _ h => h)
 have fin : a'.defers = [] ∧ ∃ v, (results fn a'.tmps).run C.P w' = .ok v w' ∧ Came m μ H w (resL (vs.map (renF (Q1s keep keep.length H.length)))) (Q1D keep (renH (Q1s keep keep.length H.length) st'.H) H ++ renH (Q1s keep keep.length H.length) (st'.H.drop keep.length)) (.returned v) w' := by
  refine ⟨rs'.defers, _, Q3Z h4, _, m', _, rfl, Q98 ?_ (Q5U (fun a ha v hv => Q7D hg hv) h5), hP⟩
  intro a ha q e
  rw [List.mem_map] at ha
  obtain ⟨b, hb, rfl⟩ := ha
  obtain ⟨q', hq⟩ := (Q2Q b).2.1 ⟨q, e⟩
  exact Q3U hnt b hb q' hq
 rcases he with rfl | rfl <;> exact fin
theorem Qal {ρ : Type} {P : Program} {rs : List ResultVar} {K : List AVal → Heap → Option ρ} {e : Exit} {st : St} {r : ρ} (h : finI P rs K e st = some r) :
  ∃ vs, Q1T P st rs = some vs ∧ (e = .ret ∨ e = .normal) ∧ K vs st.H = some r := by
 have go : (match Q1T P st rs with | some vs => K vs st.H | none => none) = some r → ∃ vs, Q1T P st rs = some vs ∧ K vs st.H = some r := by
  intro h
  split at h
  ·rename_i vs hvs; exact ⟨vs, hvs, h⟩
  ·cases h
 cases e with
 | ret => obtain ⟨vs, g1, g2⟩ := go h; exact ⟨vs, g1, .inl rfl, g2⟩
 | normal => obtain ⟨vs, g1, g2⟩ := go h; exact ⟨vs, g1, .inr rfl, g2⟩
 | _ => cases h
theorem QaS {C : Ctx} (hΓ : ∀ f, Qh C.P f (C.Γ f)) (hmix : C.P.follows .mixedOrders = true) {f : Nat} {fn : Func} {c : Code} {ann : Ann}
  (hf : C.P.funcs[f]? = some fn) (hb : fn.body = some c) (hn : (fn.name == "runtime.NumGoroutine") = false) (hA : ∀ np, Q0 np C.P c ann) : Qh C.P f (Q8v C fn c ann) := by
 intro ρ args H k r h
 simp only [Q8v] at h
 generalize hkeep : (Q3j H args).1 ++ (Q3j H args).2 = keep at h
 rw [Bool.cond_eq_ite] at h
 split at h
 case isFalse => cases h
 rename_i hchk
 simp only [Bool.and_eq_true] at hchk
 obtain ⟨hnd, hlive⟩ := hchk
 obtain ⟨e, st', h2, h3⟩ := Q1U hΓ hmix c ann _ _ _ (hA keep.length) h
 obtain ⟨vs, hvs, he, hk⟩ := Qal h2
 rw [Bool.cond_eq_ite] at hk
 split at hk
 case isFalse => cases hk
 rename_i hc
 simp only [Bool.and_eq_true] at hc
 refine ⟨_, _, _, hk, ?_, Q9f hf hb hn hnd hlive h3 hvs he hc.2 (Nat.le_of_ble_eq_true hc.1)⟩
 intro i hi hni
 rw [List.getElem?_append_left (by rw [Q1L]; exact hi), Q3D hni]
theorem Q8O {s t : ByteArray} (h : Q3u s t = true) : s = t := by
 unfold Q3u at h
 rw [beq_iff_eq, ByteArray.toList_eq, ByteArray.toList_eq] at h
 cases s; cases t
 congr
 exact Array.toList_inj.1 h
def eqL {α : Type} (f : α → α → Bool) : List α → List α → Bool
 | [], [] => true
 | a :: l, b :: r => f a b && eqL f l r
 | _, _ => false
theorem Q2w {α : Type} {f : α → α → Bool} (hf : ∀ a b, f a b = true → a = b) : ∀ {l r : List α}, eqL f l r = true → l = r
 | [], [], _ => rfl
 | a :: l, b :: r, h => by
  simp only [eqL, Bool.and_eq_true] at h
  rw [hf a b h.1, Q2w hf h.2]
 | [], _ :: _, h | _ :: _, [], h => by cases h
def eqT : (t : Ty) → t.den → t.den → Bool
 | .int _, x, y => x == y
 | .bool, x, y => x == y
 | .str, x, y => Q3u x y
 | .unit, _, _ => true
 | .pair a b, x, y => eqT a x.1 y.1 && eqT b x.2 y.2
 | .arr _ t, x, y => eqL (eqT t) x y
 | .sl t, x, y => eqL (eqT t) x y
theorem Q3t : ∀ {t : Ty} {x y : t.den}, eqT t x y = true → x = y := by
 intro t
 induction t with
 | int k => intro x y h; exact (beq_iff_eq (α := Int)).1 h
 | bool => intro x y h; exact (beq_iff_eq (α := Bool)).1 h
 | str => intro x y h; exact Q8O h
 | unit => intro x y _; rfl
 | pair a b ha hb =>
  intro x y h
  simp only [eqT, Bool.and_eq_true] at h
  exact Prod.ext (ha h.1) (hb h.2)
 | arr n t ih => intro x y h; exact Q2w (fun _ _ => ih) h
 | sl t ih => intro x y h; exact Q2w (fun _ _ => ih) h
def eqN (a b : List Nat) : Bool := eqL Nat.beq a b
theorem Qb3 {a b : List Nat} (h : eqN a b = true) : a = b := Q2w (fun _ _ => Nat.eq_of_beq_eq_true) h
def eqAV : AVal → AVal → Bool
 | .undef, .undef => true
 | .int k n, .int k' n' => decide (k = k') && n == n'
 | .bool b, .bool b' => b == b'
 | .str s, .str s' => Q3u s s'
 | .nilp, .nilp => true
 | .nils, .nils => true
 | .nilm, .nilm => true
 | .unit, .unit => true
 | .ptr i p, .ptr i' p' => Nat.beq i i' && eqN p p'
 | .vsl i, .vsl i' => Nat.beq i i'
 | .vbs i, .vbs i' => Nat.beq i i'
 | .mp i, .mp i' => Nat.beq i i'
 | .pair a b, .pair a' b' => eqAV a a' && eqAV b b'
 | .vec t xs, .vec t' xs' => if h : t = t' then eqL (eqT t') (h ▸ xs) xs' else false
 | .arr n t xs, .arr n' t' xs' => Nat.beq n n' && if h : t = t' then eqL (eqT t') (h ▸ xs) xs' else false
 | .ros t xs, .ros t' xs' => if h : t = t' then eqL (eqT t') (h ▸ xs) xs' else false
 | .mpc a b xs, .mpc a' b' xs' => if h : a = a' then (if g : b = b' then eqL (fun x y => eqT a' x.1 y.1 && eqT b' x.2 y.2) (h ▸ g ▸ xs) xs' else false) else false
 | _, _ => false
theorem QaM : ∀ {a b : AVal}, eqAV a b = true → a = b := by
 intro a
 induction a with
 | pair u v hu hv =>
  intro b h
  cases b <;> simp only [eqAV, Bool.and_eq_true] at h <;> try (cases h; done)
  rw [hu h.1, hv h.2]
 | undef => intro b h; cases b <;> first | rfl | cases h
 | nilp => intro b h; cases b <;> first | rfl | cases h
 | nils => intro b h; cases b <;> first | rfl | cases h
 | nilm => intro b h; cases b <;> first | rfl | cases h
 | unit => intro b h; cases b <;> first | rfl | cases h
 | int k n =>
  intro b h
  cases b <;> simp only [eqAV, Bool.and_eq_true, decide_eq_true_eq, beq_iff_eq] at h <;> try (cases h; done)
  rw [h.1, h.2]
 | bool x =>
  intro b h
  cases b <;> simp only [eqAV, beq_iff_eq] at h <;> try (cases h; done)
  rw [h]
 | str x =>
  intro b h
  cases b <;> simp only [eqAV] at h <;> try (cases h; done)
  rw [Q8O h]
 | ptr i p =>
  intro b h
  cases b <;> simp only [eqAV, Bool.and_eq_true] at h <;> try (cases h; done)
  rw [Nat.eq_of_beq_eq_true h.1, Qb3 h.2]
 | vsl i =>
  intro b h
  cases b <;> simp only [eqAV] at h <;> try (cases h; done)
  rw [Nat.eq_of_beq_eq_true h]
 | vbs i =>
  intro b h
  cases b <;> simp only [eqAV] at h <;> try (cases h; done)
  rw [Nat.eq_of_beq_eq_true h]
 | mp i =>
  intro b h
  cases b <;> simp only [eqAV] at h <;> try (cases h; done)
  rw [Nat.eq_of_beq_eq_true h]
 | vec t xs =>
  intro b h
  cases b <;> simp only [eqAV] at h <;> try (cases h; done)
  split at h
  ·rename_i xs' e; subst e; have h : xs = xs' := Q2w (fun _ _ => Q3t) h; rw [h]
  ·cases h
 | ros t xs =>
  intro b h
  cases b <;> simp only [eqAV] at h <;> try (cases h; done)
  split at h
  ·rename_i xs' e; subst e; have h : xs = xs' := Q2w (fun _ _ => Q3t) h; rw [h]
  ·cases h
 | arr n t xs =>
  intro b h
  cases b <;> simp only [eqAV, Bool.and_eq_true] at h <;> try (cases h; done)
  obtain ⟨h1, h⟩ := h
  split at h
  ·rename_i xs' e; subst e; have h : xs = xs' := Q2w (fun _ _ => Q3t) h; rw [Nat.eq_of_beq_eq_true h1, h]
  ·cases h
 | mpc u v xs =>
  intro b h
  cases b <;> simp only [eqAV] at h <;> try (cases h; done)
  rename_i u' v' xs'
  split at h
  ·rename_i e
   split at h
   ·rename_i e'
    subst e; subst e'
    have h : xs = xs' := Q2w (f := fun (x y : Ty.den u × Ty.den v) => eqT u x.1 y.1 && eqT v x.2 y.2) (fun a b hab => by
     rw [Bool.and_eq_true] at hab
     exact Prod.ext (Q3t hab.1) (Q3t hab.2)) h
    rw [h]
   ·cases h
  ·cases h
 | _ => intro b h; cases b <;> cases h
def eqHp : Heap → Heap → Bool
 | [], [] => true
 | some a :: l, some b :: r => eqAV a b && eqHp l r
 | _, _ => false
theorem Q80 : ∀ {l r : Heap}, eqHp l r = true → l = r
 | [], [], _ => rfl
 | some a :: l, some b :: r, h => by
  simp only [eqHp, Bool.and_eq_true] at h
  rw [QaM h.1, Q80 h.2]
 | [], some _ :: _, h | [], none :: _, h | some _ :: _, [], h | none :: _, [], h | none :: _, none :: _, h | none :: _, some _ :: _, h | some _ :: _, none :: _, h => by cases h
def Q8c (C : Ctx) (fn : Func) (c : Code) (ann : Ann) : Qp :=
 ⟨fun as H k =>
  let kp := Q3j H as
  let keep := kp.1 ++ kp.2
  let H0 : Heap := keep.map fun i => (H.getD i none).bind (renA keep)
  cond (Q2u keep && Q2B H keep)
   (evC C c ann ⟨(as.map fun a => (renA keep a).getD .undef) ++ List.replicate (fn.ntmps - as.length) .undef, H0⟩
    (finI C.P fn.results.toList fun vs Hc =>
     cond (eqHp Hc H0 && Q2Z vs && (idsL vs).isEmpty) (k (resL vs) H (.read keep)) none)) none⟩
theorem Qbg {C : Ctx} (hΓ : ∀ f, Qh C.P f (C.Γ f)) (hmix : C.P.follows .mixedOrders = true) {f : Nat} {fn : Func} {c : Code} {ann : Ann}
  (hf : C.P.funcs[f]? = some fn) (hb : fn.body = some c) (hn : (fn.name == "runtime.NumGoroutine") = false) (hA : ∀ np, Q0 np C.P c ann) : Qh C.P f (Q8c C fn c ann) := by
 intro ρ args H k r h
 simp only [Q8c] at h
 generalize hkeep : (Q3j H args).1 ++ (Q3j H args).2 = keep at h
 rw [Bool.cond_eq_ite] at h
 split at h
 case isFalse => cases h
 rename_i hchk
 simp only [Bool.and_eq_true] at hchk
 obtain ⟨hnd, hlive⟩ := hchk
 obtain ⟨e, st', h2, h3⟩ := Q1U hΓ hmix c ann _ _ _ (hA keep.length) h
 obtain ⟨vs, hvs, he, hk⟩ := Qal h2
 rw [Bool.cond_eq_ite] at hk
 split at hk
 case isFalse => cases hk
 rename_i hc
 simp only [Bool.and_eq_true, List.isEmpty_iff] at hc
 obtain ⟨⟨hH, hnt⟩, hids⟩ := hc
 have hH := Q80 hH
 refine ⟨_, _, _, hk, rfl, fun H2 hag => ?_⟩
 have hB : (keep.map fun i => (H2.getD i none).bind (renA keep)) = keep.map fun i => (H.getD i none).bind (renA keep) := by
  apply List.map_congr_left
  intro i hi
  rw [List.getD_eq_getElem?_getD, List.getD_eq_getElem?_getD, hag i hi]
 have hl2 : Q2B H2 keep = true := by rw [Q3a hag]; exact hlive
 have := Q9f (args := args) hf hb hn hnd hl2 (by rw [hB]; exact h3) hvs he hnt (by rw [hH, List.length_map]; exact Nat.le_refl _)
 rw [Q3A hids] at this
 have e2 : st'.H.drop keep.length = [] := by
  rw [List.drop_eq_nil_iff, hH, List.length_map]; exact Nat.le_refl _
 have e3 : Q1D keep (renH (Q1s keep keep.length H2.length) st'.H) H2 = H2 := by
  apply Q3T
  intro j i hj
  rw [Q3o, hH, List.getElem?_map, hj]
  have hi : i ∈ keep := List.mem_of_getElem? hj
  obtain ⟨a, ha⟩ := Q2P hlive i hi
  rw [hag i hi, ha]
  have hne : (keep.map fun i => (H.getD i none).bind (renA keep))[j]? ≠ some none := by
   have noNone : ∀ {l r : Heap}, eqHp l r = true → ∀ j : Nat, r[j]? ≠ some none := by
    intro l
    induction l with
    | nil => intro r h j; cases r with
     | nil => simp
     | cons a r => cases a <;> cases h
    | cons a l ih =>
     intro r h j
     cases r with
     | nil => simp
     | cons b r =>
      cases a <;> cases b <;> simp only [eqHp, Bool.and_eq_true] at h <;> try (cases h; done)
      cases j with
      | zero => simp
      | succ j => simpa using ih h.2 j
   exact noNone ‹_› j
  rw [List.getElem?_map, hj] at hne
  simp only [Option.map_some, List.getD_eq_getElem?_getD, ha, Option.getD_some, Option.bind_some] at hne ⊢
  cases hr : renA keep a with
  | none => rw [hr] at hne; exact absurd rfl hne
  | some a' =>
   have := Q7Y (n := H2.length) hr
   simp only [Option.map_some, this]
 rw [e2, e3] at this
 simpa [renH] using this
def Q68 (C : Ctx) (c : Code) (ann : Ann) : Nat → Q2z
 | 0 => QbM
 | n + 1 => ⟨fun st K => evC C c ann st fun e st' => match e with
  | .normal => (Q68 C c ann n).f st' K
  | e => K e st'⟩
inductive Q7W (np : Nat) (P : Program) (c : Code) : Nat → St → Exit → St → Prop
 | out {j st e s} : e ≠ .normal → Goes np P c st e s → Q7W np P c (j + 1) st e s
 | step {j st s1 e s} : Goes np P c st .normal s1 → Q7W np P c j s1 e s → Q7W np P c (j + 1) st e s
theorem Q9A {np : Nat} {P : Program} {c : Code} {n : Nat} {st : St} {e : Exit} {s : St} (h : Q7W np P c n st e s) : Goes np P (.loop c) st e s := by
 intro m μ w a Q rh rs hQ
 refine Q2F (fun j a' w' => ∃ st1 m1 μ1, Q7W np P c j st1 e s ∧ RS m1 μ1 st1.sl a' ∧ Q1l np m μ st.H w m1 μ1 st1.H w') ?_ ?_ (n := n) ⟨st, m, μ, h, rs, (Post.refl rh).toW⟩
 ·rintro a w ⟨_, _, _, h, _⟩; cases h
 ·rintro j a1 w1 ⟨st1, m1, μ1, h1, rs1, p1⟩
  cases h1 with
  | out hne hg =>
   refine hg m1 μ1 w1 a1 _ p1.rh rs1 fun a2 w2 m2 μ2 rs2 p2 => ?_
   have := hQ a2 w2 m2 μ2 rs2 (p1.trans p2)
   cases e <;> first | exact absurd rfl hne | exact this
  | step hg hc =>
   refine hg m1 μ1 w1 a1 _ p1.rh rs1 fun a2 w2 m2 μ2 rs2 p2 => ?_
   exact ⟨_, m2, μ2, hc, rs2, p1.trans p2⟩
theorem Qbp {np : Nat} {C : Ctx} (hΓ : ∀ f, Qh C.P f (C.Γ f)) (hmix : C.P.follows .mixedOrders = true) {c : Code} {ann : Ann} (hA : Q0 np C.P c ann) (n : Nat) : StOK np C.P (.loop c) (Q68 C c ann n) := by
 intro ρ st K r h
 have key : ∀ (n : Nat) (st : St), (Q68 C c ann n).f st K = some r → ∃ e s, K e s = some r ∧ Q7W np C.P c n st e s := by
  intro n
  induction n with
  | zero => intro st h; cases h
  | succ n ih =>
   intro st h
   simp only [Q68] at h
   obtain ⟨e, s, h1, h2⟩ := Q1U hΓ hmix c ann _ _ _ hA h
   cases e with
   | normal =>
    obtain ⟨e', s', h3, h4⟩ := ih s h1
    exact ⟨e', s', h3, .step h2 h4⟩
   | _ => exact ⟨_, _, h1, .out (by simp) h2⟩
 obtain ⟨e, s, h1, h2⟩ := key n st h
 exact ⟨e, s, h1, Q9A h2⟩
def annR (C : Ctx) (fuel : Nat) : Code → Ann
 | .seq a b => .node [] none (annR C fuel a) (annR C fuel b)
 | .cond _ a b => .node [] none (annR C fuel a) (annR C fuel b)
 | .block _ a => .node [] none (annR C fuel a) .nil
 | .loop a => .node [] (some (Q68 C a (annR C fuel a) fuel)) .nil .nil
 | _ => .nil
theorem Q8r {C : Ctx} (hΓ : ∀ f, Qh C.P f (C.Γ f)) (hmix : C.P.follows .mixedOrders = true) (fuel np : Nat) : ∀ c, Q0 np C.P c (annR C fuel c) := by
 intro c
 induction c with
 | seq a b ha hb => exact ⟨rfl, ha, hb⟩
 | cond v a b ha hb => exact ⟨rfl, ha, hb⟩
 | block i a ha => exact ⟨rfl, ha⟩
 | loop a ha => exact ⟨rfl, Qbp hΓ hmix ha fuel⟩
 | _ => trivial
def Q94 : List (Nat × Func) → Nat → Option Func
 | [], _ => none
 | (i, fn) :: l, f => cond (Nat.beq f i) (some fn) (Q94 l f)
def Q4P (P : Program) (l : List (Nat × Func)) : Prop := ∀ f fn, Q94 l f = some fn → P.funcs[f]? = some fn ∧ (fn.name == "runtime.NumGoroutine") = false
theorem Q4P.nil {P : Program} : Q4P P [] := fun _ _ h => by cases h
theorem Q4P.cons {P : Program} {i : Nat} {fn : Func} {l : List (Nat × Func)} (h1 : P.funcs[i]? = some fn) (h2 : (fn.name == "runtime.NumGoroutine") = false) (h3 : Q4P P l) : Q4P P ((i, fn) :: l) := by
 intro f fn' h
 simp only [Q94] at h
 cases hb : Nat.beq f i with
 | true =>
  rw [hb] at h
  have := Nat.eq_of_beq_eq_true hb
  subst this
  cases h
  exact ⟨h1, h2⟩
 | false => rw [hb] at h; exact h3 f fn' h
def runG (P : Program) (told : List (Nat × Qp)) (fns : List (Nat × Func)) (rds : List Nat) (fuel : Nat) : Nat → Nat → Qp
 | 0, f => gam told f
 | n + 1, f => match Q94 fns f with
  | some fn => (match fn.body with
   | some c => cond (inB f rds) (Q8c ⟨P, runG P told fns rds fuel n⟩ fn c (annR ⟨P, runG P told fns rds fuel n⟩ fuel c)) (Q8v ⟨P, runG P told fns rds fuel n⟩ fn c (annR ⟨P, runG P told fns rds fuel n⟩ fuel c))
   | none => gam told f)
  | none => gam told f
theorem Q4z {P : Program} {told : List (Nat × Qp)} {fns : List (Nat × Func)} {rds : List Nat} {fuel : Nat} (ht : ∀ f, Qh P f (gam told f)) (hmix : P.follows .mixedOrders = true) (hfns : Q4P P fns) : ∀ n f, Qh P f (runG P told fns rds fuel n f)
 | 0, f => ht f
 | n + 1, f => by
  simp only [runG]
  split
  ·rename_i fn hf
   obtain ⟨h1, h2⟩ := hfns f fn hf
   split
   ·rename_i c hc
    cases inB f rds with
    | true => exact Qbg (C := ⟨P, runG P told fns rds fuel n⟩) (Q4z ht hmix hfns n) hmix h1 hc h2 (fun np => Q8r (C := ⟨P, runG P told fns rds fuel n⟩) (Q4z ht hmix hfns n) hmix fuel np c)
    | false =>
    exact QaS (C := ⟨P, runG P told fns rds fuel n⟩) (Q4z ht hmix hfns n) hmix h1 hc h2 (fun np => Q8r (C := ⟨P, runG P told fns rds fuel n⟩) (Q4z ht hmix hfns n) hmix fuel np c)
   ·exact ht f
  ·exact ht f
theorem Qca {P : Program} {told : List (Nat × Qp)} {fns : List (Nat × Func)} {rds : List Nat} {fuel n : Nat} (ht : ∀ f, Qh P f (gam told f)) (hmix : P.follows .mixedOrders = true) (hfns : Q4P P fns) {f : Nat} {fn : Func} {c : Code} {tout : List Ty} {y : dens tout}
  (hf : P.funcs[f]? = some fn) (hb : fn.body = some c) (hn : (fn.name == "runtime.NumGoroutine") = false)
  (hr : ∀ {ρ : Type} (K : dens tout → Option ρ), evC ⟨P, runG P told fns rds fuel n⟩ c (annR ⟨P, runG P told fns rds fuel n⟩ fuel c) (Q3e fn.ntmps []) (finK P fn.results.toList tout K) = K y) : Qh P f (Qt [] tout fun _ => some y) :=
 Qv (C := ⟨P, runG P told fns rds fuel n⟩) (Q4z ht hmix hfns n) hmix (tin := []) (tout := tout) (fun _ K => K y) hf hb hn (Q8r (C := ⟨P, runG P told fns rds fuel n⟩) (Q4z ht hmix hfns n) hmix fuel 0 c) (fun _ K => hr K)
end Go.Am
namespace Go.Am
open Go
def eqDs : (ts : List Ty) → dens ts → dens ts → Bool
 | [], _, _ => true
 | t :: ts, x, y => eqT t x.1 y.1 && eqDs ts x.2 y.2
theorem Q7Q : ∀ {ts : List Ty} {x y : dens ts}, eqDs ts x y = true → x = y
 | [], _, _, _ => rfl
 | t :: ts, x, y, h => by
  simp only [eqDs, Bool.and_eq_true] at h
  exact Prod.ext (Q3t h.1) (Q7Q h.2)
def Q2j (tin tout : List Ty) (x0 : dens tin) (y0 : dens tout) (J : dens tin → Option (dens tout)) (x : dens tin) : Option (dens tout) :=
 bif eqDs tin x x0 then some y0 else J x
theorem Q4p {P : Program} {f : Nat} {tin tout : List Ty} {x0 : dens tin} {y0 : dens tout} {J : dens tin → Option (dens tout)} (h : J x0 = some y0) (hs : Qh P f (Qt tin tout J)) :
  Qh P f (Qt tin tout (Q2j tin tout x0 y0 J)) := by
 have e : Q2j tin tout x0 y0 J = J := by
  funext x
  unfold Q2j
  cases hb : eqDs tin x x0 with
  | true => rw [Q7Q hb, h]; rfl
  | false => rfl
 rw [e]; exact @hs
end Go.Am
namespace Go.Am
open Go
theorem RH.itNew {m : Mem} {μ : LMap} {H : Heap} {w : World} (h : RH m μ H w) (o : Obj) :
  Post m μ H w m (fun i => if i = H.length then some ⟨w.heap.size, 0, .unit, 0, 0, false⟩ else μ i) (H ++ [some .unit]) { w with heap := w.heap.push o } := by
 have hdom : μ H.length = none := h.dom _ (Nat.le_refl _)
 have hμ : μ.le (fun j => if j = H.length then some ⟨w.heap.size, 0, .unit, 0, 0, false⟩ else μ j) := by
  intro j l' hl'
  show (if j = H.length then _ else μ j) = some l'
  rw [if_neg (fun e => by subst e; rw [hdom] at hl'; cases hl')]; exact hl'
 have hpush : ∀ b, b < w.heap.size → (w.heap.push o)[b]? = w.heap[b]? := fun b hb => by rw [Array.getElem?_push, if_neg (by omega)]
 have hnew : (w.heap.push o)[w.heap.size]? = some o := by rw [Array.getElem?_push, if_pos rfl]
 refine ⟨⟨?_, ?_, ?_, ?_, ?_, ?_, ?_, ?_⟩, Mem.le_refl _, hμ, rfl, rfl, rfl, by show w.heap.size ≤ (w.heap.push _).size; simp, fun b hb _ => hpush b hb, ?_, fun _ _ h => .inl h, ⟨by simp, fun i hi h => by show (if i = H.length then _ else μ i) = none; rw [if_neg (by omega)]; exact h⟩⟩
 ·intro b cs hb
  obtain ⟨E, fz, h1⟩ := h.mem b cs hb
  exact ⟨E, fz, (hpush b (Q19 h1)).trans h1⟩
 ·intro j x hj
  rcases Q13 hj with ⟨h1, h2⟩ | ⟨h1, h2⟩
  ·subst h1; subst h2
   exact ⟨⟨w.heap.size, 0, .unit, 0, 0, false⟩, by simp, rfl, .inl ⟨rfl, rfl, rfl, rfl⟩⟩
  ·obtain ⟨lj, hbj⟩ := h.blk j x h2
   refine ⟨lj, hμ _ _ hbj.loc, hbj.sh, ?_⟩
   rcases hbj.cells with ⟨p1, p2, p3, p4⟩ | ⟨p0, q1, c, E1, fz1, q2, q3⟩
   ·exact .inl ⟨p1, p2, p3, p4.mono (Mem.le_refl m) hμ⟩
   ·exact .inr ⟨p0, q1, c, E1, fz1, (hpush lj.b (Q19 q2)).trans q2, q3.1, q3.2.1, q3.2.2.1, q3.2.2.2.mono (Mem.le_refl m) hμ⟩
 ·intro j k x y lj lk hj hk hlj hlk z1 z2 he
  rcases Q13 hj with ⟨h1, h2⟩ | ⟨h1, h2⟩
  ·subst h1
   simp only [if_true, Option.some.injEq] at hlj
   subst hlj; simp at z1
  ·rcases Q13 hk with ⟨h4, h5⟩ | ⟨h4, h5⟩
   ·subst h4
    simp only [if_true, Option.some.injEq] at hlk
    subst hlk; simp at z2
   ·have hlj : μ j = some lj := by simpa [Nat.ne_of_lt h1] using hlj
    have hlk : μ k = some lk := by simpa [Nat.ne_of_lt h4] using hlk
    exact h.inj j k x y lj lk h2 h5 hlj hlk z1 z2 he
 ·intro j hj
  simp only [List.length_append, List.length_cons, List.length_nil] at hj
  show (if j = H.length then _ else μ j) = none
  rw [if_neg (by omega)]; exact h.dom j (by omega)
 ·intro j x lj hj hlj hz
  rcases Q13 hj with ⟨h1, h2⟩ | ⟨h1, h2⟩
  ·subst h1
   simp only [if_true, Option.some.injEq] at hlj
   subst hlj; simp at hz
  ·have hlj : μ j = some lj := by simpa [Nat.ne_of_lt h1] using hlj
   obtain ⟨cs1, fz1, k1⟩ := h.typ j x lj h2 hlj hz
   exact ⟨cs1, fz1, (hpush lj.b (Q19 k1)).trans k1⟩
 ·intro j x lj hj hx hlj hz
  rcases Q13 hj with ⟨h1, h2⟩ | ⟨h1, h2⟩
  ·subst h1
   simp only [if_true, Option.some.injEq] at hlj
   subst hlj; simp at hz
  ·have hlj : μ j = some lj := by simpa [Nat.ne_of_lt h1] using hlj
   exact h.vb j x lj h2 hx hlj hz
 ·intro j x lj hj hlj hpz
  rcases Q13 hj with ⟨h1, h2⟩ | ⟨h1, h2⟩
  ·subst h1; subst h2
   simp only [if_true, Option.some.injEq] at hlj
   subst hlj
   simp at hpz
  ·have hlj : μ j = some lj := by simpa [Nat.ne_of_lt h1] using hlj
   obtain ⟨h0, kt', vt', xs, es, c, e1, e2, e3⟩ := h.mp j x lj h2 hlj hpz
   exact ⟨h0, kt', vt', xs, es, c, e1, (hpush lj.b (Q19 e2)).trans e2, e3⟩
 ·have old : ∀ {k : Nat} {y : AVal} {lk : Loc}, k < H.length → H[k]? = some (some y) → μ k = some lk → lk.mp = true → lk.b < w.heap.size := by
   intro k y lk _ h2 hlk pk
   obtain ⟨_, _, _, _, es, c, _, e2, _⟩ := h.mp k y lk h2 hlk pk
   exact Q19 e2
  intro j k x y lj lk hj hk pj pk hlj hlk he
  rcases Q13 hj with ⟨h1, h2⟩ | ⟨h1, h2⟩
  ·rcases Q13 hk with ⟨h4, h5⟩ | ⟨h4, h5⟩
   ·omega
   ·subst h1
    simp only [if_true, Option.some.injEq] at hlj
    have hlk : μ k = some lk := by simpa [Nat.ne_of_lt h4] using hlk
    have := old h4 h5 hlk pk
    subst hlj; simp only at he; omega
  ·rcases Q13 hk with ⟨h4, h5⟩ | ⟨h4, h5⟩
   ·subst h4
    simp only [if_true, Option.some.injEq] at hlk
    have hlj : μ j = some lj := by simpa [Nat.ne_of_lt h1] using hlj
    have := old h1 h2 hlj pj
    subst hlk; simp only at he; omega
   ·have hlj : μ j = some lj := by simpa [Nat.ne_of_lt h1] using hlj
    have hlk : μ k = some lk := by simpa [Nat.ne_of_lt h4] using hlk
    exact h.mpi j k x y lj lk h2 h5 pj pk hlj hlk he
 ·rintro b' ⟨j, x, lj, hj, hlj, q, he⟩ hb
  rcases Q13 hj with ⟨h1, h2⟩ | ⟨h1, h2⟩
  ·subst h1
   simp only [if_true, Option.some.injEq] at hlj
   subst hlj; simp only at he; omega
  ·have hlj : μ j = some lj := by simpa [Nat.ne_of_lt h1] using hlj
   exact ⟨j, x, lj, h2, hlj, q, he⟩
theorem Q5T {np : Nat} {m1 m5 : Mem} {μ1 μ5 : LMap} {H1 H5 : Heap} {w1 w5 : World} {mid : Nat} {kt vt : Ty} {xs : List (kt.den × vt.den)} {lm : Loc} (rh : RH m1 μ1 H1 w1) (hi : H1[mid]? = some (some (.mpc kt vt xs)))
  (hl : μ1 mid = some lm) (hp : lm.mp = true) (hmid : mid < np) (h : Q1l np m1 μ1 (H1.set mid none) w1 m5 μ5 H5 w5) :
  (w5.heap[lm.b]? = w1.heap[lm.b]?) ∧ Q1l np m1 μ1 H1 w1 m5 μ5 (H5.set mid (some (.mpc kt vt xs))) w5 := by
 obtain ⟨h0, kt', vt', xs', es, c, e, hw, hm⟩ := rh.mp mid _ lm hi hl hp
 cases e
 have hlt : lm.b < w1.heap.size := Q19 hw
 have nown : ¬ Q1y μ1 (H1.set mid none) lm.b := by
  rintro ⟨j, x, lj, hj, hlj, q, he⟩
  by_cases hjm : j = mid
  ·subst hjm
   rw [List.getElem?_set_self (List.getElem?_eq_some_iff.1 hi).1] at hj
   cases hj
  ·rw [List.getElem?_set_ne (Ne.symm hjm)] at hj
   exact hjm (Q8k rh hj hi hlj hl q (.inr hp) he)
 have hkeep := h.keep lm.b hlt nown
 have hμ5 : μ5 mid = some lm := h.fix mid lm hmid hl
 have hlen : mid < H5.length := by
  rcases Nat.lt_or_ge mid H5.length with g | g
  ·exact g
  ·rw [h.rh.dom mid g] at hμ5; cases hμ5
 have nown5 : ¬ Q1y μ5 H5 lm.b := fun ho => nown (h.grow _ ho hlt)
 have look : ∀ {j : Nat} {x : AVal}, (H5.set mid (some (.mpc kt vt xs)))[j]? = some (some x) → (j = mid ∧ x = .mpc kt vt xs) ∨ (j ≠ mid ∧ H5[j]? = some (some x)) := by
  intro j x hj
  by_cases hji : j = mid
  ·subst hji; rw [List.getElem?_set_self hlen] at hj; exact .inl ⟨rfl, (Option.some.inj (Option.some.inj hj)).symm⟩
  ·rw [List.getElem?_set_ne (Ne.symm hji)] at hj; exact .inr ⟨hji, hj⟩
 obtain ⟨lb, hblk⟩ := rh.blk mid _ hi
 have hlb : lb = lm := Option.some.inj (hblk.loc.symm.trans hl)
 subst hlb
 have hoff : lb.off = 0 := by
  rcases hblk.cells with g | g
  ·exact g.2.1
  ·omega
 refine ⟨hkeep, ⟨h.rh.mem, ?_, ?_, ?_, ?_, ?_, ?_, ?_⟩, h.ml, h.fix, h.os, h.tape, h.output, h.size, ?_, ?_, ?_⟩
 ·intro j x hj
  rcases look hj with ⟨rfl, rfl⟩ | ⟨_, g⟩
  ·exact ⟨lb, hμ5, hblk.sh, .inl ⟨h0, hoff, rfl, rfl⟩⟩
  ·exact h.rh.blk j x g
 ·intro j k x y lj lk hj hk hlj hlk p1 p2 he
  rcases look hj with ⟨rfl, rfl⟩ | ⟨_, g⟩
  ·have : lj = lb := Option.some.inj (hlj.symm.trans hμ5)
   subst this; omega
  ·rcases look hk with ⟨rfl, rfl⟩ | ⟨_, g'⟩
   ·have : lk = lb := Option.some.inj (hlk.symm.trans hμ5)
    subst this; omega
   ·exact h.rh.inj j k x y lj lk g g' hlj hlk p1 p2 he
 ·intro j hj; rw [List.length_set] at hj; exact h.rh.dom j hj
 ·intro j x lj hj hlj hz
  rcases look hj with ⟨rfl, rfl⟩ | ⟨_, g⟩
  ·have : lj = lb := Option.some.inj (hlj.symm.trans hμ5)
   subst this; omega
  ·exact h.rh.typ j x lj g hlj hz
 ·intro j x lj hj hx hlj hz
  rcases look hj with ⟨rfl, rfl⟩ | ⟨_, g⟩
  ·cases hx
  ·exact h.rh.vb j x lj g hx hlj hz
 ·intro j x lj hj hlj hpz
  rcases look hj with ⟨rfl, rfl⟩ | ⟨_, g⟩
  ·have : lj = lb := Option.some.inj (hlj.symm.trans hμ5)
   subst this
   exact ⟨h0, kt, vt, xs, es, c, rfl, hkeep.trans hw, hm.mono h.ml⟩
  ·exact h.rh.mp j x lj g hlj hpz
 ·intro j k x y lj lk hj hk pj pk hlj hlk he
  rcases look hj with ⟨rfl, rfl⟩ | ⟨g0, g⟩
  ·have e1 : lj = lb := Option.some.inj (hlj.symm.trans hμ5)
   subst e1
   rcases look hk with ⟨rfl, rfl⟩ | ⟨_, g'⟩
   ·rfl
   ·exact (nown5 ⟨k, y, lk, g', hlk, .inr pk, he.symm⟩).elim
  ·rcases look hk with ⟨rfl, rfl⟩ | ⟨_, g'⟩
   ·have e1 : lk = lb := Option.some.inj (hlk.symm.trans hμ5)
    subst e1
    exact (nown5 ⟨j, x, lj, g, hlj, .inr pj, he⟩).elim
   ·exact h.rh.mpi j k x y lj lk g g' pj pk hlj hlk he
 ·intro b hb ho
  refine h.keep b hb fun ho' => ho ?_
  obtain ⟨j, x, lj, hj, hlj, q, he⟩ := ho'
  by_cases hjm : j = mid
  ·subst hjm
   rw [List.getElem?_set_self (List.getElem?_eq_some_iff.1 hi).1] at hj
   cases hj
  ·rw [List.getElem?_set_ne (Ne.symm hjm)] at hj
   exact ⟨j, x, lj, hj, hlj, q, he⟩
 ·rintro b ⟨j, x, lj, hj, hlj, q, he⟩ hb
  rcases look hj with ⟨rfl, rfl⟩ | ⟨_, g⟩
  ·have : lj = lb := Option.some.inj (hlj.symm.trans hμ5)
   subst this
   exact ⟨j, _, lj, hi, hl, q, he⟩
  ·obtain ⟨j', x', lj', hj', hlj', q', he'⟩ := h.grow b ⟨j, x, lj, g, hlj, q, he⟩ hb
   by_cases hjm : j' = mid
   ·subst hjm
    rw [List.getElem?_set_self (List.getElem?_eq_some_iff.1 hi).1] at hj'
    cases hj'
   ·rw [List.getElem?_set_ne (Ne.symm hjm)] at hj'
    exact ⟨j', x', lj', hj', hlj', q', he'⟩
 ·intro b cc hc
  rcases h.mgrow b cc hc with g | g | g
  ·exact .inl g
  ·obtain ⟨j', x', lj', hj', hlj', q', he'⟩ := g
   by_cases hjm : j' = mid
   ·subst hjm
    rw [List.getElem?_set_self (List.getElem?_eq_some_iff.1 hi).1] at hj'
    cases hj'
   ·rw [List.getElem?_set_ne (Ne.symm hjm)] at hj'
    exact .inr (.inl ⟨j', x', lj', hj', hlj', q', he'⟩)
  ·exact .inr (.inr g)
section
variable {P : Program} {w : World} {b bm since last clock : Nat} {seen : Array Nat} {es : Array MapEntry} {ty : TypeId}
theorem Q5Z (h : w.heap[b]? = some (.mapIter (some bm) since seen last)) : (getObj b).run P w = .ok (.mapIter (some bm) since seen last) w := by
 simp only [getObj, Sem.run, h]
theorem Q85 (h1 : w.heap[b]? = some (.mapIter (some bm) since seen last)) (h2 : w.heap[bm]? = some (.map es clock)) (hl : es.filter (fun e => !seen.contains e.born) = #[])
  (hg : (!seen.isEmpty && !es.isEmpty && es.all fun e => decide (e.born ≥ last)) = false) : (Instr.next (.pointer (some ⟨b, 0, none⟩)) false ty).run P w = .ok (.tuple #[.bool false]) w := by
 simp only [Instr.next, Sem.run_bind, Q5Z h1, Q1B h2, Result.andThen, hg, hl, Bool.false_eq_true, if_false]
 simp [choose, Sem.run, Question.forced]
theorem QaD (o : Obj) (h : w.heap[b]? = some (.mapIter (some bm) since seen last)) : (setObj b o).run P w = .ok () { w with heap := w.heap.setIfInBounds b o } := by
 simp only [setObj, Sem.run, h]
theorem QaV {e : MapEntry} (h1 : w.heap[b]? = some (.mapIter (some bm) since #[] last)) (h2 : w.heap[bm]? = some (.map #[e] clock)) (hb : e.born < since) :
  (Instr.next (.pointer (some ⟨b, 0, none⟩)) false ty).run P w = .ok (.tuple #[.bool true, e.key, e.val]) { w with heap := w.heap.setIfInBounds b (.mapIter (some bm) since #[e.born] clock) } := by
 have f0 : (#[e] : Array MapEntry).filter (fun e => !(#[] : Array Nat).contains e.born) = #[e] := by simp
 have f1 : (#[e] : Array MapEntry).filter (fun x => decide (x.born < since)) = #[e] := by simp [hb]
 have f2 : (#[e] : Array MapEntry).filter (fun x => decide (x.born ≥ since)) = #[] := by simp; omega
 simp only [Instr.next, Sem.run_bind, Q5Z h1, Q1B h2, Result.andThen, f0, f1, f2]
 simp [choose, Sem.run, Question.forced, QaD _ h1, Result.andThen]
theorem Qar {e : MapEntry} (h1 : w.heap[b]? = some (.mapIter (some bm) since #[e.born] clock)) (h2 : w.heap[bm]? = some (.map #[e] clock)) :
  (Instr.entry (.pointer (some ⟨b, 0, none⟩))).run P w = .ok (.tuple #[e.key, e.val]) w := by
 simp only [Instr.entry, Sem.run_bind, Q5Z h1, Result.andThen]
 simp [Q1B h2, Result.andThen]
end
end Go.Am
namespace Go.Am
open Go
theorem Q5o {m : Mem} {μ : LMap} {t : Ty} {d : t.den} {v : Value} (h : DV m t d v) : Q1j m μ (toA t d) v := by
 have := h.rel (μ := μ)
 have tne : ∀ s, toA t d ≠ .tup s := by intro s; cases t <;> simp [toA]
 unfold VRel at this
 split at this
 ·exact absurd ‹_› (tne _)
 ·exact this
structure Rng where
 i0 : Nat
 ops : Array Oper
 out : Nat
 i1 : Nat
 step : Array Oper
 more : Operand
 nxt : Nat
 i2 : Nat
 asg : Array Oper
 body : Code
def Rng.code (p : Rng) : Code :=
 .seq (.region p.i0 p.ops false) (.block p.out (.loop (.seq (.region p.i1 p.step false) (.seq (.cond p.more .skip (.exit p.out)) (.block p.nxt (.seq (.region p.i2 p.asg false) p.body))))))
def Qb2 : Code → Option Rng
 | .seq (.region i0 ops false) (.block out (.loop (.seq (.region i1 step false) (.seq (.cond more .skip (.exit out')) (.block nxt (.seq (.region i2 asg false) body)))))) =>
  if out = out' then some ⟨i0, ops, out, i1, step, more, nxt, i2, asg, body⟩ else none
 | _ => none
theorem Qbl {c : Code} {p : Rng} (h : Qb2 c = some p) : c = p.code := by
 unfold Qb2 at h
 split at h
 ·split at h
  ·rename_i e; subst e; cases h; rfl
  ·cases h
 ·cases h
def Q9m (o n1 e1 : Oper) : Option (TypeId × Operand × Nat × Nat × Nat) :=
 match o.op, o.guard, o.dst, n1.op, n1.guard, n1.dst, e1.op, e1.guard, e1.dst with
 | .range T x, none, some dI, .next (.tmp t) false, none, some dN, .entry (.tmp t'), none, some dE => if t = dI ∧ t' = dI then some (T, x, dI, dN, dE) else none
 | _, _, _, _, _, _, _, _, _ => none
theorem Q9d {o n1 e1 : Oper} {T : TypeId} {x : Operand} {dI dN dE : Nat} (h : Q9m o n1 e1 = some (T, x, dI, dN, dE)) :
  (o.op = .range T x ∧ o.guard = none ∧ o.dst = some dI) ∧ (n1.op = .next (.tmp dI) false ∧ n1.guard = none ∧ n1.dst = some dN) ∧ (e1.op = .entry (.tmp dI) ∧ e1.guard = none ∧ e1.dst = some dE) := by
 unfold Q9m at h
 split at h
 ·rename_i h1 h2 h3 h4 h5 h6 h7 h8 h9
  split at h
  ·rename_i e; obtain ⟨rfl, rfl⟩ := e; cases h; exact ⟨⟨h1, h2, h3⟩, ⟨h4, h5, h6⟩, h7, h8, h9⟩
  ·cases h
 ·cases h
def itAt (sl : List AVal) (d iid : Nat) : Bool := match sl.getD d .undef with | .ptr i [] => Nat.beq i iid | _ => false
theorem Q4t {sl : List AVal} {d iid : Nat} (h : itAt sl d iid = true) : sl[d]? = some (.ptr iid []) := by
 unfold itAt at h
 split at h
 ·rename_i i e
  have := Nat.eq_of_beq_eq_true h
  subst this
  exact Q6y e (by simp)
 ·cases h
def Q9F (C : Ctx) (p : Rng) (ann : Ann) : Q2z :=
 ⟨fun st K =>
  match p.ops[p.ops.size - 1]?, p.step.toList, p.asg.toList with
  | some o, n1 :: step', e1 :: asg' =>
   match Q9m o n1 e1 with
   | some (T, x, dI, dN, dE) =>
    Q26 C p.ops p.ops.toList.dropLast st [] fun st1 _ =>
     match Q0k st1.sl x with
     | .mp mid =>
      match st1.H[mid]? with
      | some (some (.mpc kt vt xs)) =>
       cond (decide (Q5k C.P T = some (kt, vt)))
       (match xs with
       | [] =>
        cond (itAt (st1.sl.set dI (.ptr st1.H.length [])) dI st1.H.length)
        (Q26 C p.step step' ⟨(st1.sl.set dI (.ptr st1.H.length [])).set dN (.tup (.pair (.bool false) .unit)), st1.H ++ [some AVal.unit]⟩ [] fun st2 _ =>
         match Q0k st2.sl p.more with
         | .bool false => K .normal st2
         | _ => none) none
       | [e] =>
        cond (itAt (st1.sl.set dI (.ptr st1.H.length [])) dI st1.H.length)
        (Q26 C p.step step' ⟨(st1.sl.set dI (.ptr st1.H.length [])).set dN (.tup (.pair (.bool true) (.pair (toA kt e.1) (.pair (toA vt e.2) .unit)))), (st1.H ++ [some AVal.unit]).set mid none⟩ [] fun st2 _ =>
         match Q0k st2.sl p.more with
         | .bool true =>
          cond (itAt st2.sl dI st1.H.length)
          (Q26 C p.asg asg' ⟨st2.sl.set dE (.tup (.pair (toA kt e.1) (.pair (toA vt e.2) .unit))), st2.H⟩ [] fun st3 _ =>
           evC C p.body ann st3 fun ex st4 =>
            cond ((match ex with | .normal => true | .exit i => Nat.beq i p.nxt | _ => false) && itAt st4.sl dI st1.H.length)
            (Q26 C p.step step' ⟨st4.sl.set dN (.tup (.pair (.bool false) .unit)), st4.H⟩ [] fun st5 _ =>
             match Q0k st5.sl p.more with
             | .bool false => K .normal ⟨st5.sl, st5.H.set mid (some (.mpc kt vt [e]))⟩
             | _ => none) none) none
         | _ => none) none
       | _ => none) none
      | _ => none
     | _ => none
   | none => none
  | _, _, _ => none⟩
theorem Q4Y {P : Program} {ops : Array Oper} {Q : Exit → Act → World → Prop} {i0 : Nat} {os : List Oper} {S : Nat → St} {V : Nat → AVal} {E : Nat → Eff} (hc : Q1w P ops i0 os S V E) (rest : List Nat) :
  ∀ (n j : Nat), j + n = os.length → ∀ (m : Mem) (μ : LMap) (w : World) (a : Act), RH m μ (S j).H w → RS m μ (S j).sl a →
   (∀ a' w' m' μ', RS m' μ' (S os.length).sl a' → Post m μ (S j).H w m' μ' (S os.length).H w' → wpOps P ops Q rest a' w') → wpOps P ops Q (List.range' (i0 + j) n ++ rest) a w
 | 0, j, hj, m, μ, w, a, rh, rs, hQ => by
  have : j = os.length := by omega
  subst this
  exact hQ _ _ _ _ rs (.refl rh)
 | n + 1, j, hj, m, μ, w, a, rh, rs, hQ => by
  rw [List.range'_succ, List.cons_append, wpOps_cons]
  have hlt : j < os.length := by omega
  have ho : os[j]? = some os[j] := by simp [hlt]
  obtain ⟨h1, h2, _⟩ := hc j _ ho
  refine h1.now m μ w a Q _ rh rs fun u w' m' μ' hv hp => ?_
  refine Q4Y hc rest n (j + 1) (by omega) m' μ' w' _ hp.rh ?_ fun a' w'' m'' μ'' hs hp' => hQ _ _ _ _ hs (hp.trans hp')
  rw [h2]
  exact Q3b hp.ml hp.μl rs hv
theorem Q7j {P : Program} {ops : Array Oper} {Q : Exit → Act → World → Prop} {i : Nat} {o : Oper} {K : Act → World → Prop} {a : Act} {w w' : World} {v : Value} (hi : ops[i]? = some o) (hg : o.guard = none)
  (hr : (execOp a.eval o).run P w = .ok (.value v) w') (hK : K (a.put o.dst v) w') : wpOp P ops Q i K a w := by
 unfold wpOp
 simp only [hi, Region.wanted, hg, if_true]
 refine .inl ?_
 unfold Oper.wp
 rw [hr]
 exact hK
theorem Q8e {m : Mem} {μ : LMap} {sl : List AVal} {a : Act} {dI iid b : Nat} (rs : RS m μ sl a) (h : sl[dI]? = some (.ptr iid [])) (hμ : μ iid = some ⟨b, 0, .unit, 0, 0, false⟩) : a.eval (.tmp dI) = .pointer (some ⟨b, 0, none⟩) := by
 have h0 : Q0k sl (.tmp dI) = .ptr iid [] := by
  show sl.getD dI .undef = _
  rw [List.getD_eq_getElem?_getD, h]; rfl
 have hr := Q0j rs (.tmp dI)
 rw [h0] at hr
 obtain ⟨l, o, s, h1, h2, h3⟩ := hr.one rfl rfl
 rw [hμ] at h1
 cases h1
 have : o = 0 := by
  simp only [Sh.offP, Option.some.injEq, Prod.mk.injEq] at h2
  exact h2.1.symm
 subst this
 exact (List.cons.inj h3).1
theorem Q9S {P : Program} {m : Mem} {μ : LMap} {w : World} {a : Act} {sl : List AVal} {H : Heap} {mid : Nat} {kt vt : Ty} {xs : List (kt.den × vt.den)} {T : TypeId} {x : Operand} {o : Oper} (rh : RH m μ H w) (rs : RS m μ sl a)
  (hx : Q0k sl x = .mp mid) (hi : H[mid]? = some (some (.mpc kt vt xs))) (hT : Q5k P T = some (kt, vt)) (ho : o.op = .range T x) :
  ∃ lm es clock, μ mid = some lm ∧ lm.mp = true ∧ w.heap[lm.b]? = some (.map es clock) ∧ Q2h m kt vt xs es.toList clock ∧
   (execOp a.eval o).run P w = .ok (.value (.pointer (some ⟨w.heap.size, 0, none⟩))) (w.alloc (.mapIter (some lm.b) clock #[] clock)) := by
 have hr := Q0j rs x
 rw [hx] at hr
 obtain ⟨lm, es, clock, h1, h2, h3, h4, h5⟩ := Q6W rh hi hr
 obtain ⟨K, V, hu, _⟩ := Q2q hT
 refine ⟨lm, es, clock, h1, h2, h4, h5, ?_⟩
 unfold execOp
 rw [ho]
 simp only [h3, Sem.run_bind, run_range_map w T K V lm.b es clock hu h4, Result.andThen]
 rfl
theorem Q5R {P : Program} {a : Act} {w w' : World} {o : Oper} {dI : Nat} {v : Value} (ho : o.op = .next (.tmp dI) false) (h : (Instr.next (a.eval (.tmp dI)) false o.type).run P w = .ok v w') : (execOp a.eval o).run P w = .ok (.value v) w' := by
 unfold execOp
 rw [ho]
 simp only [Sem.run_bind, h, Result.andThen]
 rfl
theorem Q9D {P : Program} {a : Act} {w w' : World} {o : Oper} {dI : Nat} {v : Value} (ho : o.op = .entry (.tmp dI)) (h : (Instr.entry (a.eval (.tmp dI))).run P w = .ok v w') : (execOp a.eval o).run P w = .ok (.value v) w' := by
 unfold execOp
 rw [ho]
 simp only [Sem.run_bind, h, Result.andThen]
 rfl
theorem Q9V {n : Nat} (h : 1 ≤ n) : List.range' 0 n = List.range' 0 (n - 1) ++ [n - 1] := by
 obtain ⟨k, rfl⟩ : ∃ k, n = k + 1 := ⟨n - 1, by omega⟩
 rw [List.range'_concat]; simp
theorem Q8u {α : Type} {l : List α} {j : Nat} {x : α} (h : l.dropLast[j]? = some x) : l[j]? = some x := by
 rw [List.getElem?_dropLast] at h
 split at h
 ·exact h
 ·cases h
theorem tup3 {m : Mem} {μ : LMap} {b : Bool} {kt vt : Ty} {k : kt.den} {v : vt.den} {x y : Value} (hk : DV m kt k x) (hv : DV m vt v y) : VRel m μ (.tup (.pair (.bool b) (.pair (toA kt k) (.pair (toA vt v) .unit)))) (.tuple #[.bool b, x, y]) := by
 refine ⟨#[.bool b, x, y], rfl, .bool b, [x, y], rfl, rfl, x, [y], rfl, ?_, y, [], rfl, ?_, rfl⟩
 ·exact Q5o hk
 ·exact Q5o hv
theorem tup2 {m : Mem} {μ : LMap} {kt vt : Ty} {k : kt.den} {v : vt.den} {x y : Value} (hk : DV m kt k x) (hv : DV m vt v y) : VRel m μ (.tup (.pair (toA kt k) (.pair (toA vt v) .unit))) (.tuple #[x, y]) := by
 refine ⟨#[x, y], rfl, x, [y], rfl, ?_, y, [], rfl, ?_, rfl⟩
 ·exact Q5o hk
 ·exact Q5o hv
theorem tup1 {m : Mem} {μ : LMap} (b : Bool) : VRel m μ (.tup (.pair (.bool b) .unit)) (.tuple #[.bool b]) := ⟨#[.bool b], rfl, .bool b, [], rfl, rfl, rfl⟩
end Go.Am
namespace Go.Am
open Go
theorem Qan {α : Type} {b : Bool} {x : Option α} {r : α} (h : cond b x none = some r) : b = true ∧ x = some r := by
 cases b
 ·cases h
 ·exact ⟨rfl, h⟩
theorem Q8X {α : Type} {l : Array α} (h : l.toList.length = 1) : ∃ x, l = #[x] := by
 cases l with
 | mk l =>
  match l, h with
  | [x], _ => exact ⟨x, rfl⟩
theorem Q2E {P : Program} {id : Nat} {ops : Array Oper} {o1 : Oper} {os : List Oper} {Q : Exit → Act → World → Prop} {S : Nat → St} {V : Nat → AVal} {E : Nat → Eff} (hops : ops.toList = o1 :: os) (hg : o1.guard = none) (hc : Q1w P ops 1 os S V E)
  {m : Mem} {μ : LMap} {w w1 : World} {a : Act} {v : Value} (hr : (execOp a.eval o1).run P w = .ok (.value v) w1) (rh : RH m μ (S 0).H w1) (rs : RS m μ (S 0).sl (a.put o1.dst v))
  (hQ : ∀ a' w' m' μ', RS m' μ' (S os.length).sl a' → Post m μ (S 0).H w1 m' μ' (S os.length).H w' → Q .normal a' w') : (Code.region id ops false).wp P Q a w := by
 refine wp_region ?_
 have hsz : ops.size = os.length + 1 := by rw [← Array.length_toList, hops]; rfl
 rw [List.range_eq_range', hsz, List.range'_succ, wpOps_cons]
 have h0 : ops[0]? = some o1 := by rw [← Array.getElem?_toList, hops]; rfl
 refine Q7j h0 hg hr ?_
 have := Q4Y (Q := Q) hc [] os.length 0 (by omega) m μ w1 _ rh rs fun a' w' m' μ' hs hp => hQ a' w' m' μ' hs hp
 simpa using this
theorem QbC {m : Mem} {μ : LMap} {H : Heap} {w : World} (rh : RH m μ H w) {b bm since last : Nat} {seen : Array Nat} (h : w.heap[b]? = some (.mapIter (some bm) since seen last)) : ¬ Q1y μ H b := by
 rintro ⟨j, x, lj, hj, hlj, q, rfl⟩
 rcases q with q | q
 ·obtain ⟨cs, fz, h1⟩ := rh.typ j x lj hj hlj q
  rw [h] at h1; cases h1
 ·obtain ⟨_, _, _, _, es, c, _, h1, _⟩ := rh.mp j x lj hj hlj q
  rw [h] at h1; cases h1
theorem Q1l.it {np : Nat} {m0 m : Mem} {μ0 μ : LMap} {H0 H : Heap} {w0 w : World} (p : Q1l np m0 μ0 H0 w0 m μ H w) {b bm since last : Nat} {seen : Array Nat} (h : w.heap[b]? = some (.mapIter (some bm) since seen last)) (hb : w0.heap.size ≤ b) (since' last' : Nat) (seen' : Array Nat) :
  Q1l np m0 μ0 H0 w0 m μ H { w with heap := w.heap.setIfInBounds b (.mapIter (some bm) since' seen' last') } := by
 have rh := p.rh
 have keep : ∀ c, c ≠ b → (w.heap.setIfInBounds b (Obj.mapIter (some bm) since' seen' last'))[c]? = w.heap[c]? := fun c hc => by simp [Ne.symm hc]
 have ne : ∀ {c : Nat} {o : Obj}, w.heap[c]? = some o → (∀ x y z t, o ≠ .mapIter x y z t) → c ≠ b := by
  intro c o hc ho e
  subst e
  rw [h] at hc
  exact ho _ _ _ _ (Option.some.inj hc).symm
 refine ⟨⟨?_, ?_, rh.inj, rh.dom, ?_, rh.vb, ?_, rh.mpi⟩, p.ml, p.fix, p.os, p.tape, p.output, by show w0.heap.size ≤ (w.heap.setIfInBounds _ _).size; simpa using p.size, ?_, p.grow, p.mgrow⟩
 ·intro c cs hc
  obtain ⟨E1, fz1, h1⟩ := rh.mem c cs hc
  exact ⟨E1, fz1, (keep c (ne h1 (by simp))).trans h1⟩
 ·intro j x hj
  obtain ⟨lj, hbj⟩ := rh.blk j x hj
  refine ⟨lj, hbj.loc, hbj.sh, ?_⟩
  rcases hbj.cells with g | ⟨p0, q1, cs, E1, fz1, q2, q3⟩
  ·exact .inl g
  ·exact .inr ⟨p0, q1, cs, E1, fz1, (keep lj.b (ne q2 (by simp))).trans q2, q3⟩
 ·intro j x lj hj hlj hz
  obtain ⟨cs1, fz1, k1⟩ := rh.typ j x lj hj hlj hz
  exact ⟨cs1, fz1, (keep lj.b (ne k1 (by simp))).trans k1⟩
 ·intro j x lj hj hlj hpz
  obtain ⟨g0, kt', vt', ys, es1, c1, e1, e2, e3⟩ := rh.mp j x lj hj hlj hpz
  exact ⟨g0, kt', vt', ys, es1, c1, e1, (keep lj.b (ne e2 (by simp))).trans e2, e3⟩
 ·intro c hc ho
  exact (keep c (by omega)).trans (p.keep c hc ho)
theorem QbX {np : Nat} {C : Ctx} (hΓ : ∀ f, Qh C.P f (C.Γ f)) (hmix : C.P.follows .mixedOrders = true) {p : Rng} {ann : Ann} (hA : ∀ np, Q0 np C.P p.body ann) : StOK np C.P p.code (Q9F C p ann) := by
 intro ρ st K r h
 simp only [Q9F] at h
 split at h
 case h_2 => cases h
 rename_i o n1 step' e1 asg' ho hstep hasg
 split at h
 case h_2 => cases h
 rename_i T x dI dN dE hops
 obtain ⟨⟨o1, o2, o3⟩, ⟨n1a, n1b, n1c⟩, e1a, e1b, e1c⟩ := Q9d hops
 have hn : 1 ≤ p.ops.size := by
  have := (Array.getElem?_eq_some_iff.1 ho).1
  omega
 obtain ⟨S, V, E, es', hS0, hc, hk, _⟩ := Q1Q hΓ p.ops.toList.dropLast 0 st [] (fun j o' hj => by
  rw [Nat.zero_add, ← Array.getElem?_toList]; exact Q8u hj) h
 have hdl : p.ops.toList.dropLast.length = p.ops.size - 1 := by rw [List.length_dropLast, Array.length_toList]
 generalize hst1 : S p.ops.toList.dropLast.length = st1 at hk
 split at hk
 case h_2 => cases hk
 rename_i mid hx
 split at hk
 case h_2 => cases hk
 rename_i kt vt xs hi
 rw [Bool.cond_eq_ite] at hk
 split at hk
 case isFalse => cases hk
 rename_i hT
 simp only [decide_eq_true_eq] at hT
 have ahead : ∀ {m : Mem} {μ : LMap} {w : World} {a : Act} {Q : Exit → Act → World → Prop}, RH m μ st.H w → RS m μ st.sl a →
   (∀ (a1 : Act) (w1 : World) (m1 : Mem) (μ1 : LMap) (lm : Loc) (es : Array MapEntry) (clock : Nat), RS m1 μ1 (st1.sl.set dI (.ptr st1.H.length [])) a1 → Q1l np m μ st.H w m1 μ1 (st1.H ++ [some AVal.unit]) w1 →
    w.heap.size ≤ w1.heap.size - 1 → w1.heap[w1.heap.size - 1]? = some (.mapIter (some lm.b) clock #[] clock) → μ1 st1.H.length = some ⟨w1.heap.size - 1, 0, .unit, 0, 0, false⟩ →
    μ1 mid = some lm → lm.mp = true → w1.heap[lm.b]? = some (.map es clock) → Q2h m1 kt vt xs es.toList clock → Q .normal a1 w1) →
   (Code.region p.i0 p.ops false).wp C.P Q a w := by
  intro m μ w a Q rh rs hQ
  refine wp_region ?_
  rw [List.range_eq_range', Q9V hn]
  have := Q4Y (Q := Q) hc [p.ops.size - 1] (p.ops.size - 1) 0 (by omega) m μ w a (by rw [hS0]; exact rh) (by rw [hS0]; exact rs) fun a1 w1 m1 μ1 rs1 p1 => ?_
  ·simpa using this
  ·rw [hst1] at rs1 p1
   rw [hS0] at p1
   obtain ⟨lm, es, clock, g1, g2, g3, g4, g5⟩ := Q9S p1.rh rs1 hx hi hT o1
   rw [wpOps_cons]
   refine Q7j ho o2 g5 ?_
   have hit := p1.rh.itNew (.mapIter (some lm.b) clock #[] clock)
   have hlt := Q19 g3
   have hsz : (w1.alloc (.mapIter (some lm.b) clock #[] clock)).heap.size - 1 = w1.heap.size := by
    show (w1.heap.push _).size - 1 = _
    simp
   have hid : mid < st1.H.length := (List.getElem?_eq_some_iff.1 hi).1
   show Q .normal _ _
   refine hQ _ (w1.alloc (.mapIter (some lm.b) clock #[] clock)) m1 _ lm es clock ?_ (p1.toW.trans hit.toW) (by rw [hsz]; exact p1.size) ?_ ?_ ?_ g2 ?_ g4
   ·rw [o3]
    exact Q3b (dst := some dI) (Mem.le_refl _) hit.μl rs1 ⟨⟨w1.heap.size, 0, .unit, 0, 0, false⟩, 0, .unit, if_pos rfl, rfl, rfl⟩
   ·rw [hsz]; exact heap_alloc_new _ _
   ·rw [hsz]; exact if_pos rfl
   ·exact hit.μl _ _ g1
   ·rw [heap_alloc_old _ _ hlt]; exact g3
 have stepIx : ∀ (j : Nat) (o' : Oper), step'[j]? = some o' → p.step[1 + j]? = some o' := fun j o' hj => by
  rw [← Array.getElem?_toList, hstep, Nat.add_comm]; simpa using hj
 have asgIx : ∀ (j : Nat) (o' : Oper), asg'[j]? = some o' → p.asg[1 + j]? = some o' := fun j o' hj => by
  rw [← Array.getElem?_toList, hasg, Nat.add_comm]; simpa using hj
 have hid : mid < st1.H.length := (List.getElem?_eq_some_iff.1 hi).1
 split at hk
 ·-- no entry
  rw [Bool.cond_eq_ite] at hk
  split at hk
  case isFalse => cases hk
  rename_i hat
  have hsl := Q4t hat
  obtain ⟨S2, V2, E2, es2, hS2, hc2, hk2, _⟩ := Q1Q hΓ step' 1 _ _ stepIx hk
  split at hk2
  case h_2 => cases hk2
  rename_i hmore
  refine ⟨_, _, hk2, fun m μ w a Q rh rs hQ => ?_⟩
  refine wp_seq (ahead rh rs fun a1 w1 m1 μ1 lm es clock rs1 p1 hsz hit hiid hlm hmp hmap hrel => ?_)
  have hes : es = #[] := by
   apply Array.eq_empty_of_size_eq_zero
   have := hrel.1.1
   simpa using this
  subst hes
  refine wp_block (wp_loop_once (wp_seq ?_))
  refine Q2E hstep n1b hc2 (Q5R n1a (by rw [Q8e rs1 hsl hiid]; exact Q85 hit hmap (by simp) (by simp))) (m := m1) (μ := μ1) (by rw [hS2]; exact p1.rh) ?_ fun a2 w2 m2 μ2 rs2 p2 => ?_
  ·rw [hS2, n1c]
   exact Q3b (dst := some dN) (Mem.le_refl _) (LMap.le_refl _) rs1 (tup1 false)
  ·have hmv := Q0j rs2 p.more
   rw [hmore] at hmv
   refine wp_seq (wp_cond_false hmv.isBool (wp_exit ?_))
   simp only [Exit.then, Exit.inBlock, if_true]
   rw [hS2] at p2
   exact hQ _ _ _ _ rs2 (p1.trans p2.toW)
 ·-- one entry
  rename_i e
  rw [Bool.cond_eq_ite] at hk
  split at hk
  case isFalse => cases hk
  rename_i hat
  have hsl := Q4t hat
  obtain ⟨S2, V2, E2, es2, hS2, hc2, hk2, _⟩ := Q1Q hΓ step' 1 _ _ stepIx hk
  split at hk2
  case h_2 => cases hk2
  rename_i hmore2
  rw [Bool.cond_eq_ite] at hk2
  split at hk2
  case isFalse => cases hk2
  rename_i hat2
  have hsl2 := Q4t hat2
  obtain ⟨S3, V3, E3, es3, hS3, hc3, hk3, _⟩ := Q1Q hΓ asg' 1 _ _ asgIx hk2
  generalize hNP : max np ((S3 asg'.length).H.length) = NP
  obtain ⟨ex, st4, hk4, hbody⟩ := Q1U hΓ hmix p.body ann _ _ _ (hA NP) hk3
  obtain ⟨hat4, hk4⟩ := Qan hk4
  rw [Bool.and_eq_true] at hat4
  have hsl4 := Q4t hat4.2
  obtain ⟨S5, V5, E5, es5, hS5, hc5, hk5, _⟩ := Q1Q hΓ step' 1 _ _ stepIx hk4
  split at hk5
  case h_2 => cases hk5
  rename_i hmore5
  refine ⟨_, _, hk5, fun m μ w a Q rh rs hQ => ?_⟩
  refine wp_seq (ahead rh rs fun a1 w1 m1 μ1 lm es clock rs1 p1 hsz hit hiid hlm hmp hmap hrel => ?_)
  obtain ⟨e0, rfl⟩ := Q8X (hrel.1.1)
  have hborn : e0.born < clock := hrel.2 e0 (by simp)
  have hdv := hrel.1.2 0 e e0 rfl rfl
  generalize hbo : w1.heap.size - 1 = b0 at hsz hit hiid
  have hb0 : b0 < w1.heap.size := Q19 hit
  have hbm : lm.b ≠ b0 := fun e => by rw [e, hit] at hmap; cases hmap
  have pn := p1.it hit hsz clock clock #[e0.born]
  have hrun1 := QaV (P := C.P) (ty := n1.type) hit hmap hborn
  generalize hwn : ({ w1 with heap := w1.heap.setIfInBounds b0 (.mapIter (some lm.b) clock #[e0.born] clock) } : World) = wn at pn hrun1
  have hitn : wn.heap[b0]? = some (.mapIter (some lm.b) clock #[e0.born] clock) := by
   rw [← hwn]; simp [hb0]
  have hmapn : wn.heap[lm.b]? = some (.map #[e0] clock) := by
   rw [← hwn]
   show (w1.heap.setIfInBounds b0 _)[lm.b]? = _
   rw [Array.getElem?_setIfInBounds_ne (Ne.symm hbm)]; exact hmap
  have hi1 : (st1.H ++ [some AVal.unit])[mid]? = some (some (.mpc kt vt [e])) := by rw [List.getElem?_append_left hid]; exact hi
  have killed := pn.rh.kill mid
  have nob : ¬ Q1y μ1 ((st1.H ++ [some AVal.unit]).set mid none) b0 := QbC killed.rh hitn
  have hbn : b0 < wn.heap.size := Q19 hitn
  have hnpNP : np ≤ NP := by rw [← hNP]; exact Nat.le_max_left _ _
  have h3NP : (S3 asg'.length).H.length ≤ NP := by rw [← hNP]; exact Nat.le_max_right _ _
  refine wp_block (Q2F (fun j a' w' => (j = 2 ∧ a' = a1 ∧ w' = w1) ∨ (j = 1 ∧ st1.H.length < NP ∧ ∃ m4 μ4, RS m4 μ4 st4.sl a' ∧ Q1l NP m1 μ1 ((st1.H ++ [some AVal.unit]).set mid none) wn m4 μ4 st4.H w')) ?_ ?_ (n := 2) (.inl ⟨rfl, rfl, rfl⟩))
  ·rintro a w (⟨h, _⟩ | ⟨h, _⟩) <;> cases h
  ·rintro j a' w' (⟨hj, rfl, rfl⟩ | ⟨hj, hiNP, m4, μ4, rs4, p4⟩)
   ·-- the entry
    obtain rfl : j = 1 := by omega
    refine wp_seq ?_
    refine Q2E hstep n1b hc2 (Q5R n1a (by rw [Q8e rs1 hsl hiid]; exact hrun1)) (m := m1) (μ := μ1) (by rw [hS2]; exact killed.rh) ?_ fun a2 w2 m2 μ2 rs2 p2 => ?_
    ·rw [hS2, n1c]
     exact Q3b (dst := some dN) (Mem.le_refl _) (LMap.le_refl _) rs1 (tup3 hdv.1 hdv.2)
    rw [hS2] at p2
    have hmv := Q0j rs2 p.more
    rw [hmore2] at hmv
    refine wp_seq (wp_cond_true hmv.isBool (wp_skip ?_))
    simp only [Exit.then]
    refine wp_block (wp_seq ?_)
    have hit2 := (p2.keep b0 hbn nob).trans hitn
    have hmap2 := (Q5T (np := mid + 1) pn.rh hi1 hlm hmp (by omega) p2.toW).1.trans hmapn
    have hμ2 := p2.μl _ _ hiid
    have up : ∀ {t : Ty} {d : t.den} {v : Value}, DV m1 t d v → DV m2 t d v := fun h => Q1j.mono p2.ml (LMap.le_refl _) h
    refine Q2E hasg e1b hc3 (Q9D e1a (by rw [Q8e rs2 hsl2 hμ2]; exact Qar hit2 hmap2)) (m := m2) (μ := μ2) (by rw [hS3]; exact p2.rh) ?_ fun a3 w3 m3 μ3 rs3 p3 => ?_
    ·rw [hS3, e1c]
     exact Q3b (dst := some dE) (Mem.le_refl _) (LMap.le_refl _) rs2 (tup2 (up hdv.1) (up hdv.2))
    rw [hS3] at p3
    simp only [Exit.then]
    have hlen : st1.H.length < NP := by
     have g1 := p2.hol.1
     have g2 := p3.hol.1
     simp only [List.length_set, List.length_append, List.length_cons, List.length_nil] at g1
     dsimp only at g2
     omega
    refine hbody m3 μ3 w3 a3 _ p3.rh rs3 fun a4 w4 m4 μ4 rs4 p4 => ?_
    have fin := (p2.toW (np := NP)).trans ((p3.toW (np := NP)).trans p4)
    cases ex with
    | normal => exact .inr ⟨trivial, hlen, m4, μ4, rs4, fin⟩
    | exit i =>
     have := Nat.eq_of_beq_eq_true hat4.1
     subst this
     simp only [Exit.inBlock, if_true]
     exact .inr ⟨trivial, hlen, m4, μ4, rs4, fin⟩
    | _ => exact absurd hat4.1 (by simp)
   ·-- the end
    obtain rfl : j = 0 := by omega
    have hit4 := (p4.keep b0 hbn nob).trans hitn
    have hmap4 := (Q5T pn.rh hi1 hlm hmp (by omega) p4).1.trans hmapn
    have hμ4 := p4.fix _ _ hiNP hiid
    refine wp_seq ?_
    refine Q2E hstep n1b hc5 (Q5R n1a (by
     rw [Q8e rs4 hsl4 hμ4]
     refine Q85 hit4 hmap4 (by simp) ?_
     simp
     omega)) (m := m4) (μ := μ4) (by rw [hS5]; exact p4.rh) ?_ fun a5 w5 m5 μ5 rs5 p5 => ?_
    ·rw [hS5, n1c]
     exact Q3b (dst := some dN) (Mem.le_refl _) (LMap.le_refl _) rs4 (tup1 false)
    rw [hS5] at p5
    have hmv := Q0j rs5 p.more
    rw [hmore5] at hmv
    refine wp_seq (wp_cond_false hmv.isBool (wp_exit ?_))
    simp only [Exit.then, Exit.inBlock, if_true]
    have hp5 := Q5T pn.rh hi1 hlm hmp (by omega) (p4.trans p5.toW)
    exact hQ _ _ _ _ rs5 (pn.trans (hp5.2.weaken hnpNP))
 ·cases hk
end Go.Am
namespace Go.Am
open Go
def Qbt (p : Rng) : Bool := match p.ops[p.ops.size - 1]? with | some o => (match o.op with | .range _ _ => true | _ => false) | none => false
def Q9X (c : Code) : Option Rng := match Qb2 c with | some p => if Qbt p then some p else none | none => none
theorem QaL {c : Code} {p : Rng} (h : Q9X c = some p) : c = p.code := by
 unfold Q9X at h
 split at h
 ·rename_i q hq
  split at h
  ·cases h; exact Qbl hq
  ·cases h
 ·cases h
def annF (C : Ctx) (fuel : Nat) : Nat → Code → Ann
 | 0, _ => .nil
 | d + 1, c => match Q9X c with
  | some p => .node [] (some (Q9F C p (annF C fuel d p.body))) .nil .nil
  | none => match c with
   | .seq a b => .node [] none (annF C fuel d a) (annF C fuel d b)
   | .cond _ a b => .node [] none (annF C fuel d a) (annF C fuel d b)
   | .block _ a => .node [] none (annF C fuel d a) .nil
   | .loop a => .node [] (some (Q68 C a (annF C fuel d a) fuel)) .nil .nil
   | _ => .nil
theorem Q7C {np : Nat} {P : Program} {c : Code} {s : Q2z} (h : StOK np P c s) : Q0 np P c (.node [] (some s) .nil .nil) := by cases c <;> exact ⟨rfl, h⟩
theorem Q84 {np : Nat} {P : Program} {c : Code} : Q0 np P c .nil := by cases c <;> trivial
theorem Q2r {C : Ctx} (hΓ : ∀ f, Qh C.P f (C.Γ f)) (hmix : C.P.follows .mixedOrders = true) (fuel : Nat) : ∀ (d : Nat) (c : Code) (np : Nat), Q0 np C.P c (annF C fuel d c)
 | 0, c, np => Q84
 | d + 1, c, np => by
  simp only [annF]
  split
  ·rename_i p hp
   rw [QaL hp]
   exact Q7C (QbX hΓ hmix fun np' => Q2r hΓ hmix fuel d p.body np')
  ·split
   ·exact ⟨rfl, Q2r hΓ hmix fuel d _ np, Q2r hΓ hmix fuel d _ np⟩
   ·exact ⟨rfl, Q2r hΓ hmix fuel d _ np, Q2r hΓ hmix fuel d _ np⟩
   ·exact ⟨rfl, Q2r hΓ hmix fuel d _ np⟩
   ·exact Q7C (Qbp hΓ hmix (Q2r hΓ hmix fuel d _ np) fuel)
   ·exact Q84
def runH (P : Program) (told : List (Nat × Qp)) (fns : List (Nat × Func)) (rds : List Nat) (fuel deep : Nat) : Nat → Nat → Qp
 | 0, f => gam told f
 | n + 1, f => match Q94 fns f with
  | some fn => (match fn.body with
   | some c => cond (inB f rds) (Q8c ⟨P, runH P told fns rds fuel deep n⟩ fn c (annF ⟨P, runH P told fns rds fuel deep n⟩ fuel deep c)) (Q8v ⟨P, runH P told fns rds fuel deep n⟩ fn c (annF ⟨P, runH P told fns rds fuel deep n⟩ fuel deep c))
   | none => gam told f)
  | none => gam told f
theorem Q4B {P : Program} {told : List (Nat × Qp)} {fns : List (Nat × Func)} {rds : List Nat} {fuel deep : Nat} (ht : ∀ f, Qh P f (gam told f)) (hmix : P.follows .mixedOrders = true) (hfns : Q4P P fns) : ∀ n f, Qh P f (runH P told fns rds fuel deep n f)
 | 0, f => ht f
 | n + 1, f => by
  simp only [runH]
  split
  ·rename_i fn hf
   obtain ⟨h1, h2⟩ := hfns f fn hf
   split
   ·rename_i c hc
    cases inB f rds with
    | true => exact Qbg (C := ⟨P, runH P told fns rds fuel deep n⟩) (Q4B ht hmix hfns n) hmix h1 hc h2 (fun np => Q2r (C := ⟨P, runH P told fns rds fuel deep n⟩) (Q4B ht hmix hfns n) hmix fuel deep c np)
    | false => exact QaS (C := ⟨P, runH P told fns rds fuel deep n⟩) (Q4B ht hmix hfns n) hmix h1 hc h2 (fun np => Q2r (C := ⟨P, runH P told fns rds fuel deep n⟩) (Q4B ht hmix hfns n) hmix fuel deep c np)
   ·exact ht f
  ·exact ht f
theorem QaC {P : Program} {told : List (Nat × Qp)} {fns : List (Nat × Func)} {rds : List Nat} {fuel deep n : Nat} (ht : ∀ f, Qh P f (gam told f)) (hmix : P.follows .mixedOrders = true) (hfns : Q4P P fns) {f : Nat} {fn : Func} {c : Code} {tout : List Ty} {y : dens tout}
  (hf : P.funcs[f]? = some fn) (hb : fn.body = some c) (hn : (fn.name == "runtime.NumGoroutine") = false)
  (hr : ∀ {ρ : Type} (K : dens tout → Option ρ), evC ⟨P, runH P told fns rds fuel deep n⟩ c (annF ⟨P, runH P told fns rds fuel deep n⟩ fuel deep c) (Q3e fn.ntmps []) (finK P fn.results.toList tout K) = K y) : Qh P f (Qt [] tout fun _ => some y) :=
 Qv (C := ⟨P, runH P told fns rds fuel deep n⟩) (Q4B ht hmix hfns n) hmix (tin := []) (tout := tout) (fun _ K => K y) hf hb hn (Q2r (C := ⟨P, runH P told fns rds fuel deep n⟩) (Q4B ht hmix hfns n) hmix fuel deep c 0) (fun _ K => hr K)
end Go.Am
