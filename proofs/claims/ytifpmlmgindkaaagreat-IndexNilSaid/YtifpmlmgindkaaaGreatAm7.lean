/- A part of a proof: a machine of abstract values that tells what functions of the program compute, and the plain facts on them. -/
import Derived.Test.YtifpmlmgindkaaaGreatAm6
set_option linter.unusedVariables false
set_option linter.unusedSimpArgs false
set_option linter.unnecessarySimpa false
set_option linter.unusedSectionVars false
namespace Go.Am
open Go
def QaD (s1 : Q3d) (gs : List Q1y) (s2 : Q3d) : Q3d :=
 ⟨fun st K => s1.f st fun e st' => match e with
  | .normal => (match Q2e gs st' with | some s' => s2.f s' K | none => none)
  | e => K e st'⟩
theorem QcV {np : Nat} {C : Ctx} (hΓ : ∀ f, Qm C.P f (C.Γ f)) (hmix : C.P.follows .mixedOrders = true) {c : Code} {ann : Ann} {T : StT} {gs : List Q1y} {os : List Out}
  {r : {ρ : Type} → T.den → (T.den → Option ρ) → (outDen os → Option ρ) → Option ρ} {s1 : Q3d} {g1 : List Q1y} (h1 : StOK np C.P c s1) (hg1 : okG np g1 = true)
  (hA : Q1 np C.P c ann) (hT : T.ok = true) (hg : okG np gs = true) (ho : os.all (Out.ok np) = true) (hr : Q1b C c ann T gs os r) (k : Nat) :
  StOK np C.P (.loop c) (QaD s1 g1 (QO T os (Q1c r k))) := by
 intro ρ st K r0 h
 simp only [QaD] at h
 obtain ⟨e0, st1, hk, hgo⟩ := h1 _ _ _ h
 have out0 : e0 ≠ .normal → K e0 st1 = some r0 → ∃ e st', K e st' = some r0 ∧ Goes np C.P (.loop c) st e st' := by
  intro hne hk
  refine ⟨e0, st1, hk, fun m μ w a Q rh rs hQ => wp_loop_once (hgo m μ w a _ rh rs fun a' w' m' μ' rs' p' => ?_)⟩
  have := hQ a' w' m' μ' rs' p'
  cases e0 <;> first | exact absurd rfl hne | exact this
 cases e0 with
 | normal =>
  simp only at hk
  split at hk
  case h_2 => cases hk
  rename_i st2 hst2
  have hgh := Q2V hg1 hst2
  simp only [QO] at hk
  split at hk
  case h_2 => cases hk
  rename_i x hx
  rw [Option.bind_eq_some_iff] at hk
  obtain ⟨y, hy, h⟩ := hk
  obtain ⟨e, s, hs⟩ := Q2I y
  rw [hs] at h
  refine ⟨e, s, h, ?_⟩
  have hT' := hT
  simp only [StT.ok, Bool.and_eq_true] at hT'
  have hm := Q6Y (np := np) hT'.1 hT'.2 hx
  intro m μ w a Q rh rs hQ
  refine Q3Q (fun j a' w' => (j = k + 1 ∧ a' = a ∧ w' = w) ∨ ∃ x' m' μ', Q1c r j x' = some y ∧ RS m' μ' (T.inst x').sl a' ∧ Q1G np m μ st.H w m' μ' (T.inst x').H w') ?_ ?_ (n := k + 1) (.inl ⟨rfl, rfl, rfl⟩)
  ·rintro a w (⟨h, _⟩ | ⟨_, _, _, h, _⟩) <;> cases h
  ·rintro j a1 w1 (⟨hj, rfl, rfl⟩ | ⟨x1, m1, μ1, h1, rs1, p1⟩)
   ·obtain rfl : j = k := by omega
    refine hgo m μ w1 a1 _ rh rs fun a2 w2 m2 μ2 rs2 p2 => ?_
    obtain ⟨m3, μ3, rs3, p3⟩ := (hgh.trans hm) m2 μ2 w2 a2 p2.rh rs2
    exact .inr ⟨x, m3, μ3, hy, rs3, p2.trans p3⟩
   ·simp only [Q1c] at h1
    have h1' : evC C c ann (T.inst x1) (Q7e T gs os (Q1c r j) some) = some y := (hr x1 (Q1c r j) some).trans h1
    obtain ⟨e1, s1, h2, h3⟩ := Q2k hΓ hmix c ann _ _ _ hA h1'
    refine h3 m1 μ1 w1 a1 _ p1.rh rs1 fun a2 w2 m2 μ2 rs2 p2 => ?_
    have out : e1 ≠ .normal → Q3w os e1 s1 some = some y → Exit.then (fun a' w' => (j = k + 1 ∧ a' = a ∧ w' = w) ∨ ∃ x' m' μ', Q1c r j x' = some y ∧ RS m' μ' (T.inst x').sl a' ∧ Q1G np m μ st.H w m' μ' (T.inst x').H w') Q e1 a2 w2 := by
     intro hne h4
     obtain ⟨y', s', h5, h6, h7⟩ := Q4H ho h4
     cases h5
     have h8 := (h7 (ρ' := Exit × St) fun e s => some (e, s)).symm.trans (hs fun e s => some (e, s))
     cases h8
     obtain ⟨m3, μ3, rs3, p3⟩ := h6 m2 μ2 w2 a2 p2.rh rs2
     have := hQ a2 w2 m3 μ3 rs3 ((p1.trans p2).trans p3)
     cases e <;> first | exact absurd rfl hne | exact this
    cases e1 with
    | normal =>
     simp only [Q7e] at h2
     obtain ⟨x2, h4, h5⟩ := Q82 (o := ⟨.normal, gs, T⟩) (by show (okG np gs && T.ok) = true; rw [hg, hT]; rfl) h2
     obtain ⟨m3, μ3, rs3, p3⟩ := h5 m2 μ2 w2 a2 p2.rh rs2
     exact .inr ⟨x2, m3, μ3, h4, rs3, (p1.trans p2).trans p3⟩
    | _ => exact out (by simp) h2
 | _ => exact out0 (by simp) hk
end Go.Am
namespace Go.Am
open Go
def Qao (T : Q1g) (os : List Out) (J : T.T.den → Option (outDen os)) : Qr :=
  ⟨fun as0 H k =>
    match Q2i H T.args as0 with
    | some (as, []) =>
      let kp := Q45 T.nf H as
      cond (kp.2.isEmpty && Nat.beq T.nf 1 && Q2P H kp.1 && Q6J H as kp.1)
        (match kp.1 with
        | [id] =>
          (match T.T.mat ⟨as.map fun a => (renA [id] a).getD .undef, [(H.getD id none).bind (renA [id])]⟩ with
           | some x => (J x).bind fun y => Q23 os y fun _ s =>
             (match s.H with
             | [some c] => cond (Q3e s.sl && (idsL s.sl).isEmpty && (idsA c).isEmpty) (k (resL s.sl) (H.set id (some c)) (.wr id)) none
             | _ => none)
           | none => none)
        | _ => none) none
    | _ => none⟩
theorem Qcm {P : Program} {f : Nat} {T : Q1g} {os : List Out} {J : T.T.den → Option (outDen os)} (hs : Qm P f (Q1j T os J)) : Qm P f (Qao T os J) := by
 intro ρ args H k r h
 simp only [Qao] at h
 split at h
 case h_2 => cases h
 rename_i as hargs
 generalize hkp : Q45 T.nf H as = kp at h
 obtain ⟨keep, ls⟩ := kp
 dsimp only at h
 rw [Bool.cond_eq_ite] at h
 split at h
 case isFalse => cases h
 rename_i hchk
 simp only [Bool.and_eq_true, List.isEmpty_iff] at hchk
 obtain ⟨⟨⟨hls, hnf1⟩, hlive⟩, hclosed⟩ := hchk
 subst hls
 have hnf : T.nf = 1 := Nat.eq_of_beq_eq_true hnf1
 split at h
 case h_2 => cases h
 rename_i id
 split at h
 case h_2 => cases h
 rename_i x hx
 rw [Option.bind_eq_some_iff] at h
 obtain ⟨y, hy, h⟩ := h
 obtain ⟨e0, s, hs1, _⟩ := Q2v (nf := 0) (os := os) (List.all_eq_true.2 fun o _ => by simp [Nat.ble]) y
 rw [hs1] at h
 split at h
 case h_2 => cases h
 rename_i c hc
 rw [Bool.cond_eq_ite] at h
 split at h
 case isFalse => cases h
 rename_i hro
 simp only [Bool.and_eq_true, List.isEmpty_iff] at hro
 obtain ⟨a0, ha0⟩ := Q34 hlive id (by simp)
 refine ⟨_, _, _, h, (List.getElem?_eq_some_iff.1 ha0).1, c, rfl, fun H2 hag => ?_⟩
 have hag' : ∀ i, i ∈ [id] → H2[i]? = H[i]? := fun i hi => by
  simp only [List.mem_singleton] at hi; subst hi; exact hag
 obtain ⟨v, H', e, hk, hstp⟩ := hs args H2 (fun v H' _ => some (v, H')) (resL s.sl, H2.set id (some c)) (by
  have hk2 : Q45 T.nf (Q0N [] H2) as = ([id], []) := by
   rw [show Q0N [] H2 = H2 from rfl, Q6z hag' hclosed, hkp]
  simp only [Q1j]
  rw [Q3o hargs]
  simp only [hk2, List.append_nil]
  rw [show Q0N [] H2 = H2 from rfl, Q3n hag', hlive, hnf]
  have hB : ([id].map fun i => (H2.getD i none).bind (renA [id])) = [(H.getD id none).bind (renA [id])] := by
   simp only [List.map_cons, List.map_nil, List.getD_eq_getElem?_getD, hag]
  rw [hB, hx]
  rw [show (Nat.beq ([id] : List Nat).length 1 && Q2H [id] && true) = true from rfl]
  simp only [cond_true, hy, Option.bind_some, hs1, hro.1.1, List.isEmpty_nil, Bool.true_or, Bool.and_self]
  rw [Q3U hro.1.2, hc]
  have e1 : renF (Q1D [id] 1 H2.length) c = c := Q88 hro.2
  simp only [renH, e1, List.drop_one, List.tail_cons, Q1R, Q0N, List.append_nil])
 cases hk
 exact hstp.ok
end Go.Am
namespace Go.Am
open Go
def Qbh (gs : List Q1y) (T : StT) (a b : Q3d) : Q3d :=
 ⟨fun st K => match Q2e gs st with
  | some st' => cond (T.mat st').isSome (a.f st' K) (b.f st K)
  | none => b.f st K⟩
def Qc7 : Q3d := ⟨fun _ _ => none⟩
theorem Qd6 {np : Nat} {P : Program} {c : Code} : StOK np P c Qc7 := by
 intro ρ st K r h; cases h
theorem QcW {np : Nat} {P : Program} {c : Code} {gs : List Q1y} {T : StT} {a b : Q3d} (hg : okG np gs = true) (ha : StOK np P c a) (hb : StOK np P c b) : StOK np P c (Qbh gs T a b) := by
 intro ρ st K r h
 simp only [Qbh] at h
 split at h
 ·rename_i st' hst
  rw [Bool.cond_eq_ite] at h
  split at h
  ·obtain ⟨e, s, h1, h2⟩ := ha _ _ _ h
   exact ⟨e, s, h1, Goes.ghost (Q2V hg hst) h2⟩
  ·exact hb _ _ _ h
 ·exact hb _ _ _ h
end Go.Am
namespace Go.Am
open Go
def finI {ρ : Type} (P : Program) (rs : List ResultVar) (K : List AVal → Heap → Option ρ) (e : Exit) (st : St) : Option ρ :=
 match e with
 | .ret => (match Q24 P st rs with | some vs => K vs st.H | none => none)
 | .normal => (match Q24 P st rs with | some vs => K vs st.H | none => none)
 | _ => none
def Qae (C : Ctx) (fn : Func) (c : Code) (ann : Ann) : Qr :=
 ⟨fun as H k =>
  let kp := Q3u H as
  let keep := kp.1 ++ kp.2
  cond (Q2H keep && Q2P H keep)
   (evC C c ann ⟨(as.map fun a => (renA keep a).getD .undef) ++ List.replicate (fn.ntmps - as.length) .undef, keep.map fun i => (H.getD i none).bind (renA keep)⟩
    (finI C.P fn.results.toList fun vs Hc =>
     cond (Nat.ble keep.length Hc.length && Q3e vs)
      (k (resL (vs.map (renF (Q1D keep keep.length H.length)))) (Q1R keep (renH (Q1D keep keep.length H.length) Hc) H ++ renH (Q1D keep keep.length H.length) (Hc.drop keep.length)) (.touch H.length keep)) none)) none⟩
theorem Q98 {C : Ctx} {f : Nat} {fn : Func} {c : Code} (hf : C.P.funcs[f]? = some fn) (hb : fn.body = some c) (hn : (fn.name == "runtime.NumGoroutine") = false)
  {args vs : List AVal} {H : Heap} {keep : List Nat} {e : Exit} {st' : St} (hnd : Q2H keep = true) (hlive : Q2P H keep = true)
  (h3 : Goes keep.length C.P c ⟨(args.map fun a => (renA keep a).getD .undef) ++ List.replicate (fn.ntmps - args.length) .undef, keep.map fun i => (H.getD i none).bind (renA keep)⟩ e st')
  (hvs : Q24 C.P st' fn.results.toList = some vs) (he : e = .ret ∨ e = .normal) (hnt : Q3e vs = true) (hsn : keep.length ≤ st'.H.length) :
  Q3Z C.P f args H (resL (vs.map (renF (Q1D keep keep.length H.length)))) (Q1R keep (renH (Q1D keep keep.length H.length) st'.H) H ++ renH (Q1D keep keep.length H.length) (st'.H.drop keep.length)) := by
 intro m μ w us0 rh hv
 refine ⟨_, _, Q25 hf hb hn _ w, .inl ⟨f, _, rfl, ?_⟩⟩
 obtain ⟨hrs1, hpw1⟩ := Q3Y (np := 0) (st := ⟨args, H⟩) (keep := keep) (Q3O hnd) rfl rh (Q4i hv)
 have hv1 := Q4r hrs1
 refine calls_of_wp hf hb ?_
 have hstart := Q7Q fn.ntmps hv1
 rw [List.length_map] at hstart
 refine h3 m (renM keep μ) w _ _ hpw1.rh hstart fun a' w' m' μ' rs' p => ?_
 obtain ⟨us, h4, h5⟩ := Q5e p.rh rs' hvs
 have P : Q1G keep.length m (renM (keep ++ []) μ) ((keep ++ []).map fun i => ((Q0N [] H).getD i none).bind (renA (keep ++ []))) w m' μ' st'.H w' := by
  rw [List.append_nil]; exact p
 have hlive' : Q2P (Q0N [] H) (keep ++ []) = true := by rw [List.append_nil]; exact hlive
 have hg := Q73 rh rfl hlive' P
 have hP := Q84 rh rfl hsn hlive' P p.ml p.rh.mem (fun _ _ _ _ h => h) (fun b c hc => by
  rcases p.mgrow b c hc with g | g | g
  ·exact .inl g
  ·refine .inr (.inl ?_)
   rw [List.append_nil]; exact g
  ·exact .inr (.inr g)) (fun _ h => h) (fun _ _ _ _ _ _ h => h)
 have fin : a'.defers = [] ∧ ∃ v, (results fn a'.tmps).run C.P w' = .ok v w' ∧ Came m μ H w (resL (vs.map (renF (Q1D keep keep.length H.length)))) (Q1R keep (renH (Q1D keep keep.length H.length) st'.H) H ++ renH (Q1D keep keep.length H.length) (st'.H.drop keep.length)) (.returned v) w' := by
  refine ⟨rs'.defers, _, Q48 h4, _, m', _, rfl, Q96 ?_ (Q60 (fun a ha v hv => Q80 hg hv) h5), hP⟩
  intro a ha q e
  rw [List.mem_map] at ha
  obtain ⟨b, hb, rfl⟩ := ha
  obtain ⟨q', hq⟩ := (Q36 b).2.1 ⟨q, e⟩
  exact Q4n hnt b hb q' hq
 rcases he with rfl | rfl <;> exact fin
theorem Qay {ρ : Type} {P : Program} {rs : List ResultVar} {K : List AVal → Heap → Option ρ} {e : Exit} {st : St} {r : ρ} (h : finI P rs K e st = some r) :
  ∃ vs, Q24 P st rs = some vs ∧ (e = .ret ∨ e = .normal) ∧ K vs st.H = some r := by
 have go : (match Q24 P st rs with | some vs => K vs st.H | none => none) = some r → ∃ vs, Q24 P st rs = some vs ∧ K vs st.H = some r := by
  intro h
  split at h
  ·rename_i vs hvs; exact ⟨vs, hvs, h⟩
  ·cases h
 cases e with
 | ret => obtain ⟨vs, g1, g2⟩ := go h; exact ⟨vs, g1, .inl rfl, g2⟩
 | normal => obtain ⟨vs, g1, g2⟩ := go h; exact ⟨vs, g1, .inr rfl, g2⟩
 | _ => cases h
theorem QcB {C : Ctx} (hΓ : ∀ f, Qm C.P f (C.Γ f)) (hmix : C.P.follows .mixedOrders = true) {f : Nat} {fn : Func} {c : Code} {ann : Ann}
  (hf : C.P.funcs[f]? = some fn) (hb : fn.body = some c) (hn : (fn.name == "runtime.NumGoroutine") = false) (hA : ∀ np, Q1 np C.P c ann) : Qm C.P f (Qae C fn c ann) := by
 intro ρ args H k r h
 simp only [Qae] at h
 generalize hkeep : (Q3u H args).1 ++ (Q3u H args).2 = keep at h
 rw [Bool.cond_eq_ite] at h
 split at h
 case isFalse => cases h
 rename_i hchk
 simp only [Bool.and_eq_true] at hchk
 obtain ⟨hnd, hlive⟩ := hchk
 obtain ⟨e, st', h2, h3⟩ := Q2k hΓ hmix c ann _ _ _ (hA keep.length) h
 obtain ⟨vs, hvs, he, hk⟩ := Qay h2
 rw [Bool.cond_eq_ite] at hk
 split at hk
 case isFalse => cases hk
 rename_i hc
 simp only [Bool.and_eq_true] at hc
 refine ⟨_, _, _, hk, ?_, Q98 hf hb hn hnd hlive h3 hvs he hc.2 (Nat.le_of_ble_eq_true hc.1)⟩
 intro i hi hni
 rw [List.getElem?_append_left (by rw [Q1Y]; exact hi), Q42 hni]
theorem Q9z {s t : ByteArray} (h : Q2y s t = true) : s = t := by
 unfold Q2y at h
 rw [beq_iff_eq, ByteArray.toList_eq, ByteArray.toList_eq] at h
 cases s; cases t
 congr
 exact Array.toList_inj.1 h
def eqL {α : Type} (f : α → α → Bool) : List α → List α → Bool
 | [], [] => true
 | a :: l, b :: r => f a b && eqL f l r
 | _, _ => false
theorem Q2L {α : Type} {f : α → α → Bool} (hf : ∀ a b, f a b = true → a = b) : ∀ {l r : List α}, eqL f l r = true → l = r
 | [], [], _ => rfl
 | a :: l, b :: r, h => by
  simp only [eqL, Bool.and_eq_true] at h
  rw [hf a b h.1, Q2L hf h.2]
 | [], _ :: _, h | _ :: _, [], h => by cases h
def eqT : (t : Ty) → t.den → t.den → Bool
 | .int _, x, y => x == y
 | .bool, x, y => x == y
 | .str, x, y => Q2y x y
 | .unit, _, _ => true
 | .pair a b, x, y => eqT a x.1 y.1 && eqT b x.2 y.2
 | .arr _ t, x, y => eqL (eqT t) x y
 | .sl t, x, y => eqL (eqT t) x y
theorem Q3D : ∀ {t : Ty} {x y : t.den}, eqT t x y = true → x = y := by
 intro t
 induction t with
 | int k => intro x y h; exact (beq_iff_eq (α := Int)).1 h
 | bool => intro x y h; exact (beq_iff_eq (α := Bool)).1 h
 | str => intro x y h; exact Q9z h
 | unit => intro x y _; rfl
 | pair a b ha hb =>
  intro x y h
  simp only [eqT, Bool.and_eq_true] at h
  exact Prod.ext (ha h.1) (hb h.2)
 | arr n t ih => intro x y h; exact Q2L (fun _ _ => ih) h
 | sl t ih => intro x y h; exact Q2L (fun _ _ => ih) h
def eqN (a b : List Nat) : Bool := eqL Nat.beq a b
theorem QbE {a b : List Nat} (h : eqN a b = true) : a = b := Q2L (fun _ _ => Nat.eq_of_beq_eq_true) h
def eqAV : AVal → AVal → Bool
 | .undef, .undef => true
 | .int k n, .int k' n' => decide (k = k') && n == n'
 | .bool b, .bool b' => b == b'
 | .str s, .str s' => Q2y s s'
 | .nilp, .nilp => true
 | .nils, .nils => true
 | .nilm, .nilm => true
 | .unit, .unit => true
 | .ptr i p, .ptr i' p' => Nat.beq i i' && eqN p p'
 | .vsl i, .vsl i' => Nat.beq i i'
 | .vbs i, .vbs i' => Nat.beq i i'
 | .mp i, .mp i' => Nat.beq i i'
 | .pair a b, .pair a' b' => eqAV a a' && eqAV b b'
 | .vec t xs, .vec t' xs' => if h : t = t' then eqL (eqT t') (h ▸ xs) xs' else false
 | .arr n t xs, .arr n' t' xs' => Nat.beq n n' && if h : t = t' then eqL (eqT t') (h ▸ xs) xs' else false
 | .ros t xs, .ros t' xs' => if h : t = t' then eqL (eqT t') (h ▸ xs) xs' else false
 | .mpc a b xs, .mpc a' b' xs' => if h : a = a' then (if g : b = b' then eqL (fun x y => eqT a' x.1 y.1 && eqT b' x.2 y.2) (h ▸ g ▸ xs) xs' else false) else false
 | _, _ => false
theorem Qb3 : ∀ {a b : AVal}, eqAV a b = true → a = b := by
 intro a
 induction a with
 | pair u v hu hv =>
  intro b h
  cases b <;> simp only [eqAV, Bool.and_eq_true] at h <;> try (cases h; done)
  rw [hu h.1, hv h.2]
 | undef => intro b h; cases b <;> first | rfl | cases h
 | nilp => intro b h; cases b <;> first | rfl | cases h
 | nils => intro b h; cases b <;> first | rfl | cases h
 | nilm => intro b h; cases b <;> first | rfl | cases h
 | unit => intro b h; cases b <;> first | rfl | cases h
 | int k n =>
  intro b h
  cases b <;> simp only [eqAV, Bool.and_eq_true, decide_eq_true_eq, beq_iff_eq] at h <;> try (cases h; done)
  rw [h.1, h.2]
 | bool x =>
  intro b h
  cases b <;> simp only [eqAV, beq_iff_eq] at h <;> try (cases h; done)
  rw [h]
 | str x =>
  intro b h
  cases b <;> simp only [eqAV] at h <;> try (cases h; done)
  rw [Q9z h]
 | ptr i p =>
  intro b h
  cases b <;> simp only [eqAV, Bool.and_eq_true] at h <;> try (cases h; done)
  rw [Nat.eq_of_beq_eq_true h.1, QbE h.2]
 | vsl i =>
  intro b h
  cases b <;> simp only [eqAV] at h <;> try (cases h; done)
  rw [Nat.eq_of_beq_eq_true h]
 | vbs i =>
  intro b h
  cases b <;> simp only [eqAV] at h <;> try (cases h; done)
  rw [Nat.eq_of_beq_eq_true h]
 | mp i =>
  intro b h
  cases b <;> simp only [eqAV] at h <;> try (cases h; done)
  rw [Nat.eq_of_beq_eq_true h]
 | vec t xs =>
  intro b h
  cases b <;> simp only [eqAV] at h <;> try (cases h; done)
  split at h
  ·rename_i xs' e; subst e; have h : xs = xs' := Q2L (fun _ _ => Q3D) h; rw [h]
  ·cases h
 | ros t xs =>
  intro b h
  cases b <;> simp only [eqAV] at h <;> try (cases h; done)
  split at h
  ·rename_i xs' e; subst e; have h : xs = xs' := Q2L (fun _ _ => Q3D) h; rw [h]
  ·cases h
 | arr n t xs =>
  intro b h
  cases b <;> simp only [eqAV, Bool.and_eq_true] at h <;> try (cases h; done)
  obtain ⟨h1, h⟩ := h
  split at h
  ·rename_i xs' e; subst e; have h : xs = xs' := Q2L (fun _ _ => Q3D) h; rw [Nat.eq_of_beq_eq_true h1, h]
  ·cases h
 | mpc u v xs =>
  intro b h
  cases b <;> simp only [eqAV] at h <;> try (cases h; done)
  rename_i u' v' xs'
  split at h
  ·rename_i e
   split at h
   ·rename_i e'
    subst e; subst e'
    have h : xs = xs' := Q2L (f := fun (x y : Ty.den u × Ty.den v) => eqT u x.1 y.1 && eqT v x.2 y.2) (fun a b hab => by
     rw [Bool.and_eq_true] at hab
     exact Prod.ext (Q3D hab.1) (Q3D hab.2)) h
    rw [h]
   ·cases h
  ·cases h
 | _ => intro b h; cases b <;> cases h
def eqHp : Heap → Heap → Bool
 | [], [] => true
 | some a :: l, some b :: r => eqAV a b && eqHp l r
 | _, _ => false
theorem Q85 : ∀ {l r : Heap}, eqHp l r = true → l = r
 | [], [], _ => rfl
 | some a :: l, some b :: r, h => by
  simp only [eqHp, Bool.and_eq_true] at h
  rw [Qb3 h.1, Q85 h.2]
 | [], some _ :: _, h | [], none :: _, h | some _ :: _, [], h | none :: _, [], h | none :: _, none :: _, h | none :: _, some _ :: _, h | some _ :: _, none :: _, h => by cases h
def Q9I (C : Ctx) (fn : Func) (c : Code) (ann : Ann) : Qr :=
 ⟨fun as H k =>
  let kp := Q3u H as
  let keep := kp.1 ++ kp.2
  let H0 : Heap := keep.map fun i => (H.getD i none).bind (renA keep)
  cond (Q2H keep && Q2P H keep)
   (evC C c ann ⟨(as.map fun a => (renA keep a).getD .undef) ++ List.replicate (fn.ntmps - as.length) .undef, H0⟩
    (finI C.P fn.results.toList fun vs Hc =>
     cond (eqHp Hc H0 && Q3e vs && (idsL vs).isEmpty) (k (resL vs) H (.read keep)) none)) none⟩
theorem Qcw {C : Ctx} (hΓ : ∀ f, Qm C.P f (C.Γ f)) (hmix : C.P.follows .mixedOrders = true) {f : Nat} {fn : Func} {c : Code} {ann : Ann}
  (hf : C.P.funcs[f]? = some fn) (hb : fn.body = some c) (hn : (fn.name == "runtime.NumGoroutine") = false) (hA : ∀ np, Q1 np C.P c ann) : Qm C.P f (Q9I C fn c ann) := by
 intro ρ args H k r h
 simp only [Q9I] at h
 generalize hkeep : (Q3u H args).1 ++ (Q3u H args).2 = keep at h
 rw [Bool.cond_eq_ite] at h
 split at h
 case isFalse => cases h
 rename_i hchk
 simp only [Bool.and_eq_true] at hchk
 obtain ⟨hnd, hlive⟩ := hchk
 obtain ⟨e, st', h2, h3⟩ := Q2k hΓ hmix c ann _ _ _ (hA keep.length) h
 obtain ⟨vs, hvs, he, hk⟩ := Qay h2
 rw [Bool.cond_eq_ite] at hk
 split at hk
 case isFalse => cases hk
 rename_i hc
 simp only [Bool.and_eq_true, List.isEmpty_iff] at hc
 obtain ⟨⟨hH, hnt⟩, hids⟩ := hc
 have hH := Q85 hH
 refine ⟨_, _, _, hk, rfl, fun H2 hag => ?_⟩
 have hB : (keep.map fun i => (H2.getD i none).bind (renA keep)) = keep.map fun i => (H.getD i none).bind (renA keep) := by
  apply List.map_congr_left
  intro i hi
  rw [List.getD_eq_getElem?_getD, List.getD_eq_getElem?_getD, hag i hi]
 have hl2 : Q2P H2 keep = true := by rw [Q3n hag]; exact hlive
 have := Q98 (args := args) hf hb hn hnd hl2 (by rw [hB]; exact h3) hvs he hnt (by rw [hH, List.length_map]; exact Nat.le_refl _)
 rw [Q3U hids] at this
 have e2 : st'.H.drop keep.length = [] := by
  rw [List.drop_eq_nil_iff, hH, List.length_map]; exact Nat.le_refl _
 have e3 : Q1R keep (renH (Q1D keep keep.length H2.length) st'.H) H2 = H2 := by
  apply Q4f
  intro j i hj
  rw [Q3B, hH, List.getElem?_map, hj]
  have hi : i ∈ keep := List.mem_of_getElem? hj
  obtain ⟨a, ha⟩ := Q34 hlive i hi
  rw [hag i hi, ha]
  have hne : (keep.map fun i => (H.getD i none).bind (renA keep))[j]? ≠ some none := by
   have noNone : ∀ {l r : Heap}, eqHp l r = true → ∀ j : Nat, r[j]? ≠ some none := by
    intro l
    induction l with
    | nil => intro r h j; cases r with
     | nil => simp
     | cons a r => cases a <;> cases h
    | cons a l ih =>
     intro r h j
     cases r with
     | nil => simp
     | cons b r =>
      cases a <;> cases b <;> simp only [eqHp, Bool.and_eq_true] at h <;> try (cases h; done)
      cases j with
      | zero => simp
      | succ j => simpa using ih h.2 j
   exact noNone ‹_› j
  rw [List.getElem?_map, hj] at hne
  simp only [Option.map_some, List.getD_eq_getElem?_getD, ha, Option.getD_some, Option.bind_some] at hne ⊢
  cases hr : renA keep a with
  | none => rw [hr] at hne; exact absurd rfl hne
  | some a' =>
   have := Q7M (n := H2.length) hr
   simp only [Option.map_some, this]
 rw [e2, e3] at this
 simpa [renH] using this
def Q7r (C : Ctx) (c : Code) (ann : Ann) : Nat → Q3d
 | 0 => Qc7
 | n + 1 => ⟨fun st K => evC C c ann st fun e st' => match e with
  | .normal => (Q7r C c ann n).f st' K
  | e => K e st'⟩
inductive Q8h (np : Nat) (P : Program) (c : Code) : Nat → St → Exit → St → Prop
 | out {j st e s} : e ≠ .normal → Goes np P c st e s → Q8h np P c (j + 1) st e s
 | step {j st s1 e s} : Goes np P c st .normal s1 → Q8h np P c j s1 e s → Q8h np P c (j + 1) st e s
theorem Qa3 {np : Nat} {P : Program} {c : Code} {n : Nat} {st : St} {e : Exit} {s : St} (h : Q8h np P c n st e s) : Goes np P (.loop c) st e s := by
 intro m μ w a Q rh rs hQ
 refine Q3Q (fun j a' w' => ∃ st1 m1 μ1, Q8h np P c j st1 e s ∧ RS m1 μ1 st1.sl a' ∧ Q1G np m μ st.H w m1 μ1 st1.H w') ?_ ?_ (n := n) ⟨st, m, μ, h, rs, (Post.refl rh).toW⟩
 ·rintro a w ⟨_, _, _, h, _⟩; cases h
 ·rintro j a1 w1 ⟨st1, m1, μ1, h1, rs1, p1⟩
  cases h1 with
  | out hne hg =>
   refine hg m1 μ1 w1 a1 _ p1.rh rs1 fun a2 w2 m2 μ2 rs2 p2 => ?_
   have := hQ a2 w2 m2 μ2 rs2 (p1.trans p2)
   cases e <;> first | exact absurd rfl hne | exact this
  | step hg hc =>
   refine hg m1 μ1 w1 a1 _ p1.rh rs1 fun a2 w2 m2 μ2 rs2 p2 => ?_
   exact ⟨_, m2, μ2, hc, rs2, p1.trans p2⟩
theorem Qct {np : Nat} {C : Ctx} (hΓ : ∀ f, Qm C.P f (C.Γ f)) (hmix : C.P.follows .mixedOrders = true) {c : Code} {ann : Ann} (hA : Q1 np C.P c ann) (n : Nat) : StOK np C.P (.loop c) (Q7r C c ann n) := by
 intro ρ st K r h
 have key : ∀ (n : Nat) (st : St), (Q7r C c ann n).f st K = some r → ∃ e s, K e s = some r ∧ Q8h np C.P c n st e s := by
  intro n
  induction n with
  | zero => intro st h; cases h
  | succ n ih =>
   intro st h
   simp only [Q7r] at h
   obtain ⟨e, s, h1, h2⟩ := Q2k hΓ hmix c ann _ _ _ hA h
   cases e with
   | normal =>
    obtain ⟨e', s', h3, h4⟩ := ih s h1
    exact ⟨e', s', h3, .step h2 h4⟩
   | _ => exact ⟨_, _, h1, .out (by simp) h2⟩
 obtain ⟨e, s, h1, h2⟩ := key n st h
 exact ⟨e, s, h1, Qa3 h2⟩
def annR (C : Ctx) (fuel : Nat) : Code → Ann
 | .seq a b => .node [] none (annR C fuel a) (annR C fuel b)
 | .cond _ a b => .node [] none (annR C fuel a) (annR C fuel b)
 | .block _ a => .node [] none (annR C fuel a) .nil
 | .loop a => .node [] (some (Q7r C a (annR C fuel a) fuel)) .nil .nil
 | _ => .nil
theorem Q8F {C : Ctx} (hΓ : ∀ f, Qm C.P f (C.Γ f)) (hmix : C.P.follows .mixedOrders = true) (fuel np : Nat) : ∀ c, Q1 np C.P c (annR C fuel c) := by
 intro c
 induction c with
 | seq a b ha hb => exact ⟨rfl, ha, hb⟩
 | cond v a b ha hb => exact ⟨rfl, ha, hb⟩
 | block i a ha => exact ⟨rfl, ha⟩
 | loop a ha => exact ⟨rfl, Qct hΓ hmix ha fuel⟩
 | _ => trivial
def Qap : List (Nat × Func) → Nat → Option Func
 | [], _ => none
 | (i, fn) :: l, f => cond (Nat.beq f i) (some fn) (Qap l f)
def Q6k (P : Program) (l : List (Nat × Func)) : Prop := ∀ f fn, Qap l f = some fn → P.funcs[f]? = some fn ∧ (fn.name == "runtime.NumGoroutine") = false
theorem Q6k.nil {P : Program} : Q6k P [] := fun _ _ h => by cases h
theorem Q6k.cons {P : Program} {i : Nat} {fn : Func} {l : List (Nat × Func)} (h1 : P.funcs[i]? = some fn) (h2 : (fn.name == "runtime.NumGoroutine") = false) (h3 : Q6k P l) : Q6k P ((i, fn) :: l) := by
 intro f fn' h
 simp only [Qap] at h
 cases hb : Nat.beq f i with
 | true =>
  rw [hb] at h
  have := Nat.eq_of_beq_eq_true hb
  subst this
  cases h
  exact ⟨h1, h2⟩
 | false => rw [hb] at h; exact h3 f fn' h
def runG (P : Program) (told : List (Nat × Qr)) (fns : List (Nat × Func)) (rds : List Nat) (fuel : Nat) : Nat → Nat → Qr
 | 0, f => gam told f
 | n + 1, f => match Qap fns f with
  | some fn => (match fn.body with
   | some c => cond (inB f rds) (Q9I ⟨P, runG P told fns rds fuel n⟩ fn c (annR ⟨P, runG P told fns rds fuel n⟩ fuel c)) (Qae ⟨P, runG P told fns rds fuel n⟩ fn c (annR ⟨P, runG P told fns rds fuel n⟩ fuel c))
   | none => gam told f)
  | none => gam told f
theorem Q4N {P : Program} {told : List (Nat × Qr)} {fns : List (Nat × Func)} {rds : List Nat} {fuel : Nat} (ht : ∀ f, Qm P f (gam told f)) (hmix : P.follows .mixedOrders = true) (hfns : Q6k P fns) : ∀ n f, Qm P f (runG P told fns rds fuel n f)
 | 0, f => ht f
 | n + 1, f => by
  simp only [runG]
  split
  ·rename_i fn hf
   obtain ⟨h1, h2⟩ := hfns f fn hf
   split
   ·rename_i c hc
    cases inB f rds with
    | true => exact Qcw (C := ⟨P, runG P told fns rds fuel n⟩) (Q4N ht hmix hfns n) hmix h1 hc h2 (fun np => Q8F (C := ⟨P, runG P told fns rds fuel n⟩) (Q4N ht hmix hfns n) hmix fuel np c)
    | false =>
    exact QcB (C := ⟨P, runG P told fns rds fuel n⟩) (Q4N ht hmix hfns n) hmix h1 hc h2 (fun np => Q8F (C := ⟨P, runG P told fns rds fuel n⟩) (Q4N ht hmix hfns n) hmix fuel np c)
   ·exact ht f
  ·exact ht f
theorem Qcs {P : Program} {told : List (Nat × Qr)} {fns : List (Nat × Func)} {rds : List Nat} {fuel n : Nat} (ht : ∀ f, Qm P f (gam told f)) (hmix : P.follows .mixedOrders = true) (hfns : Q6k P fns) {f : Nat} {fn : Func} {c : Code} {tout : List Ty} {y : dens tout}
  (hf : P.funcs[f]? = some fn) (hb : fn.body = some c) (hn : (fn.name == "runtime.NumGoroutine") = false)
  (hr : ∀ {ρ : Type} (K : dens tout → Option ρ), evC ⟨P, runG P told fns rds fuel n⟩ c (annR ⟨P, runG P told fns rds fuel n⟩ fuel c) (Q3T fn.ntmps []) (finK P fn.results.toList tout K) = K y) : Qm P f (QX [] tout fun _ => some y) :=
 QD (C := ⟨P, runG P told fns rds fuel n⟩) (Q4N ht hmix hfns n) hmix (tin := []) (tout := tout) (fun _ K => K y) hf hb hn (Q8F (C := ⟨P, runG P told fns rds fuel n⟩) (Q4N ht hmix hfns n) hmix fuel 0 c) (fun _ K => hr K)
end Go.Am
namespace Go.Am
open Go
def eqDs : (ts : List Ty) → dens ts → dens ts → Bool
 | [], _, _ => true
 | t :: ts, x, y => eqT t x.1 y.1 && eqDs ts x.2 y.2
theorem Q8g : ∀ {ts : List Ty} {x y : dens ts}, eqDs ts x y = true → x = y
 | [], _, _, _ => rfl
 | t :: ts, x, y, h => by
  simp only [eqDs, Bool.and_eq_true] at h
  exact Prod.ext (Q3D h.1) (Q8g h.2)
def Q6x (tin tout : List Ty) (x0 : dens tin) (y0 : dens tout) (J : dens tin → Option (dens tout)) (x : dens tin) : Option (dens tout) :=
 bif eqDs tin x x0 then some y0 else J x
theorem Q5r {P : Program} {f : Nat} {tin tout : List Ty} {x0 : dens tin} {y0 : dens tout} {J : dens tin → Option (dens tout)} (h : J x0 = some y0) (hs : Qm P f (QX tin tout J)) :
  Qm P f (QX tin tout (Q6x tin tout x0 y0 J)) := by
 have e : Q6x tin tout x0 y0 J = J := by
  funext x
  unfold Q6x
  cases hb : eqDs tin x x0 with
  | true => rw [Q8g hb, h]; rfl
  | false => rfl
 rw [e]; exact @hs
end Go.Am
