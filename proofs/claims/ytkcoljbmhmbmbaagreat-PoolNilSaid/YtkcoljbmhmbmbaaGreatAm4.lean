/- A part of a proof: a machine of abstract values that tells what functions of the program compute, and the plain facts on them. -/
import Derived.Test.YtkcoljbmhmbmbaaGreatAm3
set_option linter.unusedVariables false
set_option linter.unusedSimpArgs false
set_option linter.unnecessarySimpa false
set_option linter.unusedSectionVars false
namespace Go.Am
open Go
def Q5k (ts : List Tmp) (sl2 sl : List AVal) : Prop := ∀ t, t ∈ ts → sl2.getD t .undef = sl.getD t .undef
def Q1e (m : Mem) (μ : LMap) : List AVal → List Value → Prop
 | [], [] => True
 | a :: as, v :: vs => VRel m μ a v ∧ Q1e m μ as vs
 | _, _ => False
theorem Q1e.append {m : Mem} {μ : LMap} : ∀ {as bs : List AVal} {vs us : List Value}, Q1e m μ as vs → Q1e m μ bs us → Q1e m μ (as ++ bs) (vs ++ us)
 | [], _, [], _, _, h => h
 | _ :: _, _, _ :: _, _, ⟨h1, h2⟩, h => ⟨h1, Q1e.append h2 h⟩
 | [], _, _ :: _, _, h, _ | _ :: _, _, [], _, h, _ => h.elim
theorem Q1e.length {m : Mem} {μ : LMap} : ∀ {as : List AVal} {vs : List Value}, Q1e m μ as vs → vs.length = as.length
 | [], [], _ => rfl
 | _ :: _, _ :: _, ⟨_, h2⟩ => by simp [Q1e.length h2]
 | [], _ :: _, h | _ :: _, [], h => h.elim
theorem Q1e.get {m : Mem} {μ : LMap} : ∀ {as : List AVal} {vs : List Value}, Q1e m μ as vs → ∀ {i : Nat} {x : AVal}, as[i]? = some x → ∃ v, vs[i]? = some v ∧ VRel m μ x v
 | [], [], _, i, x, hx => by simp at hx
 | a :: as, v :: vs, ⟨h1, h2⟩, i, x, hx => by
  cases i with
  | zero => simp only [List.getElem?_cons_zero, Option.some.injEq] at hx; subst hx; exact ⟨v, rfl, h1⟩
  | succ i => simp only [List.getElem?_cons_succ] at hx ⊢; exact Q1e.get h2 hx
 | [], _ :: _, h, _, _, _ | _ :: _, [], h, _, _, _ => h.elim
def Came (m : Mem) (μ : LMap) (H : Heap) (w : World) (v : AVal) (H' : Heap) (e : Ending) (w' : World) : Prop :=
 ∃ u m' μ', e = .returned u ∧ VRel m' μ' v u ∧ Post m μ H w m' μ' H' w'
def Q1B (P : Program) (f : Nat) (args : List AVal) (H : Heap) (v : AVal) (H' : Heap) : Prop :=
 ∀ (m : Mem) (μ : LMap) (w : World) (vs : List Value), RH m μ H w → Q1e m μ args vs →
  ∃ nx w1, (callFunc f vs.toArray).run P w = .ok nx w1 ∧
   ((∃ g as, nx = .enter g as ∧ Calls P g as w1 (Came m μ H w v H')) ∨ (∃ u, nx = .value u ∧ Came m μ H w v H' (.returned u) w1))
def Q7g (P : Program) (f : Nat) (args : List AVal) (H : Heap) (v : AVal) (H' : Heap) : Eff → Prop
 | .pure => H' = H ∧ ∀ H2, Q1B P f args H2 v H2
 | .read ids => H' = H ∧ ∀ H2 : Heap, (∀ i, i ∈ ids → H2[i]? = H[i]?) → Q1B P f args H2 v H2
 | .push _ _ => False
 | .wr id => id < H.length ∧ ∃ c', H' = H.set id (some c') ∧ ∀ H2 : Heap, H2[id]? = H[id]? → Q1B P f args H2 v (H2.set id (some c'))
 | .touch n ts => (∀ i, i < n → i ∉ ts → H'[i]? = H[i]?) ∧ Q1B P f args H v H'
 | .mut => Q1B P f args H v H'
def Qb (P : Program) (f : Nat) (s : Qj) : Prop :=
 ∀ {ρ : Type} (args : List AVal) (H : Heap) (k : AVal → Heap → Eff → Option ρ) (r : ρ), s.f args H k = some r → ∃ v H' e, k v H' e = some r ∧ Q7g P f args H v H' e
def OpDo (P : Program) (o : Oper) (sl : List AVal) (H : Heap) (v : AVal) (H' : Heap) : Prop :=
 ∀ (m : Mem) (μ : LMap) (w : World) (a : Act) (Q : Exit → Act → World → Prop) (K : Act → World → Prop), RH m μ H w → RS m μ sl a →
  (∀ u w' m' μ', VRel m' μ' v u → Post m μ H w m' μ' H' w' → K (a.put o.dst u) w') → o.wp P a w K Q
def OpOK (P : Program) (ops : Array Oper) (i : Nat) (o : Oper) (sl : List AVal) (H : Heap) (v : AVal) (H' : Heap) : Prop :=
 ∀ (m : Mem) (μ : LMap) (w : World) (a : Act) (Q : Exit → Act → World → Prop) (K : Act → World → Prop), RH m μ H w → RS m μ sl a →
  (∀ u w' m' μ', VRel m' μ' v u → Post m μ H w m' μ' H' w' → K (a.put o.dst u) w') → wpOp P ops Q i K a w
def Stp (P : Program) (ops : Array Oper) (i : Nat) (o : Oper) (sl : List AVal) (H : Heap) (v : AVal) (H' : Heap) : Eff → Prop
 | .pure => H' = H ∧ ∀ sl2 H2, Q5k (o.looksAt ops) sl2 sl → OpOK P ops i o sl2 H2 v H2
 | .read ids => H' = H ∧ ∀ sl2 (H2 : Heap), Q5k (o.looksAt ops) sl2 sl → (∀ i, i ∈ ids → H2[i]? = H[i]?) → OpOK P ops i o sl2 H2 v H2
 | .push n ids => n = H.length ∧ ∃ b fr, Qba fr ∧ dryA b = true ∧ v = fr n ∧ H' = H ++ [some b] ∧
   ∀ sl2 (H2 : Heap), Q5k (o.looksAt ops) sl2 sl → (∀ i, i ∈ ids → H2[i]? = H[i]?) → OpOK P ops i o sl2 H2 (fr H2.length) (H2 ++ [some b])
 | .wr id => id < H.length ∧ ∃ c', H' = H.set id (some c') ∧ ∀ sl2 (H2 : Heap), Q5k (o.looksAt ops) sl2 sl → H2[id]? = H[id]? → OpOK P ops i o sl2 H2 v (H2.set id (some c'))
 | .touch n ts => (∀ i, i < n → i ∉ ts → H'[i]? = H[i]?) ∧ ∀ sl2, Q5k (o.looksAt ops) sl2 sl → OpOK P ops i o sl2 H v H'
 | .mut => ∀ sl2, Q5k (o.looksAt ops) sl2 sl → OpOK P ops i o sl2 H v H'
def Qbt (P : Program) (o : Oper) (sl : List AVal) (H : Heap) (v : AVal) (H' : Heap) : Eff → Prop
 | .pure => H' = H ∧ ∀ sl2 H2, (∀ x ∈ o.op.operands, Q0i sl2 x = Q0i sl x) → OpDo P o sl2 H2 v H2
 | .read ids => H' = H ∧ ∀ sl2 (H2 : Heap), (∀ x ∈ o.op.operands, Q0i sl2 x = Q0i sl x) → (∀ i, i ∈ ids → H2[i]? = H[i]?) → OpDo P o sl2 H2 v H2
 | .push n ids => n = H.length ∧ ∃ b fr, Qba fr ∧ dryA b = true ∧ v = fr n ∧ H' = H ++ [some b] ∧
   ∀ sl2 (H2 : Heap), (∀ x ∈ o.op.operands, Q0i sl2 x = Q0i sl x) → (∀ i, i ∈ ids → H2[i]? = H[i]?) → OpDo P o sl2 H2 (fr H2.length) (H2 ++ [some b])
 | .wr id => id < H.length ∧ ∃ c', H' = H.set id (some c') ∧ ∀ sl2 (H2 : Heap), (∀ x ∈ o.op.operands, Q0i sl2 x = Q0i sl x) → H2[id]? = H[id]? → OpDo P o sl2 H2 v (H2.set id (some c'))
 | .touch n ts => (∀ i, i < n → i ∉ ts → H'[i]? = H[i]?) ∧ ∀ sl2, (∀ x ∈ o.op.operands, Q0i sl2 x = Q0i sl x) → OpDo P o sl2 H v H'
 | .mut => ∀ sl2, (∀ x ∈ o.op.operands, Q0i sl2 x = Q0i sl x) → OpDo P o sl2 H v H'
theorem Q38 {P : Program} {o : Oper} {sl : List AVal} {H : Heap} {r : Res} (h : Q5m P sl H o = some r) (hvc : r.vc = true) : OpDo P o sl H r.v r.H := by
 intro m μ w a Q K rh rs hK
 obtain ⟨nx, v, w', μ', h1, h2, h3, h4⟩ := Q9w rh rs h hvc
 unfold Oper.wp
 rw [h1]
 rcases h2 with rfl | ⟨rfl, rfl⟩
 ·exact hK _ _ _ _ h3 h4
 ·exact hK _ _ _ _ h3 h4
theorem QaP {P : Program} {o : Oper} {sl : List AVal} {H : Heap} {r : Res} (h : Q5m P sl H o = some r) (hvc : r.vc = true) : Qbt P o sl H r.v r.H r.e := by
 have hh := Q9b P sl H o r h
 obtain ⟨vc, v, H', e⟩ := r
 dsimp only at *
 subst hvc
 cases e with
 | pure => exact ⟨hh.1, fun sl2 H2 hs => Q38 (r := ⟨true, v, H2, .pure⟩) (by rw [Q2q hs]; exact hh.2 H2) rfl⟩
 | read ids => exact ⟨hh.1, fun sl2 H2 hs hi => Q38 (r := ⟨true, v, H2, .read ids⟩) (by rw [Q2q hs]; exact hh.2 H2 hi) rfl⟩
 | push n ids =>
  obtain ⟨h1, b, fr, h2, h3, h4, h5, h6⟩ := hh
  exact ⟨h1, b, fr, h2, h3, h4, h5, fun sl2 H2 hs hi => Q38 (r := ⟨true, fr H2.length, H2 ++ [some b], .push H2.length ids⟩) (by rw [Q2q hs]; exact h6 H2 hi) rfl⟩
 | wr id =>
  obtain ⟨h1, c', h2, h3⟩ := hh
  exact ⟨h1, c', h2, fun sl2 H2 hs hi => Q38 (r := ⟨true, v, H2.set id (some c'), .wr id⟩) (by rw [Q2q hs]; exact h3 H2 hi) rfl⟩
 | touch n ts => exact ⟨hh, fun sl2 hs => Q38 (r := ⟨true, v, H', .touch n ts⟩) (by rw [Q2q hs]; exact h) rfl⟩
 | «mut» => exact fun sl2 hs => Q38 (r := ⟨true, v, H', .mut⟩) (by rw [Q2q hs]; exact h) rfl
theorem Q8R {m : Mem} {μ : LMap} : ∀ {c : AVal} {cs : List Value}, Q5G c = true → CRel m μ c cs → Q1e m μ (Qbb c) cs
 | .unit, cs, _, h => by simp only [CRel] at h; subst h; trivial
 | .pair a b, cs, hc, h => by
  simp only [Q5G, Bool.and_eq_true, Bool.not_eq_true'] at hc
  simp only [CRel] at h
  obtain ⟨v, hv⟩ := h.1.one hc.1
  have hs : a.size = 1 := by unfold AVal.size; rw [Q50 hc.1]; rfl
  rw [hs] at hv h
  cases cs with
  | nil => cases hv
  | cons x l =>
   rw [hv] at h
   have : v = x := by simpa using hv.symm
   subst this
   exact ⟨Q3c h.1 hc.1, Q8R hc.2 (by simpa using h.2)⟩
 | .undef, _, h, _ | .int _ _, _, h, _ | .bool _, _, h, _ | .str _, _, h, _ | .nilp, _, h, _ | .nils, _, h, _ | .ptr _ _, _, h, _ | .sl _ _ _ _, _, h, _ | .ros _ _, _, h, _ | .rop _ _, _, h, _
 | .parr _ _ _ _, _, h, _ | .arr _ _ _, _, h, _ | .vec _ _, _, h, _ | .vsl _, _, h, _ | .fn _ _, _, h, _ | .tup _, _, h, _ => by simp [Q5G] at h
theorem Qa5 {m : Mem} {μ : LMap} {sl : List AVal} {a : Act} (rs : RS m μ sl a) : ∀ l : List Operand, Q1e m μ (l.map (Q0i sl)) (l.map a.eval)
 | [] => trivial
 | x :: l => ⟨Q04 rs x, Qa5 rs l⟩
theorem Q3Y {P : Program} {o : Oper} {sl : List AVal} {H H' : Heap} {v : AVal} {f : Operand} {args : Array Operand} {ats : Array TypeId} {i : Nat} {caps : AVal}
  (ho : o.op = .call ⟨.value f, args, ats⟩) (hf : Q0i sl f = .fn i caps) (hc : Q5G caps = true) (h : Q1B P i (args.toList.map (Q0i sl) ++ Qbb caps) H v H') : OpDo P o sl H v H' := by
 intro m μ w a Q K rh rs hK
 have hfr := Q04 rs f
 rw [hf] at hfr
 obtain ⟨cap, h1, h2⟩ : ∃ cap : Array Value, [a.eval f] = [.func (.func i) #[] cap] ∧ CRel m μ caps cap.toList := hfr
 have h1' : a.eval f = .func (.func i) #[] cap := by simpa using h1
 obtain ⟨nx, w1, h3, h4⟩ := h m μ w (args.toList.map a.eval ++ cap.toList) rh ((Qa5 rs _).append (Q8R hc h2))
 have he : execOp a.eval o = callFunc i (args.toList.map a.eval ++ cap.toList).toArray := by
  unfold execOp
  rw [ho]
  simp only [resolve, h1', Deferred.ofValue, invoke]
  show callFunc i ((#[] ++ args.map a.eval) ++ cap) = _
  congr 1
  apply Array.toList_inj.1
  simp
 unfold Oper.wp
 rw [he, h3]
 rcases h4 with ⟨g, as, rfl, h5⟩ | ⟨u, rfl, h5⟩
 ·simp only [Oper.upon]
  refine h5.mono fun e w' h6 => ?_
  obtain ⟨u, m', μ', rfl, h7, h8⟩ := h6
  exact hK _ _ _ _ h7 h8
 ·obtain ⟨u', m', μ', hu, h7, h8⟩ := h5
  cases hu
  exact hK _ _ _ _ h7 h8
theorem Q7x {ρ : Type} {C : Ctx} (hΓ : ∀ f, Qb C.P f (C.Γ f)) {o : Oper} {st : St} {k : St → Eff → Option ρ} {r : ρ} (h : evOp C o st k = some r) :
  ∃ v H' e, Qbt C.P o st.sl st.H v H' e ∧ k ⟨putA st.sl o.dst v, H'⟩ e = some r := by
 unfold evOp at h
 split at h
 ·rename_i f args ats ho
  split at h
  ·rename_i i caps hf
   cases hc : Q5G caps with
   | false => rw [hc] at h; cases h
   | true =>
    rw [hc] at h
    simp only [cond_true] at h
    obtain ⟨v, H', e, h1, h2⟩ := hΓ i _ _ _ _ h
    refine ⟨v, H', e, ?_, h1⟩
    have key : ∀ sl2 : List AVal, (∀ x ∈ o.op.operands, Q0i sl2 x = Q0i st.sl x) → Q0i sl2 f = .fn i caps ∧ args.toList.map (Q0i sl2) = args.toList.map (Q0i st.sl) := by
     intro sl2 hs
     rw [ho] at hs
     refine ⟨by rw [hs f (by simp [Op.operands, Call.operands])]; exact hf, List.map_congr_left fun x hx => hs x ?_⟩
     have : x ∈ args := by simpa using hx
     simp [Op.operands, Call.operands, this]
    cases e with
    | pure => exact ⟨h2.1, fun sl2 H2 hs => Q3Y ho (key sl2 hs).1 hc (by rw [(key sl2 hs).2]; exact h2.2 H2)⟩
    | read ids => exact ⟨h2.1, fun sl2 H2 hs hi => Q3Y ho (key sl2 hs).1 hc (by rw [(key sl2 hs).2]; exact h2.2 H2 hi)⟩
    | push n ids => exact h2.elim
    | wr id =>
     obtain ⟨h3, c', h4, h5⟩ := h2
     exact ⟨h3, c', h4, fun sl2 H2 hs hi => Q3Y ho (key sl2 hs).1 hc (by rw [(key sl2 hs).2]; exact h5 H2 hi)⟩
    | touch n ts => exact ⟨h2.1, fun sl2 hs => Q3Y ho (key sl2 hs).1 hc (by rw [(key sl2 hs).2]; exact h2.2)⟩
    | «mut» => exact fun sl2 hs => Q3Y ho (key sl2 hs).1 hc (by rw [(key sl2 hs).2]; exact h2)
  ·cases h
 ·split at h
  ·rename_i r' hr
   cases hv : r'.vc with
   | false => rw [hv] at h; cases h
   | true => rw [hv] at h; exact ⟨_, _, _, QaP hr hv, h⟩
  ·cases h
end Go.Am
namespace Go.Am
open Go
theorem Q36 {ops : Array Oper} {o : Oper} {sl2 sl : List AVal} (h : Q5k (o.looksAt ops) sl2 sl) : ∀ x ∈ o.op.operands, Q0i sl2 x = Q0i sl x := by
 intro x hx
 refine Qcx fun t ht => h t ?_
 subst ht
 exact List.mem_append_left _ (List.mem_filterMap.2 ⟨.tmp t, by simpa using hx, rfl⟩)
theorem Q4O {ops : Array Oper} {o : Oper} {sl2 sl : List AVal} {j d : Nat} {want : Bool} (h : Q5k (o.looksAt ops) sl2 sl) (hg : o.guard = some (j, want)) (hd : (ops[j]?).bind (·.dst) = some d) :
  sl2.getD d .undef = sl.getD d .undef := by
 refine h d ?_
 simp [Oper.looksAt, hg, hd]
theorem Q7d {sl : List AVal} {d : Nat} {x : AVal} (h : sl.getD d .undef = x) (hx : x ≠ .undef) : sl[d]? = some x := by
 rw [List.getD_eq_getElem?_getD] at h
 cases hs : sl[d]? with
 | none => rw [hs] at h; exact absurd h.symm hx
 | some y => rw [hs] at h; simpa using h
theorem Q5K {m : Mem} {μ : LMap} {ops : Array Oper} {sl : List AVal} {a : Act} {j d : Nat} {b : Bool} (rs : RS m μ sl a) (hd : (ops[j]?).bind (·.dst) = some d) (h : sl.getD d .undef = .bool b) :
  yielded ops a.tmps j = some b := by
 obtain ⟨v, h1, h2⟩ := rs.rel d _ (Q7d h (by simp))
 have : v = .bool b := by simpa [VRel, Q1k, AVal.isAgg, CRel] using h2
 subst this
 simp [yielded, hd, h1]
theorem Q9q {m : Mem} {μ : LMap} {ops : Array Oper} {sl : List AVal} {a : Act} {j d : Nat} (rs : RS m μ sl a) (hd : (ops[j]?).bind (·.dst) = some d) (h : sl.getD d .undef = .tup .unit) :
  yielded ops a.tmps j = none := by
 obtain ⟨v, h1, h2⟩ := rs.rel d _ (Q7d h (by simp))
 obtain ⟨vs, h3, h4⟩ := h2
 subst h3
 simp [yielded, hd, h1]
theorem QaD {m : Mem} {μ : LMap} : VRel m μ (.tup .unit) undef := ⟨#[], rfl, rfl⟩
theorem OpDo.ok {P : Program} {ops : Array Oper} {i : Nat} {o : Oper} {sl : List AVal} {H H' : Heap} {v : AVal} (hi : ops[i]? = some o) (h : OpDo P o sl H v H')
  (hw : ∀ (m : Mem) (μ : LMap) (a : Act), RS m μ sl a → Region.wanted o (yielded ops a.tmps) = true) : OpOK P ops i o sl H v H' := by
 intro m μ w a Q K rh rs hK
 unfold wpOp
 simp only [hi, hw m μ a rs, if_true]
 exact .inl (h m μ w a Q K rh rs hK)
theorem OpOK.skip {P : Program} {ops : Array Oper} {i : Nat} {o : Oper} {sl : List AVal} {H : Heap} (hi : ops[i]? = some o)
  (hw : ∀ (m : Mem) (μ : LMap) (a : Act), RS m μ sl a → Region.wanted o (yielded ops a.tmps) = false) : OpOK P ops i o sl H (.tup .unit) H := by
 intro m μ w a Q K rh rs hK
 unfold wpOp
 simp only [hi, hw m μ a rs, Bool.false_eq_true, if_false]
 exact hK _ _ _ _ QaD (.refl rh)
theorem Qbt.stp {P : Program} {ops : Array Oper} {i : Nat} {o : Oper} {sl : List AVal} {H H' : Heap} {v : AVal} {e : Eff} (hi : ops[i]? = some o) (h : Qbt P o sl H v H' e)
  (hw : ∀ sl2, Q5k (o.looksAt ops) sl2 sl → ∀ (m : Mem) (μ : LMap) (a : Act), RS m μ sl2 a → Region.wanted o (yielded ops a.tmps) = true) : Stp P ops i o sl H v H' e := by
 cases e with
 | pure => exact ⟨h.1, fun sl2 H2 hs => (h.2 sl2 H2 (Q36 hs)).ok hi (hw sl2 hs)⟩
 | read ids => exact ⟨h.1, fun sl2 H2 hs hx => (h.2 sl2 H2 (Q36 hs) hx).ok hi (hw sl2 hs)⟩
 | push n ids =>
  obtain ⟨h1, b, fr, h2, h3, h4, h5, h6⟩ := h
  exact ⟨h1, b, fr, h2, h3, h4, h5, fun sl2 H2 hs hx => (h6 sl2 H2 (Q36 hs) hx).ok hi (hw sl2 hs)⟩
 | wr id =>
  obtain ⟨h1, c', h2, h3⟩ := h
  exact ⟨h1, c', h2, fun sl2 H2 hs hx => (h3 sl2 H2 (Q36 hs) hx).ok hi (hw sl2 hs)⟩
 | touch n ts => exact ⟨h.1, fun sl2 hs => (h.2 sl2 (Q36 hs)).ok hi (hw sl2 hs)⟩
 | «mut» => exact fun sl2 hs => (h sl2 (Q36 hs)).ok hi (hw sl2 hs)
theorem Qc8 {sl : List AVal} {d : Nat} {x : AVal} (h : sl.getD d .undef = x) (hx : x ≠ .undef) : sl.set d x = sl := by
 apply List.ext_getElem?
 intro i
 by_cases hi : d = i
 ·subst hi
  have h1 := Q7d h hx
  have hl : d < sl.length := (List.getElem?_eq_some_iff.1 h1).1
  rw [List.getElem?_set_self hl, h1]
 ·rw [List.getElem?_set_ne hi]
theorem Stp.norm {P : Program} {ops : Array Oper} {i : Nat} {o : Oper} {sl : List AVal} {H H' : Heap} {v : AVal} {e : Eff} (h : Stp P ops i o sl H v H' e) : Stp P ops i o sl H v H' (e.norm H.length) := by
 cases e with
 | pure => exact h
 | read ids =>
  show Stp P ops i o sl H v H' (cond (ltB H.length ids) (.read ids) .mut)
  cases ltB H.length ids with
  | true => exact h
  | false => obtain ⟨rfl, h2⟩ := h; exact fun sl2 hs => h2 sl2 _ hs fun _ _ => rfl
 | push n ids =>
  show Stp P ops i o sl H v H' (cond (ltB H.length ids) (.push n ids) .mut)
  cases ltB H.length ids with
  | true => exact h
  | false =>
   obtain ⟨h1, b, fr, _, _, h4, h5, h6⟩ := h
   subst h1 h4 h5
   exact fun sl2 hs => h6 sl2 _ hs fun _ _ => rfl
 | touch n ts => exact h
 | wr id => exact h
 | «mut» => exact h
theorem Q7N {n : Nat} : ∀ {l : List Nat}, ltB n l = true → ∀ i, i ∈ l → i < n
 | [], _, _, hi => by simp at hi
 | a :: l, h, i, hi => by
  simp only [ltB, Bool.and_eq_true] at h
  rcases List.mem_cons.1 hi with rfl | hi
  ·simpa [Nat.blt_eq] using h.1
  ·exact Q7N h.2 i hi
def Eff.within (n : Nat) : Eff → Prop
 | .read ids => ∀ i, i ∈ ids → i < n
 | .push _ ids => ∀ i, i ∈ ids → i < n
 | _ => True
theorem Eff.norm_within (n : Nat) (e : Eff) : (e.norm n).within n := by
 cases e with
 | pure => trivial
 | read ids =>
  show (cond (ltB n ids) (.read ids) .mut : Eff).within n
  cases h : ltB n ids with
  | true => exact Q7N h
  | false => trivial
 | push m ids =>
  show (cond (ltB n ids) (.push m ids) .mut : Eff).within n
  cases h : ltB n ids with
  | true => exact Q7N h
  | false => trivial
 | touch m ts => trivial
 | wr id => trivial
 | «mut» => trivial
theorem Qaq {ρ : Type} {C : Ctx} (hΓ : ∀ f, Qb C.P f (C.Γ f)) {ops : Array Oper} {i : Nat} {o : Oper} (hi : ops[i]? = some o) {rest : List Oper} {st : St} {es : List Eff} {k : St → List Eff → Option ρ} {r : ρ}
  (h : Q1W C ops (o :: rest) st es k = some r) : ∃ v H' e, Stp C.P ops i o st.sl st.H v H' e ∧ e.within st.H.length ∧ Q1W C ops rest ⟨putA st.sl o.dst v, H'⟩ (e :: es) k = some r := by
 unfold Q1W at h
 cases hg : o.guard with
 | none =>
  rw [hg] at h
  obtain ⟨v, H', e, h1, h2⟩ := Q7x hΓ h
  exact ⟨v, H', _, (h1.stp hi fun sl2 _ m μ a _ => by simp [Region.wanted, hg]).norm, Eff.norm_within _ _, h2⟩
 | some gw =>
  obtain ⟨j, want⟩ := gw
  rw [hg] at h
  dsimp only at h
  cases hd : (ops[j]?).bind (·.dst) with
  | none => rw [hd] at h; cases h
  | some d =>
   rw [hd] at h
   dsimp only at h
   have yes : ∀ b, st.sl.getD d .undef = .bool b → want = b → evOp C o st (fun st' e => Q1W C ops rest st' (e.norm st.H.length :: es) k) = some r →
     ∃ v H' e, Stp C.P ops i o st.sl st.H v H' e ∧ e.within st.H.length ∧ Q1W C ops rest ⟨putA st.sl o.dst v, H'⟩ (e :: es) k = some r := by
    intro b hb hw h
    obtain ⟨v, H', e, h1, h2⟩ := Q7x hΓ h
    exact ⟨v, H', _, (h1.stp hi fun sl2 hs m μ a rs => by
     rw [Region.wanted, hg]
     simp only [Q5K rs hd ((Q4O hs hg hd).trans hb), hw, beq_self_eq_true]).norm, Eff.norm_within _ _, h2⟩
   have no : ∀ b, st.sl.getD d .undef = .bool b → want = !b → Q1W C ops rest ⟨putA st.sl o.dst (.tup .unit), st.H⟩ (.pure :: es) k = some r →
     ∃ v H' e, Stp C.P ops i o st.sl st.H v H' e ∧ e.within st.H.length ∧ Q1W C ops rest ⟨putA st.sl o.dst v, H'⟩ (e :: es) k = some r := by
    intro b hb hw h
    refine ⟨_, _, .pure, ⟨rfl, fun sl2 H2 hs => OpOK.skip hi fun m μ a rs => ?_⟩, trivial, h⟩
    rw [Region.wanted, hg]
    simp only [Q5K rs hd ((Q4O hs hg hd).trans hb), hw]
    cases b <;> rfl
   split at h
   ·rename_i b hb
    have e0 : ∀ c, b = c → st.sl.set d (.bool c) = st.sl := fun c hc => Qc8 (by rw [hb, hc]) (by simp)
    cases want <;> cases b <;> simp only [cond_true, cond_false] at h
    ·rw [e0 _ rfl] at h; exact yes _ hb rfl h
    ·rw [e0 _ rfl] at h; exact no _ hb rfl h
    ·rw [e0 _ rfl] at h; exact no _ hb rfl h
    ·rw [e0 _ rfl] at h; exact yes _ hb rfl h
   ·rename_i hb
    refine ⟨_, _, .pure, ⟨rfl, fun sl2 H2 hs => OpOK.skip hi fun m μ a rs => ?_⟩, trivial, h⟩
    rw [Region.wanted, hg]
    simp only [Q9q rs hd ((Q4O hs hg hd).trans hb)]
    rfl
   ·cases h
def Q1I (P : Program) (ops : Array Oper) (i0 : Nat) (os : List Oper) (S : Nat → St) (V : Nat → AVal) (E : Nat → Eff) : Prop :=
 ∀ j o, os[j]? = some o → Stp P ops (i0 + j) o (S j).sl (S j).H (V j) (S (j + 1)).H (E j) ∧ (S (j + 1)).sl = putA (S j).sl o.dst (V j) ∧ (E j).within (S j).H.length
def Qb9 {α : Type} (x : α) (f : Nat → α) : Nat → α
 | 0 => x
 | n + 1 => f n
theorem Q1P {ρ : Type} {C : Ctx} (hΓ : ∀ f, Qb C.P f (C.Γ f)) {ops : Array Oper} {k : St → List Eff → Option ρ} {r : ρ} : ∀ (os : List Oper) (i0 : Nat) (st : St) (es : List Eff),
  (∀ j o, os[j]? = some o → ops[i0 + j]? = some o) → Q1W C ops os st es k = some r →
  ∃ S V E es', S 0 = st ∧ Q1I C.P ops i0 os S V E ∧ k (S os.length) es' = some r ∧ es'.reverse = es.reverse ++ (List.range os.length).map E
 | [], i0, st, es, _, h => ⟨fun _ => st, fun _ => .undef, fun _ => .pure, es, rfl, fun j o hj => by simp at hj, h, by simp⟩
 | o :: os, i0, st, es, hos, h => by
  obtain ⟨v, H', e, h1, hwi, h2⟩ := Qaq hΓ (i := i0) (hos 0 o rfl) h
  obtain ⟨S, V, E, es', h3, h4, h5, h6⟩ := Q1P hΓ os (i0 + 1) _ _ (fun j o' hj => by
   have := hos (j + 1) o' (by simpa using hj)
   rw [← this]; congr 1; omega) h2
  refine ⟨Qb9 st S, Qb9 v V, Qb9 e E, es', rfl, ?_, h5, ?_⟩
  ·intro j o' hj
   cases j with
   | zero =>
    simp only [List.getElem?_cons_zero, Option.some.injEq] at hj
    subst hj
    show Stp _ _ _ _ st.sl st.H v (S 0).H e ∧ (S 0).sl = _ ∧ e.within st.H.length
    rw [h3]; exact ⟨h1, rfl, hwi⟩
   | succ j =>
    have := h4 j o' (by simpa using hj)
    rw [show i0 + (j + 1) = i0 + 1 + j by omega]
    exact this
  ·rw [h6, List.length_cons, List.range_succ_eq_map]
   simp [Qb9, Function.comp_def]
theorem Q3F {m m' : Mem} {μ μ' : LMap} {sl : List AVal} {a : Act} {dst : Option Nat} {v : AVal} {u : Value} (hm : m.le m') (hμ : μ.le μ') (rs : RS m μ sl a) (hv : VRel m' μ' v u) : RS m' μ' (putA sl dst v) (a.put dst u) := by
 cases dst with
 | none => exact rs.mono hm hμ
 | some d => exact (rs.mono hm hμ).put hv
theorem Stp.now {P : Program} {ops : Array Oper} {i : Nat} {o : Oper} {sl : List AVal} {H H' : Heap} {v : AVal} {e : Eff} (h : Stp P ops i o sl H v H' e) : OpOK P ops i o sl H v H' := by
 cases e with
 | pure => obtain ⟨rfl, h⟩ := h; exact h _ _ fun _ _ => rfl
 | read ids => obtain ⟨rfl, h⟩ := h; exact h _ _ (fun _ _ => rfl) fun _ _ => rfl
 | push n ids => obtain ⟨rfl, b, fr, _, _, rfl, rfl, h⟩ := h; exact h _ _ (fun _ _ => rfl) fun _ _ => rfl
 | wr id => obtain ⟨_, c', rfl, h⟩ := h; exact h _ _ (fun _ _ => rfl) rfl
 | touch n ts => exact h.2 _ fun _ _ => rfl
 | «mut» => exact h _ fun _ _ => rfl
theorem Q7S {P : Program} {ops : Array Oper} {Q : Exit → Act → World → Prop} {S : Nat → St} {V : Nat → AVal} {E : Nat → Eff} (hc : Q1I P ops 0 ops.toList S V E) :
  ∀ (n j : Nat), j + n = ops.size → ∀ (m : Mem) (μ : LMap) (w : World) (a : Act), RH m μ (S j).H w → RS m μ (S j).sl a →
   (∀ a' w' m' μ', RS m' μ' (S ops.size).sl a' → Post m μ (S j).H w m' μ' (S ops.size).H w' → Q .normal a' w') → wpOps P ops Q (List.range' j n) a w
 | 0, j, hj, m, μ, w, a, rh, rs, hQ => by
  have : j = ops.size := by omega
  subst this
  exact hQ _ _ _ _ rs (.refl rh)
 | n + 1, j, hj, m, μ, w, a, rh, rs, hQ => by
  rw [List.range'_succ, wpOps_cons]
  have hlt : j < ops.size := by omega
  have ho : ops.toList[j]? = some ops[j] := by simp [hlt]
  obtain ⟨h1, h2, _⟩ := hc j _ ho
  rw [Nat.zero_add] at h1
  refine h1.now m μ w a Q _ rh rs fun u w' m' μ' hv hp => ?_
  refine Q7S hc n (j + 1) (by omega) m' μ' w' _ hp.rh ?_ fun a' w'' m'' μ'' hs hp' => hQ _ _ _ _ hs (hp.trans hp')
  rw [h2]
  exact Q3F hp.ml hp.μl rs hv
end Go.Am
namespace Go.Am
open Go
def slF (V : Nat → AVal) (dst : Nat → Option Nat) (D : Nat → Bool) (sl : List AVal) : Nat → List AVal
 | 0 => sl
 | j + 1 => if D j then putA (slF V dst D sl j) (dst j) (V j) else slF V dst D sl j
theorem Q9u (sl : List AVal) (d : Option Nat) (v : AVal) : (putA sl d v).length = sl.length := by
 cases d <;> simp [putA]
theorem Q2I (V : Nat → AVal) (dst : Nat → Option Nat) (D : Nat → Bool) (sl : List AVal) : ∀ n, (slF V dst D sl n).length = sl.length
 | 0 => rfl
 | n + 1 => by
  simp only [slF]
  split
  ·rw [Q9u, Q2I]
  ·exact Q2I V dst D sl n
theorem Q9h {sl : List AVal} {d : Option Nat} {v : AVal} {t : Nat} (h : d ≠ some t) : (putA sl d v)[t]? = sl[t]? := by
 cases d with
 | none => rfl
 | some d => simp only [putA]; rw [List.getElem?_set_ne]; intro e; exact h (by rw [e])
theorem Qbe {sl sl2 : List AVal} {d : Option Nat} {v : AVal} {t : Nat} (hl : sl2.length = sl.length) (h : d = some t) : (putA sl d v)[t]? = (putA sl2 d v)[t]? := by
 subst h
 simp only [putA]
 rw [List.getElem?_set, List.getElem?_set, hl]
 split <;> simp_all
theorem Q55 {V : Nat → AVal} {dst : Nat → Option Nat} {D D' : Nat → Bool} {sl : List AVal} {t : Nat} : ∀ n, (∀ i, i < n → dst i = some t → D i = D' i) → (slF V dst D sl n)[t]? = (slF V dst D' sl n)[t]?
 | 0, _ => rfl
 | n + 1, h => by
  have ih := Q55 (V := V) (sl := sl) n fun i hi => h i (by omega)
  simp only [slF]
  by_cases hd : dst n = some t
  ·rw [h n (by omega) hd]
   split
   ·exact Qbe (by rw [Q2I, Q2I]) hd
   ·exact ih
  ·have h1 : ∀ X : Bool, ∀ l : List AVal, (if X then putA l (dst n) (V n) else l)[t]? = l[t]? := by
    intro X l; cases X
    ·rfl
    ·exact Q9h hd
   rw [h1, h1]; exact ih
theorem Q9H {V : Nat → AVal} {dst : Nat → Option Nat} {D : Nat → Bool} {sl l0 : List AVal} {j t : Nat} (hl : l0.length = sl.length) (hj : D j = true) (hd : dst j = some t) :
  ∀ n, j < n → (∀ i, j < i → i < n → dst i = some t → D i = false) → (slF V dst D sl n)[t]? = (putA l0 (dst j) (V j))[t]?
 | 0, h, _ => by omega
 | n + 1, h, hi => by
  simp only [slF]
  by_cases hn : j = n
  ·subst hn
   rw [if_pos hj]
   exact Qbe (by rw [Q2I, hl]) hd
  ·have ih := Q9H (sl := sl) (V := V) hl hj hd n (by omega) fun i h1 h2 => hi i h1 (by omega)
   by_cases hd' : dst n = some t
   ·rw [hi n (by omega) (by omega) hd']; exact ih
   ·have h1 : ∀ X : Bool, ∀ l : List AVal, (if X then putA l (dst n) (V n) else l)[t]? = l[t]? := by
     intro X l; cases X
     ·rfl
     ·exact Q9h hd'
    rw [h1]; exact ih
theorem Qd0 {V : Nat → AVal} {dst : Nat → Option Nat} {D D' : Nat → Bool} {sl : List AVal} {j n : Nat} (hj : j < n) (hD : D j = false) (hD' : ∀ i, D' i = (D i || i == j)) (hap : ∀ i t, j < i → i < n → dst j = some t → dst i = some t → D i = false) :
  slF V dst D' sl n = putA (slF V dst D sl n) (dst j) (V j) := by
 apply List.ext_getElem?
 intro t
 by_cases hd : dst j = some t
 ·exact Q9H (by rw [Q2I]) (by rw [hD']; simp) hd n hj fun i h1 h2 h3 => by
   rw [hD', hap i t h1 h2 hd h3]; simp; omega
 ·rw [Q9h hd]
  refine Q55 n fun i hi h1 => ?_
  rw [hD']
  by_cases h : i = j
  ·subst h; exact absurd h1 hd
  ·simp [h]
theorem Qa3 {V : Nat → AVal} {dst : Nat → Option Nat} {S : Nat → St} {n : Nat} (h : ∀ j, j < n → (S (j + 1)).sl = putA (S j).sl (dst j) (V j)) (j : Nat) (hj : j ≤ n) :
  ∀ k, k ≤ n → slF V dst (fun i => decide (i < j)) (S 0).sl k = (S (min k j)).sl
 | 0, _ => by simp [slF]
 | k + 1, hk => by
  have ih := Qa3 h j hj k (by omega)
  simp only [slF]
  by_cases hkj : k < j
  ·rw [if_pos (by simpa using hkj), ih, show min (k + 1) j = k + 1 by omega, show min k j = k by omega, h k (by omega)]
  ·rw [if_neg (by simpa using hkj), ih, show min (k + 1) j = j by omega, show min k j = j by omega]
theorem Q6R {acc : List Nat} {i : Nat} : ∀ {es : List Edge} {s : Nat}, (es.foldl (fun s e => if Region.binds .any e = true then (s ||| 2 ^ e.on) ||| acc.getD e.on 0 else s) s).testBit i = true →
  s.testBit i = true ∨ ∃ e, e ∈ es ∧ Region.binds .any e = true ∧ (e.on = i ∨ (acc.getD e.on 0).testBit i = true)
 | [], s, h => .inl h
 | e :: es, s, h => by
  simp only [List.foldl_cons] at h
  rcases Q6R h with h1 | ⟨e', h1, h2, h3⟩
  ·split at h1
   ·rename_i hb
    rw [Nat.testBit_or, Nat.testBit_or, Bool.or_eq_true, Bool.or_eq_true, Nat.testBit_two_pow] at h1
    rcases h1 with (h1 | h1) | h1
    ·exact .inl h1
    ·exact .inr ⟨e, by simp, hb, .inl (by simpa using h1)⟩
    ·exact .inr ⟨e, by simp, hb, .inr h1⟩
   ·exact .inl h1
  ·exact .inr ⟨e', by simp [h1], h2, h3⟩
def QaQ (os : List Oper) (B : List Nat) (n : Nat) : Prop :=
 ∀ j o i, j < n → os[j]? = some o → (B.getD j 0).testBit i = true → ∃ e, e ∈ o.after.toList ∧ Region.binds .any e = true ∧ (e.on = i ∨ (e.on < j ∧ (B.getD e.on 0).testBit i = true))
theorem Qbk : ∀ (os pre : List Oper) (acc : List Nat), acc.length = pre.length → QaQ (pre ++ os) acc acc.length → QaQ (pre ++ os) (befL os acc) (pre ++ os).length ∧ (befL os acc).length = (pre ++ os).length
 | [], pre, acc, hl, h => by simp only [List.append_nil, befL] at *; exact ⟨hl ▸ h, hl⟩
 | o :: os, pre, acc, hl, h => by
  simp only [befL]
  have := Qbk os (pre ++ [o]) (acc ++ [QaM acc o.after.toList]) (by simp [hl]) (by
   rw [List.append_assoc, List.singleton_append]
   intro j o' i hj ho' hb
   have hget : ∀ x, x < acc.length → (acc ++ [QaM acc o.after.toList]).getD x 0 = acc.getD x 0 := fun x hx => by
    rw [List.getD_eq_getElem?_getD, List.getD_eq_getElem?_getD, List.getElem?_append_left hx]
   by_cases hja : j < acc.length
   ·rw [hget j hja] at hb
    obtain ⟨e, h1, h2, h3⟩ := h j o' i hja ho' hb
    refine ⟨e, h1, h2, ?_⟩
    rcases h3 with h3 | ⟨h3, h4⟩
    ·exact .inl h3
    ·exact .inr ⟨h3, by rw [hget _ (by omega)]; exact h4⟩
   ·have hj' : j = acc.length := by simp at hj; omega
    subst hj'
    have hoo : o' = o := by
     rw [hl, List.getElem?_append_right (Nat.le_refl _)] at ho'
     simpa using ho'.symm
    subst hoo
    rw [List.getD_eq_getElem?_getD, List.getElem?_append_right (Nat.le_refl _)] at hb
    simp only [Nat.sub_self, List.getElem?_cons_zero, Option.getD_some] at hb
    rcases Q6R hb with h1 | ⟨e, h1, h2, h3⟩
    ·simp at h1
    ·refine ⟨e, h1, h2, ?_⟩
     rcases h3 with h3 | h3
     ·exact .inl h3
     ·by_cases hlt : e.on < acc.length
      ·exact .inr ⟨hlt, by rw [hget _ hlt]; exact h3⟩
      ·rw [List.getD_eq_getElem?_getD, List.getElem?_eq_none (by omega)] at h3
       simp at h3)
  rw [List.append_assoc, List.singleton_append] at this
  exact this
theorem Q69 {ops : Array Oper} {b : Nat} {o' : Oper} {e' : Eff} : ∀ {i0 : Nat} {os : List Oper} {es : List Eff}, Q78 ops b o' e' i0 os es = true →
  ∀ i o e, os[i]? = some o → es[i]? = some e → b.testBit (i0 + i) = true ∨ (o.apart ops o' = true ∧ Q1C e e' = true)
 | _, [], _, _, i, o, e, ho, _ => by simp at ho
 | _, _ :: _, [], _, i, o, e, _, he => by simp at he
 | i0, o1 :: os, e1 :: es, h, i, o, e, ho, he => by
  simp only [Q78, Bool.and_eq_true, Bool.or_eq_true] at h
  cases i with
  | zero =>
   simp only [List.getElem?_cons_zero, Option.some.injEq] at ho he
   subst ho; subst he
   exact h.1
  | succ i =>
   simp only [List.getElem?_cons_succ] at ho he
   rw [show i0 + (i + 1) = i0 + 1 + i by omega]
   exact Q69 h.2 i o e ho he
theorem Q6S {ops : Array Oper} : ∀ {seen : List Oper} {seenE : List Eff} {bs : List Nat} {os : List Oper} {es : List Eff}, Q5D ops seen seenE seen.length bs os es = true → seenE.length = seen.length →
  ∀ j o e, os[j]? = some o → es[j]? = some e → (∀ x, x ∈ o.after.toList → Region.binds .any x = true → x.on < seen.length + j) ∧
   ∀ i o1 e1, i < seen.length + j → (seen ++ os)[i]? = some o1 → (seenE ++ es)[i]? = some e1 → (bs.getD j 0).testBit i = true ∨ (o1.apart ops o = true ∧ Q1C e1 e = true)
 | seen, seenE, [], [], es, h, hl, j, o, e, ho, he => by simp at ho
 | seen, seenE, _ :: _, [], es, h, hl, j, o, e, ho, he => by simp at ho
 | seen, seenE, [], _ :: _, [], h, hl, j, o, e, ho, he => by simp at he
 | seen, seenE, [], _ :: _, _ :: _, h, hl, j, o, e, ho, he => by simp [Q5D] at h
 | seen, seenE, _ :: _, _ :: _, [], h, hl, j, o, e, ho, he => by simp at he
 | seen, seenE, b :: bs, o2 :: os, e2 :: es, h, hl, j, o, e, ho, he => by
  simp only [Q5D, Bool.and_eq_true] at h
  obtain ⟨⟨h1, h2⟩, h3⟩ := h
  cases j with
  | zero =>
   simp only [List.getElem?_cons_zero, Option.some.injEq] at ho he
   subst ho; subst he
   refine ⟨fun x hx hb => ?_, fun i o1 e1 hi ho1 he1 => ?_⟩
   ·have := List.all_eq_true.1 h1 x hx
    simpa [hb] using this
   ·simp only [Nat.add_zero] at hi
    rw [List.getElem?_append_left hi] at ho1
    rw [List.getElem?_append_left (by omega)] at he1
    have := Q69 h2 i o1 e1 ho1 he1
    simpa using this
  | succ j =>
   simp only [List.getElem?_cons_succ] at ho he
   have ih := Q6S (seen := seen ++ [o2]) (seenE := seenE ++ [e2]) (bs := bs) (os := os) (es := es) (by simpa using h3) (by simp [hl]) j o e ho he
   simp only [List.length_append, List.length_cons, List.length_nil, List.append_assoc, List.singleton_append] at ih
   refine ⟨fun x hx hb => by have := ih.1 x hx hb; omega, fun i o1 e1 hi ho1 he1 => ?_⟩
   have := ih.2 i o1 e1 (by omega) ho1 he1
   simpa using this
end Go.Am
namespace Go.Am
open Go
structure Q11 (np : Nat) (m : Mem) (μ : LMap) (H : Heap) (w : World) (m' : Mem) (μ' : LMap) (H' : Heap) (w' : World) : Prop where
 rh : RH m' μ' H' w'
 ml : m.le m'
 fix : ∀ i l, i < np → μ i = some l → μ' i = some l
 os : w'.os = w.os
 tape : w'.tape = w.tape
 output : w'.output = w.output
 size : w.heap.size ≤ w'.heap.size
 keep : ∀ b, b < w.heap.size → ¬ Q1q μ H b → w'.heap[b]? = w.heap[b]?
 grow : ∀ b, Q1q μ' H' b → b < w.heap.size → Q1q μ H b
 mgrow : ∀ b c, m' b = some c → m b = some c ∨ Q1q μ H b ∨ w.heap.size ≤ b
theorem Post.toW {np : Nat} {m m' : Mem} {μ μ' : LMap} {H H' : Heap} {w w' : World} (h : Post m μ H w m' μ' H' w') : Q11 np m μ H w m' μ' H' w' :=
 ⟨h.rh, h.ml, fun i l _ hl => h.μl i l hl, h.os, h.tape, h.output, h.size, h.keep, h.grow, h.mgrow⟩
theorem Q11.trans {np : Nat} {m m1 m2 : Mem} {μ μ1 μ2 : LMap} {H H1 H2 : Heap} {w w1 w2 : World} (h : Q11 np m μ H w m1 μ1 H1 w1) (k : Q11 np m1 μ1 H1 w1 m2 μ2 H2 w2) : Q11 np m μ H w m2 μ2 H2 w2 where
 rh := k.rh
 ml := Mem.le_trans h.ml k.ml
 fix := fun i l hi hl => k.fix i l hi (h.fix i l hi hl)
 os := k.os.trans h.os
 tape := k.tape.trans h.tape
 output := k.output.trans h.output
 size := Nat.le_trans h.size k.size
 keep := fun b hb ho => (k.keep b (Nat.lt_of_lt_of_le hb h.size) (fun h2 => ho (h.grow b h2 hb))).trans (h.keep b hb ho)
 grow := fun b h2 hb => h.grow b (k.grow b h2 (Nat.lt_of_lt_of_le hb h.size)) hb
 mgrow := fun b c hc => by
  rcases k.mgrow b c hc with h1 | h1 | h1
  ·exact h.mgrow b c h1
  ·by_cases hb : b < w.heap.size
   ·exact .inr (.inl (h.grow b h1 hb))
   ·exact .inr (.inr (by omega))
  ·exact .inr (.inr (Nat.le_trans h.size h1))
def Q1a (np : Nat) (st st' : St) : Prop :=
 ∀ (m : Mem) (μ : LMap) (w : World) (a : Act), RH m μ st.H w → RS m μ st.sl a → ∃ m' μ', RS m' μ' st'.sl a ∧ Q11 np m μ st.H w m' μ' st'.H w
theorem Q1a.refl (np : Nat) (st : St) : Q1a np st st := fun m μ w a rh rs => ⟨m, μ, rs, (Post.refl rh).toW⟩
theorem Q1a.trans {np : Nat} {s1 s2 s3 : St} (h : Q1a np s1 s2) (k : Q1a np s2 s3) : Q1a np s1 s3 := fun m μ w a rh rs => by
 obtain ⟨m1, μ1, rs1, p1⟩ := h m μ w a rh rs
 obtain ⟨m2, μ2, rs2, p2⟩ := k m1 μ1 w a p1.rh rs1
 exact ⟨m2, μ2, rs2, p1.trans p2⟩
theorem Q3X {m : Mem} {μ : LMap} (v : Value) : VRel m μ .undef v := trivial
theorem Q57 {keep : List Nat} : ∀ {l : List AVal} {i0 j : Nat} {x : AVal}, (Q3j keep i0 l)[j]? = some x → l[j]? = some x ∨ (x = .undef ∧ j < l.length)
 | [], _, _, _, h => by simp [Q3j] at h
 | y :: l, i0, j, x, h => by
  cases j with
  | zero =>
   simp only [Q3j, List.getElem?_cons_zero, Option.some.injEq] at h
   split at h
   ·exact .inl (by simp [h])
   ·exact .inr ⟨h.symm, by simp⟩
  | succ j =>
   simp only [Q3j, List.getElem?_cons_succ] at h
   rcases Q57 h with h1 | ⟨h1, h2⟩
   ·exact .inl (by simpa using h1)
   ·exact .inr ⟨h1, by simp; omega⟩
theorem Q33 {keep : List Nat} : ∀ {l : List AVal} {i0 : Nat}, (Q3j keep i0 l).length = l.length
 | [], _ => rfl
 | _ :: l, _ => by simp [Q3j, Q33 (l := l)]
theorem RS.vals {m : Mem} {μ : LMap} {sl : List AVal} {a : Act} (rs : RS m μ sl a) {j : Nat} (hj : j < sl.length) : ∃ v, a.tmps[j]? = some v := by
 obtain ⟨v, h, _⟩ := rs.rel j sl[j] (by simp)
 exact ⟨v, h⟩
theorem Qb8 {np : Nat} {st : St} (keep : List Nat) : Q1a np st ⟨Q3j keep 0 st.sl, st.H⟩ := fun m μ w a rh rs => by
 refine ⟨m, μ, ⟨by rw [Q33]; exact rs.size, rs.defers, fun i x hx => ?_⟩, (Post.refl rh).toW⟩
 rcases Q57 hx with h | ⟨rfl, h⟩
 ·exact rs.rel i x h
 ·obtain ⟨v, hv⟩ := rs.vals h
  exact ⟨v, hv, Q3X v⟩
theorem Qd6 {np : Nat} {st : St} (id : Nat) : Q1a np st ⟨st.sl, st.H.set id none⟩ := fun m μ w _ rh rs => ⟨m, μ, rs, (rh.kill id).toW⟩
theorem Q4v {i : Nat} : ∀ {keep : List Nat} {k0 k : Nat}, Q1F i k0 keep = some k → k0 ≤ k ∧ keep[k - k0]? = some i
 | [], _, _, h => by simp [Q1F] at h
 | j :: l, k0, k, h => by
  simp only [Q1F] at h
  split at h
  ·cases h; rename_i e; subst e; exact ⟨Nat.le_refl _, by simp⟩
  ·obtain ⟨h1, h2⟩ := Q4v h
   exact ⟨by omega, by rw [show k - k0 = (k - (k0 + 1)) + 1 by omega]; simpa using h2⟩
def renM (keep : List Nat) (μ : LMap) : LMap := fun k => (keep[k]?).bind μ
theorem Q2m {keep : List Nat} {μ : LMap} {i k : Nat} (h : Q1F i 0 keep = some k) : renM keep μ k = μ i := by
 have := (Q4v h).2
 simp only [Nat.sub_zero] at this
 simp [renM, this]
theorem QcO {keep : List Nat} {a a' : AVal} (h : renA keep a = some a') : a'.isAgg = a.isAgg := by
 cases a <;> simp only [renA, Option.bind_eq_some_iff, Option.some.injEq] at h
 all_goals first
  | (subst h; rfl)
  | (obtain ⟨_, _, h⟩ := h; subst h; rfl)
  | (obtain ⟨_, _, _, _, h⟩ := h; subst h; rfl)
theorem Q5X {keep : List Nat} : ∀ {a a' : AVal}, renA keep a = some a' → a'.sh = a.sh
 | .pair a b, a', h => by
  simp only [renA, Option.bind_eq_some_iff, Option.some.injEq] at h
  obtain ⟨x, hx, y, hy, h⟩ := h
  subst h
  simp only [AVal.sh, Q5X hx, Q5X hy]
 | .undef, a', h | .int _ _, a', h | .bool _, a', h | .str _, a', h | .nilp, a', h | .nils, a', h | .unit, a', h | .ros _ _, a', h | .rop _ _, a', h | .arr _ _ _, a', h | .vec _ _, a', h | .nilm, a', h | .mpc _ _ _, a', h => by
  simp only [renA, Option.some.injEq] at h; subst h; rfl
 | .ptr _ _, a', h | .sl _ _ _ _, a', h | .vsl _, a', h | .parr _ _ _ _, a', h | .sfp _ _ _, a', h | .vbs _, a', h | .mp _, a', h | .fn _ _, a', h | .tup _, a', h => by
  simp only [renA, Option.bind_eq_some_iff, Option.some.injEq] at h
  obtain ⟨_, _, h⟩ := h
  subst h; rfl
theorem Qd3 {keep : List Nat} {a a' : AVal} (h : renA keep a = some a') : a'.isVb = a.isVb := by
 cases a <;> simp only [renA, Option.bind_eq_some_iff, Option.some.injEq] at h
 all_goals first
  | (subst h; rfl)
  | (obtain ⟨_, _, h⟩ := h; subst h; rfl)
  | (obtain ⟨_, _, _, _, h⟩ := h; subst h; rfl)
theorem Q3r {keep : List Nat} {m : Mem} {μ : LMap} : ∀ {a a' : AVal} {cs : List Value}, renA keep a = some a' → CRel m μ a cs → CRel m (renM keep μ) a' cs
 | .pair a b, a', cs, h, hc => by
  simp only [renA, Option.bind_eq_some_iff, Option.some.injEq] at h
  obtain ⟨x, hx, y, hy, h⟩ := h
  subst h
  simp only [CRel] at hc ⊢
  have hs : x.size = a.size := by unfold AVal.size; rw [Q5X hx]
  rw [hs]
  exact ⟨Q3r hx hc.1, Q3r hy hc.2⟩
 | .undef, a', cs, h, hc => by simp only [CRel] at hc
 | .tup _, a', cs, h, hc => by simp only [CRel] at hc
 | .int _ _, a', cs, h, hc | .bool _, a', cs, h, hc | .str _, a', cs, h, hc | .nilp, a', cs, h, hc | .nils, a', cs, h, hc | .unit, a', cs, h, hc | .ros _ _, a', cs, h, hc | .rop _ _, a', cs, h, hc | .arr _ _ _, a', cs, h, hc | .vec _ _, a', cs, h, hc | .nilm, a', cs, h, hc | .mpc _ _ _, a', cs, h, hc => by
  simp only [renA, Option.some.injEq] at h; subst h; simp only [CRel] at hc ⊢; exact hc
 | .ptr id p, a', cs, h, hc => by
  simp only [renA, Option.bind_eq_some_iff, Option.some.injEq] at h
  obtain ⟨k, hk, h⟩ := h
  subst h; simp only [CRel, Q2m hk] at hc ⊢; exact hc
 | .sl _ _ _ _, a', cs, h, hc => by
  simp only [renA, Option.bind_eq_some_iff, Option.some.injEq] at h
  obtain ⟨k, hk, h⟩ := h
  subst h; simp only [CRel, Q2m hk] at hc ⊢; exact hc
 | .vsl _, a', cs, h, hc => by
  simp only [renA, Option.bind_eq_some_iff, Option.some.injEq] at h
  obtain ⟨k, hk, h⟩ := h
  subst h; simp only [CRel, Q2m hk] at hc ⊢; exact hc
 | .parr _ _ _ _, a', cs, h, hc => by
  simp only [renA, Option.bind_eq_some_iff, Option.some.injEq] at h
  obtain ⟨k, hk, h⟩ := h
  subst h; simp only [CRel, Q2m hk] at hc ⊢; exact hc
 | .mp _, a', cs, h, hc => by
  simp only [renA, Option.bind_eq_some_iff, Option.some.injEq] at h
  obtain ⟨k, hk, h⟩ := h
  subst h; simp only [CRel, Q2m hk] at hc ⊢; exact hc
 | .vbs _, a', cs, h, hc => by
  simp only [renA, Option.bind_eq_some_iff, Option.some.injEq] at h
  obtain ⟨k, hk, h⟩ := h
  subst h; simp only [CRel, Q2m hk] at hc ⊢; exact hc
 | .sfp _ _ _, a', cs, h, hc => by
  simp only [renA, Option.bind_eq_some_iff, Option.some.injEq] at h
  obtain ⟨k, hk, h⟩ := h
  subst h; simp only [CRel, Q2m hk] at hc ⊢; exact hc
 | .fn f c, a', cs, h, hc => by
  simp only [renA, Option.bind_eq_some_iff, Option.some.injEq] at h
  obtain ⟨x, hx, h⟩ := h
  subst h; simp only [CRel] at hc ⊢
  obtain ⟨cap, h1, h2⟩ := hc
  exact ⟨cap, h1, Q3r hx h2⟩
theorem Q1K {m : Mem} {μ : LMap} {a : AVal} {v : Value} (h0 : a ≠ .undef) (h1 : ∀ s, a ≠ .tup s) : Q1k m μ a v ↔ if a.isAgg then ∃ cs, v = .agg cs ∧ CRel m μ a cs.toList else CRel m μ a [v] := by
 unfold Q1k
 split
 ·exact absurd rfl h0
 ·exact absurd rfl (h1 _)
 ·exact Iff.rfl
theorem Q5F {keep : List Nat} {a a' : AVal} (h : renA keep a = some a') : (a' = .undef ↔ a = .undef) ∧ ((∃ s, a' = .tup s) ↔ ∃ s, a = .tup s) := by
 cases a <;> simp only [renA, Option.bind_eq_some_iff, Option.some.injEq] at h
 all_goals first
  | (subst h; simp; done)
  | (obtain ⟨x, _, y, _, rfl⟩ := h; simp; done)
  | (obtain ⟨x, _, rfl⟩ := h; simp; done)
theorem Q7p {keep : List Nat} {m : Mem} {μ : LMap} {a a' : AVal} {v : Value} (h : renA keep a = some a') (hv : Q1k m μ a v) : Q1k m (renM keep μ) a' v := by
 by_cases h0 : a = .undef
 ·subst h0; simp only [renA, Option.some.injEq] at h; subst h; trivial
 by_cases h1 : ∃ s, a = .tup s
 ·obtain ⟨s, rfl⟩ := h1; exact hv.elim
 have h1' : ∀ s, a ≠ .tup s := fun s e => h1 ⟨s, e⟩
 rw [Q1K h0 h1'] at hv
 have g0 : a' ≠ .undef := fun e => h0 ((Q5F h).1.1 e)
 have g1 : ∀ s, a' ≠ .tup s := fun s e => h1 ((Q5F h).2.1 ⟨s, e⟩)
 rw [Q1K g0 g1, QcO h]
 split
 ·rename_i ha
  rw [if_pos ha] at hv
  obtain ⟨cs, h2, h3⟩ := hv
  exact ⟨cs, h2, Q3r h h3⟩
 ·rename_i ha
  rw [if_neg ha] at hv
  exact Q3r h hv
theorem Q8q {keep : List Nat} {m : Mem} {μ : LMap} : ∀ {a a' : AVal} {vs : List Value}, renA keep a = some a' → TRel m μ a vs → TRel m (renM keep μ) a' vs
 | .unit, a', vs, h, hv => by simp only [renA, Option.some.injEq] at h; subst h; exact hv
 | .pair a b, a', vs, h, hv => by
  simp only [renA, Option.bind_eq_some_iff, Option.some.injEq] at h
  obtain ⟨x, hx, y, hy, h⟩ := h
  subst h
  obtain ⟨v, r, h1, h2, h3⟩ := hv
  exact ⟨v, r, h1, Q7p hx h2, Q8q hy h3⟩
 | .undef, _, _, _, hv | .int _ _, _, _, _, hv | .bool _, _, _, _, hv | .str _, _, _, _, hv | .nilp, _, _, _, hv | .nils, _, _, _, hv | .ros _ _, _, _, _, hv | .rop _ _, _, _, _, hv | .arr _ _ _, _, _, _, hv | .vec _ _, _, _, _, hv
 | .ptr _ _, _, _, _, hv | .sl _ _ _ _, _, _, _, hv | .vsl _, _, _, _, hv | .parr _ _ _ _, _, _, _, hv | .sfp _ _ _, _, _, _, hv | .vbs _, _, _, _, hv | .mp _, _, _, _, hv | .nilm, _, _, _, hv | .mpc _ _ _, _, _, _, hv | .fn _ _, _, _, _, hv | .tup _, _, _, _, hv => hv.elim
theorem Q6n {keep : List Nat} {m : Mem} {μ : LMap} {a a' : AVal} {v : Value} (h : renA keep a = some a') (hv : VRel m μ a v) : VRel m (renM keep μ) a' v := by
 by_cases h1 : ∃ s, a = .tup s
 ·obtain ⟨s, rfl⟩ := h1
  simp only [renA, Option.bind_eq_some_iff, Option.some.injEq] at h
  obtain ⟨x, hx, h⟩ := h
  subst h
  obtain ⟨vs, h2, h3⟩ := hv
  exact ⟨vs, h2, Q8q hx h3⟩
 ·have e : VRel m μ a v = Q1k m μ a v := by
   cases a <;> first | rfl | exact absurd ⟨_, rfl⟩ h1
  have e' : VRel m (renM keep μ) a' v = Q1k m (renM keep μ) a' v := by
   have h2 : ¬ ∃ s, a' = .tup s := fun e => h1 ((Q5F h).2.1 e)
   cases a' <;> first | rfl | exact absurd ⟨_, rfl⟩ h2
  rw [e] at hv; rw [e']
  exact Q7p h hv
def Q1R : List Nat → Bool
 | [] => true
 | a :: l => l.all (fun b => b != a) && Q1R l
theorem Q4J : ∀ {l : List Nat}, Q1R l = true → ∀ (i j x : Nat), l[i]? = some x → l[j]? = some x → i = j
 | [], _, i, j, x, hi, _ => by simp at hi
 | a :: l, h, i, j, x, hi, hj => by
  simp only [Q1R, Bool.and_eq_true, List.all_eq_true, bne_iff_ne] at h
  cases i with
  | zero =>
   cases j with
   | zero => rfl
   | succ j =>
    simp only [List.getElem?_cons_zero, Option.some.injEq, List.getElem?_cons_succ] at hi hj
    subst hi
    exact absurd rfl (h.1 _ (List.mem_of_getElem? hj))
  | succ i =>
   cases j with
   | zero =>
    simp only [List.getElem?_cons_zero, Option.some.injEq, List.getElem?_cons_succ] at hi hj
    subst hj
    exact absurd rfl (h.1 _ (List.mem_of_getElem? hi))
   | succ j =>
    simp only [List.getElem?_cons_succ] at hi hj
    rw [Q4J h.2 i j x hi hj]
def Q2X (keep : List Nat) : Nat → Bool
 | 0 => true
 | n + 1 => Q2X keep n && (keep[n]? == some n)
theorem Q7E {keep : List Nat} : ∀ {n : Nat}, Q2X keep n = true → ∀ (i : Nat), i < n → keep[i]? = some i
 | 0, _, i, hi => by omega
 | n + 1, h, i, hi => by
  simp only [Q2X, Bool.and_eq_true, beq_iff_eq] at h
  by_cases he : i = n
  ·subst he; exact h.2
  ·exact Q7E h.1 i (by omega)
theorem Q3k {np : Nat} {st : St} {keep : List Nat} (hn : Q1R keep = true) (hp : Q2X keep np = true) {m : Mem} {μ : LMap} {w : World} {a : Act} (rh : RH m μ st.H w) (rs : RS m μ st.sl a) :
  RS m (renM keep μ) (st.sl.map fun a => (renA keep a).getD .undef) a ∧ Q11 np m μ st.H w m (renM keep μ) (keep.map fun i => (st.H.getD i none).bind (renA keep)) w := by
 have look : ∀ {k : Nat} {x : AVal}, (keep.map fun i => (st.H.getD i none).bind (renA keep))[k]? = some (some x) → ∃ i y, keep[k]? = some i ∧ st.H[i]? = some (some y) ∧ renA keep y = some x := by
  intro k x hk
  rw [List.getElem?_map, Option.map_eq_some_iff] at hk
  obtain ⟨i, h1, h2⟩ := hk
  rw [Option.bind_eq_some_iff] at h2
  obtain ⟨y, h3, h4⟩ := h2
  refine ⟨i, y, h1, ?_, h4⟩
  rw [List.getD_eq_getElem?_getD] at h3
  cases hh : st.H[i]? with
  | none => rw [hh] at h3; cases h3
  | some z => rw [hh] at h3; simp only [Option.getD_some] at h3; rw [h3]
 refine ⟨⟨by simpa using rs.size, rs.defers, fun i x hx => ?_⟩, ⟨⟨rh.mem, ?_, ?_, ?_, ?_, ?_, ?_, ?_⟩, Mem.le_refl _, ?_, rfl, rfl, rfl, Nat.le_refl _, fun _ _ _ => rfl, ?_, fun _ _ h => .inl h⟩⟩
 ·rw [List.getElem?_map, Option.map_eq_some_iff] at hx
  obtain ⟨y, h1, h2⟩ := hx
  obtain ⟨v, h3, h4⟩ := rs.rel i y h1
  refine ⟨v, h3, ?_⟩
  cases hr : renA keep y with
  | none => rw [hr] at h2; subst h2; exact Q3X v
  | some z => rw [hr] at h2; simp only [Option.getD_some] at h2; subst h2; exact Q6n hr h4
 ·intro k x hk
  obtain ⟨i, y, h1, h2, h3⟩ := look hk
  obtain ⟨l, hb⟩ := rh.blk i y h2
  refine ⟨l, by simp [renM, h1, hb.loc], by rw [hb.sh, Q5X h3], ?_⟩
  rw [Q5X h3]
  rcases hb.cells with ⟨p1, p2, p3, p4⟩ | ⟨p0, gm, cs, E, fz, g1, g2, g3, g4, g5⟩
  ·exact .inl ⟨p1, p2, p3, Q3r h3 p4⟩
  ·exact .inr ⟨p0, gm, cs, E, fz, g1, g2, g3, g4, Q3r h3 g5⟩
 ·intro i j x y li lj hi hj hli hlj z1 z2 he
  obtain ⟨i', x', h1, h2, _⟩ := look hi
  obtain ⟨j', y', h3, h4, _⟩ := look hj
  simp only [renM, h1, h3, Option.bind_some] at hli hlj
  have := rh.inj i' j' x' y' li lj h2 h4 hli hlj z1 z2 he
  subst this
  exact Q4J hn i j i' h1 h3
 ·intro i hi
  simp only [List.length_map] at hi
  simp [renM, List.getElem?_eq_none hi]
 ·intro i x l hi hl hz
  obtain ⟨i', x', h1, h2, _⟩ := look hi
  simp only [renM, h1, Option.bind_some] at hl
  exact rh.typ i' x' l h2 hl hz
 ·intro i x l hi hv hl hz
  obtain ⟨i', x', h1, h2, h3⟩ := look hi
  simp only [renM, h1, Option.bind_some] at hl
  exact rh.vb i' x' l h2 (by rw [← Qd3 h3]; exact hv) hl hz
 ·intro i x l hi hl hpz
  obtain ⟨i', x', h1, h2, h3⟩ := look hi
  simp only [renM, h1, Option.bind_some] at hl
  obtain ⟨h0, kt, vt, xs, es, c, e, g1, g2⟩ := rh.mp i' x' l h2 hl hpz
  subst e
  simp only [renA, Option.some.injEq] at h3
  exact ⟨h0, kt, vt, xs, es, c, h3.symm, g1, g2⟩
 ·intro i j x y li lj hi hj pi pj hli hlj he
  obtain ⟨i', x', h1, h2, _⟩ := look hi
  obtain ⟨j', y', h3, h4, _⟩ := look hj
  simp only [renM, h1, h3, Option.bind_some] at hli hlj
  have := rh.mpi i' j' x' y' li lj h2 h4 pi pj hli hlj he
  subst this
  exact Q4J hn i j i' h1 h3
 ·intro i l hi hl
  simp [renM, Q7E hp i hi, hl]
 ·rintro b ⟨i, x, l, hi, hl, hz, he⟩ _
  obtain ⟨i', x', h1, h2, _⟩ := look hi
  simp only [renM, h1, Option.bind_some] at hl
  exact ⟨i', x', l, h2, hl, hz, he⟩
theorem Q7l {np : Nat} {st : St} {keep : List Nat} (hn : Q1R keep = true) (hp : Q2X keep np = true) :
  Q1a np st ⟨st.sl.map fun a => (renA keep a).getD .undef, keep.map fun i => (st.H.getD i none).bind (renA keep)⟩ := fun m μ w a rh rs =>
 ⟨m, renM keep μ, Q3k hn hp rh rs⟩
end Go.Am
namespace Go.Am
open Go
theorem Q6s {i : Nat} : ∀ {keep : List Nat} {k : Nat} (k0 : Nat), keep[k]? = some i → (∀ k', k' < k → keep[k']? ≠ some i) → Q1F i k0 keep = some (k0 + k)
 | [], _, _, h, _ => by simp at h
 | j :: l, 0, k0, h, _ => by
  simp only [List.getElem?_cons_zero, Option.some.injEq] at h
  subst h
  simp [Q1F]
 | j :: l, k + 1, k0, h, h2 => by
  have hj : ¬ i = j := fun e => h2 0 (by omega) (by simp [e])
  simp only [Q1F, if_neg hj]
  rw [Q6s (k0 + 1) (by simpa using h) fun k' hk => by have := h2 (k' + 1) (by omega); simpa using this]
  congr 1
  omega
theorem CRel.named {m : Mem} {μ : LMap} : ∀ {a : AVal} {cs : List Value}, CRel m μ a cs → ∀ p, p ∈ idsA a → ∃ l, μ p = some l
 | .ptr i _, _, h, p, hp => by simp only [idsA, List.mem_singleton] at hp; subst hp; obtain ⟨l, _, _, h, _⟩ := h; exact ⟨l, h⟩
 | .sl i _ _ _, _, h, p, hp => by simp only [idsA, List.mem_singleton] at hp; subst hp; obtain ⟨l, _, _, _, _, _, h, _⟩ := h; exact ⟨l, h⟩
 | .vsl i, _, h, p, hp => by simp only [idsA, List.mem_singleton] at hp; subst hp; obtain ⟨l, _, _, _, _, h, _⟩ := h; exact ⟨l, h⟩
 | .parr i _ _ _, _, h, p, hp => by simp only [idsA, List.mem_singleton] at hp; subst hp; obtain ⟨l, _, _, _, h, _⟩ := h; exact ⟨l, h⟩
 | .sfp i _ _, _, h, p, hp => by simp only [idsA, List.mem_singleton] at hp; subst hp; obtain ⟨l, _, _, h, _⟩ := h; exact ⟨l, h⟩
 | .vbs i, _, h, p, hp => by simp only [idsA, List.mem_singleton] at hp; subst hp; obtain ⟨l, _, _, _, h, _⟩ := h; exact ⟨l, h⟩
 | .mp i, _, h, p, hp => by simp only [idsA, List.mem_singleton] at hp; subst hp; obtain ⟨l, h, _⟩ := h; exact ⟨l, h⟩
 | .pair a b, _, h, p, hp => by
  simp only [idsA, List.mem_append] at hp
  rcases hp with hp | hp
  ·exact CRel.named h.1 p hp
  ·exact CRel.named h.2 p hp
 | .fn _ c, _, h, p, hp => by simp only [idsA] at hp; obtain ⟨_, _, h⟩ := h; exact CRel.named h p hp
 | .tup _, _, h, _, _ => h.elim
 | .undef, _, _, _, hp | .int _ _, _, _, _, hp | .bool _, _, _, _, hp | .str _, _, _, _, hp | .nilp, _, _, _, hp | .nils, _, _, _, hp | .ros _ _, _, _, _, hp | .rop _ _, _, _, _, hp | .arr _ _ _, _, _, _, hp
 | .vec _ _, _, _, _, hp | .unit, _, _, _, hp | .nilm, _, _, _, hp | .mpc _ _ _, _, _, _, hp => by simp [idsA] at hp
theorem Q2x {keep : List Nat} : ∀ {a : AVal}, (∀ p, p ∈ idsA a → Q1F p 0 keep = some p) → renA keep a = some a
 | .ptr i _, h | .sl i _ _ _, h | .vsl i, h | .parr i _ _ _, h | .sfp i _ _, h | .vbs i, h | .mp i, h => by simp only [renA, h i (by simp [idsA]), Option.bind_some]
 | .pair a b, h => by
  simp only [renA, Q2x (a := a) fun p hp => h p (by simp [idsA, hp]), Q2x (a := b) fun p hp => h p (by simp [idsA, hp]), Option.bind_some]
 | .fn _ c, h => by simp only [renA, Q2x (a := c) fun p hp => h p (by simpa [idsA] using hp), Option.bind_some]
 | .tup c, h => by simp only [renA, Q2x (a := c) fun p hp => h p (by simpa [idsA] using hp), Option.bind_some]
 | .undef, _ | .int _ _, _ | .bool _, _ | .str _, _ | .nilp, _ | .nils, _ | .ros _ _, _ | .rop _ _, _ | .arr _ _ _, _ | .vec _ _, _ | .unit, _ | .nilm, _ | .mpc _ _ _, _ => rfl
theorem Q5N : ∀ {a : AVal}, dryA a = true → ∀ p, p ∉ idsA a
 | .ptr _ _, h, _ | .sl _ _ _ _, h, _ | .vsl _, h, _ | .parr _ _ _ _, h, _ | .sfp _ _ _, h, _ | .vbs _, h, _ | .mp _, h, _ => by simp [dryA] at h
 | .pair a b, h, p => by
  simp only [dryA, Bool.and_eq_true] at h
  simp only [idsA, List.mem_append, not_or]
  exact ⟨Q5N h.1 p, Q5N h.2 p⟩
 | .fn _ c, h, p => by simp only [dryA] at h; simp only [idsA]; exact Q5N h p
 | .tup c, h, p => by simp only [dryA] at h; simp only [idsA]; exact Q5N h p
 | .undef, _, p | .int _ _, _, p | .bool _, _, p | .str _, _, p | .nilp, _, p | .nils, _, p | .ros _ _, _, p | .rop _ _, _, p | .arr _ _ _, _, p | .vec _ _, _, p | .unit, _, p | .nilm, _, p | .mpc _ _ _, _, p => by simp [idsA]
theorem RH.same {m : Mem} {μ : LMap} {H H2 : Heap} {w : World} (rh : RH m μ H w) (h : ∀ (i : Nat) (a : AVal), H2[i]? = some (some a) → H[i]? = some (some a)) (hd : ∀ i, H2.length ≤ i → μ i = none) : RH m μ H2 w :=
 ⟨rh.mem, fun i a hi => rh.blk i a (h i a hi), fun i j a b li lj hi hj => rh.inj i j a b li lj (h i a hi) (h j b hj), hd, fun i a l hi => rh.typ i a l (h i a hi), fun i a l hi => rh.vb i a l (h i a hi), fun i a l hi => rh.mp i a l (h i a hi), fun i j a b li lj hi hj => rh.mpi i j a b li lj (h i a hi) (h j b hj)⟩
theorem Q1q.same {μ : LMap} {H H2 : Heap} (h : ∀ (i : Nat) (a : AVal), H2[i]? = some (some a) → H[i]? = some (some a)) {b : Nat} (ho : Q1q μ H2 b) : Q1q μ H b := by
 obtain ⟨i, a, l, h1, h2⟩ := ho
 exact ⟨i, a, l, h i a h1, h2⟩
theorem QdF {np : Nat} {m m' : Mem} {μ μ' : LMap} {H : Heap} {w w' : World} {sl : List AVal} {act : Act} {b : AVal} {h : Nat} {fr : Nat → AVal} {u : Value} (rh : RH m μ H w) (rs : RS m μ sl act) (hp : Post m μ H w m' μ' (H ++ [some b]) w')
  (hd : dryA b = true) (hh : H[h]? = some none) (hμ : μ h = none) (hf : Qba fr) (hv : VRel m' μ' (fr H.length) u) :
  ∃ μ2, Q11 np m μ H w m' μ2 (H.set h (some b)) w' ∧ VRel m' μ2 (fr h) u ∧ μ.le μ2 ∧ ∀ i, i ≠ h → i < H.length → μ i = none → μ2 i = none := by
 have hlt : h < H.length := (List.getElem?_eq_some_iff.1 hh).1
 generalize hk : (List.range H.length).set h H.length = keep
 have kl : keep.length = H.length := by rw [← hk]; simp
 have kat : ∀ i : Nat, i < H.length → i ≠ h → keep[i]? = some i := by
  intro i hi hne
  rw [← hk, List.getElem?_set_ne (Ne.symm hne)]
  simp [hi]
 have kh : keep[h]? = some H.length := by rw [← hk, List.getElem?_set_self (by simpa using hlt)]
 have fat : ∀ i, i < H.length → i ≠ h → Q1F i 0 keep = some i := by
  intro i hi hne
  rw [Q6s 0 (kat i hi hne), Nat.zero_add]
  intro k' hk' e
  by_cases hkh : k' = h
  ·subst hkh; rw [kh] at e; cases e; omega
  ·rw [kat k' (by omega) hkh] at e; cases e; omega
 have fnew : Q1F H.length 0 keep = some h := by
  rw [Q6s 0 kh, Nat.zero_add]
  intro k' hk' e
  rw [kat k' (by omega) (by omega)] at e; cases e; omega
 have hnd : Q1R keep = true := by
  have : ∀ (l : List Nat), (∀ (i j x : Nat), l[i]? = some x → l[j]? = some x → i = j) → Q1R l = true := by
   intro l
   induction l with
   | nil => intro _; rfl
   | cons a l ih =>
    intro g
    simp only [Q1R, Bool.and_eq_true]
    refine ⟨?_, ih fun i j x h1 h2 => ?_⟩
    ·rw [List.all_eq_true]
     intro x hm
     rw [bne_iff_ne]
     intro e
     subst e
     obtain ⟨i, hi⟩ := List.getElem?_of_mem hm
     have := g 0 (i + 1) x (by simp) (by simpa using hi)
     omega
    ·have := g (i + 1) (j + 1) x (by simpa using h1) (by simpa using h2)
     omega
  refine this keep fun i j x h1 h2 => ?_
  have li : i < H.length := by rw [← kl]; exact (List.getElem?_eq_some_iff.1 h1).1
  have lj : j < H.length := by rw [← kl]; exact (List.getElem?_eq_some_iff.1 h2).1
  by_cases e1 : i = h
  ·by_cases e2 : j = h
   ·rw [e1, e2]
   ·subst e1; rw [kh] at h1; rw [kat j lj e2] at h2; cases h1; cases h2; omega
  ·rw [kat i li e1] at h1
   cases h1
   by_cases e2 : j = h
   ·subst e2; rw [kh] at h2; cases h2; omega
   ·rw [kat j lj e2] at h2; cases h2; rfl
 have self : ∀ (i : Nat) (a : AVal), H[i]? = some (some a) → renA keep a = some a := by
  intro i a hi
  obtain ⟨l, hb⟩ := rh.blk i a hi
  have hc : ∃ cs, CRel m μ a cs := by
   rcases hb.cells with ⟨_, _, _, h4⟩ | ⟨_, _, cs, _, _, _, _, _, _, h5⟩
   ·exact ⟨_, h4⟩
   ·exact ⟨_, h5⟩
  obtain ⟨cs, hc⟩ := hc
  refine Q2x fun p hpa => ?_
  obtain ⟨lp, hlp⟩ := hc.named p hpa
  refine fat p ?_ fun e => by subst e; rw [hμ] at hlp; cases hlp
  rcases Nat.lt_or_ge p H.length with g | g
  ·exact g
  ·rw [rh.dom p g] at hlp; cases hlp
 obtain ⟨_, pw⟩ := Q3k (np := 0) (st := ⟨sl, H ++ [some b]⟩) hnd rfl hp.rh (rs.mono hp.ml hp.μl)
 have hH : (keep.map fun i => ((H ++ [some b]).getD i none).bind (renA keep)) = H.set h (some b) := by
  apply List.ext_getElem?
  intro i
  rw [List.getElem?_map]
  rcases Nat.lt_or_ge i H.length with g | g
  ·by_cases e : i = h
   ·subst e
    rw [kh, List.getElem?_set_self g]
    simp only [Option.map_some]
    rw [List.getD_eq_getElem?_getD, List.getElem?_append_right (Nat.le_refl _)]
    simp [Q2x (keep := keep) (a := b) fun p hpb => absurd hpb (Q5N hd p)]
   ·rw [kat i g e, List.getElem?_set_ne (Ne.symm e)]
    simp only [Option.map_some]
    rw [List.getD_eq_getElem?_getD, List.getElem?_append_left g]
    cases hi : H[i]? with
    | none => rw [List.getElem?_eq_none_iff] at hi; omega
    | some x =>
     cases x with
     | none => rfl
     | some a => simp [self i a hi]
  ·rw [List.getElem?_eq_none (by omega), List.getElem?_eq_none (by simpa using g)]
   rfl
 dsimp only at pw
 rw [hH] at pw
 have look : ∀ i, i < H.length → i ≠ h → renM keep μ' i = μ' i := fun i hi hne => by simp [renM, kat i hi hne]
 have le2 : μ.le (renM keep μ') := by
  intro i l hl
  have hi : i < H.length := by
   rcases Nat.lt_or_ge i H.length with g | g
   ·exact g
   ·rw [rh.dom i g] at hl; cases hl
  rw [look i hi (fun e => by subst e; rw [hμ] at hl; cases hl)]
  exact hp.μl i l hl
 refine ⟨renM keep μ', ⟨pw.rh, hp.ml, fun i l _ hl => le2 i l hl, hp.os, hp.tape, hp.output, hp.size, hp.keep, fun b' ho hb => ?_, hp.mgrow⟩, ?_, le2, fun i hne hi hn => ?_⟩
 ·exact hp.grow b' (pw.grow b' ho (Nat.lt_of_lt_of_le hb hp.size)) hb
 ·refine Q6n ?_ hv
  rcases hf with rfl | rfl | rfl
  ·simp only [renA, fnew, Option.bind_some]
  ·simp only [renA, fnew, Option.bind_some]
  ·simp only [renA, fnew, Option.bind_some]
 ·rw [look i hi hne]; exact hp.hol.2 i hi hn
end Go.Am
namespace Go.Am
open Go
def Eff.loud : Eff → Bool
 | .push _ _ => true
 | .touch _ _ => true
 | .wr _ => true
 | .mut => true
 | _ => false
def Eff.hard : Eff → Bool
 | .touch _ _ => true
 | .mut => true
 | _ => false
def Eff.spot : Eff → Option Nat
 | .push n _ => some n
 | .wr id => some id
 | _ => none
def Eff.spares (id : Nat) : Eff → Prop
 | .push n _ => id ≠ n
 | .touch n ts => id < n ∧ id ∉ ts
 | .wr a => id ≠ a
 | .mut => False
 | _ => True
theorem Q48 {i : Nat} : ∀ {l : List Nat}, inB i l = false → i ∉ l
 | [], _ => by simp
 | j :: l, h => by
  simp only [inB] at h
  cases hb : Nat.beq i j with
  | true => rw [hb] at h; cases h
  | false =>
   rw [hb] at h
   intro hm
   rcases List.mem_cons.1 hm with rfl | hm
   ·rw [Nat.beq_refl] at hb; cases hb
   ·exact Q48 h hm
theorem Eff.quiet_spares {e : Eff} {id : Nat} (h : e.loud = false) : e.spares id := by cases e <;> first | trivial | (cases h; done)
theorem Eff.spot_not {e : Eff} {id : Nat} (h : e.spot = some id) : ¬ e.spares id := by
 cases e <;> simp only [Eff.spot, Option.some.injEq] at h <;> first | (cases h; done) | skip
 all_goals subst h; intro g; exact g rfl
theorem Eff.soft_spares {e : Eff} {id : Nat} (hs : e.hard = false) (h : e.spot ≠ some id) : e.spares id := by
 cases e <;> first | trivial | (cases hs; done) | skip
 all_goals intro g; exact h (by rw [g]; rfl)
theorem Eff.spot_loud {e : Eff} {id : Nat} (h : e.spot = some id) : e.loud = true := by cases e <;> first | rfl | (cases h; done)
theorem eff1 {e : Eff} {ids : List Nat} {id : Nat} (h : Q1C e (.read ids) = true) (hi : id ∈ ids) : e.spares id := by
 cases e with
 | pure => trivial
 | read _ => trivial
 | push n l => simp only [Q1C, Bool.not_eq_true'] at h; intro e; subst e; exact Q48 h hi
 | touch n l => simp only [Q1C, List.all_eq_true] at h; simpa [Eff.spares] using h id hi
 | wr a => simp only [Q1C, Bool.not_eq_true'] at h; intro e; subst e; exact Q48 h hi
 | «mut» => cases h
theorem eff2 {e : Eff} {ids : List Nat} {id : Nat} (h : Q1C (.read ids) e = true) (hi : id ∈ ids) : e.spares id := by
 cases e with
 | pure => trivial
 | read _ => trivial
 | push n l => simp only [Q1C, Bool.not_eq_true'] at h; intro e; subst e; exact Q48 h hi
 | touch n l => simp only [Q1C, List.all_eq_true] at h; simpa [Eff.spares] using h id hi
 | wr a => simp only [Q1C, Bool.not_eq_true'] at h; intro e; subst e; exact Q48 h hi
 | «mut» => cases h
theorem eff3 {e : Eff} {ids : List Nat} {id n : Nat} (h : Q1C e (.push n ids) = true) (hi : id ∈ ids) : e.spares id := by
 cases e with
 | pure => trivial
 | read _ => trivial
 | push n l => simp only [Q1C, Bool.and_eq_true, Bool.not_eq_true'] at h; intro e; subst e; exact Q48 h.1 hi
 | touch n l => cases h
 | wr a => simp only [Q1C, Bool.and_eq_true, Bool.not_eq_true'] at h; intro e; subst e; exact Q48 h.2 hi
 | «mut» => cases h
theorem eff4 {e : Eff} {ids : List Nat} {id n : Nat} (h : Q1C (.push n ids) e = true) (hi : id ∈ ids) : e.spares id := by
 cases e with
 | pure => trivial
 | read _ => trivial
 | push n l => simp only [Q1C, Bool.and_eq_true, Bool.not_eq_true'] at h; intro e; subst e; exact Q48 h.2 hi
 | touch n l => cases h
 | wr a => simp only [Q1C, Bool.and_eq_true, Bool.not_eq_true'] at h; intro e; subst e; exact Q48 h.2 hi
 | «mut» => cases h
theorem Q8c {a b : Nat} (h : Nat.beq a b = false) : a ≠ b := fun e => by subst e; rw [Nat.beq_refl] at h; cases h
theorem eff5 {e : Eff} {id : Nat} (h : Q1C e (.wr id) = true) : e.spares id := by
 cases e with
 | pure => trivial
 | read _ => trivial
 | push n l => simp only [Q1C, Bool.and_eq_true, Bool.not_eq_true'] at h; exact Ne.symm (Q8c h.1)
 | touch n l => cases h
 | wr a => simp only [Q1C, Bool.not_eq_true'] at h; exact Ne.symm (Q8c h)
 | «mut» => cases h
theorem eff6 {e : Eff} {id : Nat} (h : Q1C (.wr id) e = true) : e.spares id := by
 cases e with
 | pure => trivial
 | read _ => trivial
 | push n l => simp only [Q1C, Bool.and_eq_true, Bool.not_eq_true'] at h; exact Ne.symm (Q8c h.1)
 | touch n l => cases h
 | wr a => simp only [Q1C, Bool.not_eq_true'] at h; exact Q8c h
 | «mut» => cases h
theorem eff7 {n id : Nat} {ids : List Nat} (h : Q1C (.push n ids) (.wr id) = true) : id ≠ n := by
 simp only [Q1C, Bool.and_eq_true, Bool.not_eq_true'] at h
 exact Ne.symm (Q8c h.1)
theorem Qdl {e e' : Eff} (h : Q1C e e' = true) (hl : e.hard = true) (hl' : e'.loud = true) : False := by
 cases e <;> cases e' <;> simp_all [Eff.loud, Eff.hard, Q1C]
theorem QdK {e e' : Eff} (h : Q1C e e' = true) (hl : e.loud = true) (hl' : e'.hard = true) : False := by
 cases e <;> cases e' <;> simp_all [Eff.loud, Eff.hard, Q1C]
structure Q4c (ops : Array Oper) (S : Nat → St) (V : Nat → AVal) (E : Nat → Eff) (B : List Nat) : Prop where
 bits : QaQ ops.toList B ops.size
 on : ∀ j o, ops[j]? = some o → ∀ x, x ∈ o.after → Region.binds .any x = true → x.on < j
 pair : ∀ i j o1 o, i < j → ops[i]? = some o1 → ops[j]? = some o → (B.getD j 0).testBit i = true ∨ (o1.apart ops o = true ∧ Q1C (E i) (E j) = true)
theorem QbJ {ops : Array Oper} {S : Nat → St} {V : Nat → AVal} {E : Nat → Eff} (h : Q5D ops [] [] 0 (befL ops.toList []) ops.toList ((List.range ops.size).map E) = true) : Q4c ops S V E (befL ops.toList []) := by
 have hb := Qbk ops.toList [] [] rfl (fun j o i hj _ _ => by simp at hj)
 simp only [List.nil_append, Array.length_toList] at hb
 have hs := Q6S (seen := []) (seenE := []) h rfl
 have hE : ∀ j, j < ops.size → ((List.range ops.size).map E)[j]? = some (E j) := fun j hj => by simp [hj]
 have hsz : ∀ j o, ops[j]? = some o → j < ops.size := fun j o h => (Array.getElem?_eq_some_iff.1 h).1
 refine ⟨hb.1, fun j o ho x hx hbx => ?_, fun i j o1 o hij ho1 ho => ?_⟩
 ·have := (hs j o (E j) (by simpa using ho) (hE j (hsz j o ho))).1 x (by simpa using hx) hbx
  simpa using this
 ·exact (hs j o (E j) (by simpa using ho) (hE j (hsz j o ho))).2 i o1 (E i) (by simpa using hij) (by simpa using ho1) (hE i (hsz i o1 ho1))
section
variable {P : Program} {ops : Array Oper} {S : Nat → St} {V : Nat → AVal} {E : Nat → Eff} {B : List Nat}
def Down (ops : Array Oper) (D : Nat → Bool) : Prop := ∀ j o, ops[j]? = some o → D j = true → ∀ e, e ∈ o.after → Region.binds .any e = true → D e.on = true
theorem Q4c.before (hd : Q4c ops S V E B) {D : Nat → Bool} (hD : Down ops D) : ∀ (j : Nat) {o : Oper}, ops[j]? = some o → (∀ e, e ∈ o.after → Region.binds .any e = true → D e.on = true) →
  ∀ i, (B.getD j 0).testBit i = true → D i = true := by
 intro j
 induction j using Nat.strongRecOn with
 | _ j ih =>
  intro o ho hall i hb
  have hsz := (Array.getElem?_eq_some_iff.1 ho).1
  obtain ⟨e, h1, h2, h3⟩ := hd.bits j o i hsz (by simpa using ho) hb
  have h1' : e ∈ o.after := by simpa using h1
  have h4 := hall e h1' h2
  rcases h3 with h3 | ⟨h3, h5⟩
  ·rw [← h3]; exact h4
  ·obtain ⟨o2, ho2⟩ : ∃ o2, ops[e.on]? = some o2 := ⟨ops[e.on]'(by omega), by simp [show e.on < ops.size by omega]⟩
   exact ih e.on h3 ho2 (fun e' he' hb' => hD e.on o2 ho2 h4 e' he' hb') i h5
def Q2Y (ops : Array Oper) (j : Nat) : Option Nat := (ops[j]?).bind (·.dst)
theorem Q4c.free (hd : Q4c ops S V E B) {D : Nat → Bool} (hD : Down ops D) {j : Nat} {o : Oper} (ho : ops[j]? = some o) (hj : D j = false) (hall : ∀ e, e ∈ o.after → Region.binds .any e = true → D e.on = true)
  {i : Nat} {o1 : Oper} (hi : ops[i]? = some o1) :
  (i < j → D i = false → o1.apart ops o = true ∧ Q1C (E i) (E j) = true) ∧ (j < i → D i = true → o.apart ops o1 = true ∧ Q1C (E j) (E i) = true) := by
 refine ⟨fun hlt hn => ?_, fun hlt hy => ?_⟩
 ·rcases hd.pair i j o1 o hlt hi ho with h | h
  ·have := hd.before hD j ho hall i h; rw [hn] at this; cases this
  ·exact h
 ·rcases hd.pair j i o o1 hlt ho hi with h | h
  ·have := hd.before hD i hi (fun e he hb => hD i o1 hi hy e he hb) j h; rw [hj] at this; cases this
  ·exact h
theorem Q5z (hc : Q1I P ops 0 ops.toList S V E) {j : Nat} (hj : j < ops.size) : Stp P ops j ops[j] (S j).sl (S j).H (V j) (S (j + 1)).H (E j) := by
 have := (hc j (ops[j]) (by simp [hj])).1
 rwa [Nat.zero_add] at this
theorem Qdu (hc : Q1I P ops 0 ops.toList S V E) {j : Nat} (hj : j < ops.size) (h : (E j).loud = false) : (S (j + 1)).H = (S j).H := by
 have h1 := Q5z hc hj
 cases hE : E j with
 | pure => rw [hE] at h1; exact h1.1
 | read ids => rw [hE] at h1; exact h1.1
 | push n ids => rw [hE] at h; cases h
 | touch n ts => rw [hE] at h; cases h
 | wr id => rw [hE] at h; cases h
 | «mut» => rw [hE] at h; cases h
theorem Qc5 (hc : Q1I P ops 0 ops.toList S V E) {j : Nat} (hj : j < ops.size) (h : (E j).hard = false) : (S j).H.length ≤ (S (j + 1)).H.length := by
 have h1 := Q5z hc hj
 cases hE : E j with
 | pure => rw [hE] at h1; rw [h1.1]; exact Nat.le_refl _
 | read ids => rw [hE] at h1; rw [h1.1]; exact Nat.le_refl _
 | push n ids => rw [hE] at h1; obtain ⟨_, b, fr, _, _, _, h2, _⟩ := h1; rw [h2]; simp
 | touch n ts => rw [hE] at h; cases h
 | wr id => rw [hE] at h1; obtain ⟨_, c, h2, _⟩ := h1; rw [h2]; simp
 | «mut» => rw [hE] at h; cases h
theorem Q1M (hc : Q1I P ops 0 ops.toList S V E) {a b : Nat} (hab : a ≤ b) (hb : b ≤ ops.size) (h : ∀ i, a ≤ i → i < b → (E i).hard = false) : (S a).H.length ≤ (S b).H.length := by
 induction b with
 | zero => rw [show a = 0 by omega]; exact Nat.le_refl _
 | succ b ih =>
  by_cases he : a = b + 1
  ·rw [he]; exact Nat.le_refl _
  ·exact Nat.le_trans (ih (by omega) (by omega) fun i h1 h2 => h i h1 (by omega)) (Qc5 hc (by omega) (h b (by omega) (by omega)))
theorem Q70 (hc : Q1I P ops 0 ops.toList S V E) {j id : Nat} (hj : j < ops.size) (h : (E j).spares id) : (S (j + 1)).H[id]? = (S j).H[id]? := by
 have h1 := Q5z hc hj
 cases hE : E j with
 | pure => rw [hE] at h1; rw [h1.1]
 | read ids => rw [hE] at h1; rw [h1.1]
 | push n ids =>
  rw [hE] at h1 h
  obtain ⟨h2, b, fr, _, _, _, h3, _⟩ := h1
  have h : id ≠ n := h
  rw [h3]
  rcases Nat.lt_or_ge id (S j).H.length with g | g
  ·rw [List.getElem?_append_left g]
  ·rw [List.getElem?_eq_none g, List.getElem?_eq_none (by simp; omega)]
 | touch n ts => rw [hE] at h1 h; exact h1.1 id h.1 h.2
 | wr a =>
  rw [hE] at h1 h
  obtain ⟨_, c, h2, _⟩ := h1
  have h : id ≠ a := h
  rw [h2, List.getElem?_set_ne (Ne.symm h)]
 | «mut» => rw [hE] at h; exact h.elim
theorem Q8w (hc : Q1I P ops 0 ops.toList S V E) {id a b : Nat} (hab : a ≤ b) (hb : b ≤ ops.size) (h : ∀ i, a ≤ i → i < b → (E i).spares id) : (S b).H[id]? = (S a).H[id]? := by
 induction b with
 | zero => rw [show a = 0 by omega]
 | succ b ih =>
  by_cases he : a = b + 1
  ·rw [he]
  ·rw [← ih (by omega) (by omega) fun i h1 h2 => h i h1 (by omega)]
   exact Q70 hc (by omega) (h b (by omega) (by omega))
def valF (S : Nat → St) (E : Nat → Eff) (D : Nat → Bool) (l : Nat) : Nat → Nat → Option AVal
 | 0, id => (S l).H.getD id none
 | k + 1, id => if D (l + k) = true ∧ (E (l + k)).spot = some id then (S (l + k + 1)).H.getD id none else valF S E D l k id
theorem Q1L {D D' : Nat → Bool} {l id : Nat} : ∀ k, (∀ i, l ≤ i → i < l + k → (E i).spot = some id → D i = D' i) → valF S E D l k id = valF S E D' l k id
 | 0, _ => rfl
 | k + 1, h => by
  simp only [valF]
  rw [Q1L k fun i h1 h2 => h i h1 (by omega)]
  by_cases hs : (E (l + k)).spot = some id
  ·rw [h (l + k) (by omega) (by omega) hs]
  ·rw [if_neg (fun g => hs g.2), if_neg (fun g => hs g.2)]
theorem Qbn {H H2 : Heap} {id : Nat} (h : H[id]? = H2[id]?) : H.getD id none = H2.getD id none := by
 rw [List.getD_eq_getElem?_getD, List.getD_eq_getElem?_getD, h]
theorem Q2y (hc : Q1I P ops 0 ops.toList S V E) {l j id : Nat} (hj : l ≤ j) : ∀ k, l + k ≤ ops.size → (∀ i, l ≤ i → i < l + k → (E i).hard = false) → valF S E (fun i => decide (i < j)) l k id = (S (min j (l + k))).H.getD id none
 | 0, _, _ => by rw [show min j (l + 0) = l by omega]; rfl
 | k + 1, hk, hs => by
  have ih := Q2y hc hj (id := id) k (by omega) fun i h1 h2 => hs i h1 (by omega)
  simp only [valF]
  by_cases hlt : l + k < j
  ·rw [show min j (l + (k + 1)) = l + k + 1 by omega]
   by_cases hsp : (E (l + k)).spot = some id
   ·rw [if_pos ⟨decide_eq_true hlt, hsp⟩]
   ·rw [if_neg (fun g => hsp g.2), ih, show min j (l + k) = l + k by omega]
    exact Qbn (Q70 hc (by omega) (Eff.soft_spares (hs (l + k) (by omega) (by omega)) hsp)).symm
  ·rw [if_neg (fun g => hlt (of_decide_eq_true g.1)), ih, show min j (l + k) = min j (l + (k + 1)) by omega]
theorem Q9T {D : Nat → Bool} {l j id : Nat} (hj : l ≤ j) (hs : (E j).spot = some id) : ∀ k, j < l + k → (∀ i, j < i → i < l + k → D i = true → (E i).spot ≠ some id) →
  valF S E (fun i => D i || i == j) l k id = (S (j + 1)).H.getD id none
 | 0, hk, _ => by omega
 | k + 1, hk, hno => by
  simp only [valF]
  by_cases e : j = l + k
  ·subst e
   rw [if_pos ⟨by simp, hs⟩]
  ·have hne : ¬ ((D (l + k) || l + k == j) = true ∧ (E (l + k)).spot = some id) := by
    rintro ⟨g1, g2⟩
    simp only [Bool.or_eq_true, beq_iff_eq] at g1
    rcases g1 with g1 | g1
    ·exact hno (l + k) (by omega) (by omega) g1 g2
    ·omega
   rw [if_neg hne]
   exact Q9T hj hs k (by omega) fun i h1 h2 => hno i h1 (by omega)
def hF (S : Nat → St) (E : Nat → Eff) (D : Nat → Bool) (l k N : Nat) : Heap := (List.range N).map (valF S E D l k)
theorem Q3K (D : Nat → Bool) (l k N : Nat) : (hF S E D l k N).length = N := by unfold hF; simp
theorem Q5w (D : Nat → Bool) (l k : Nat) {N id : Nat} (h : id < N) : (hF S E D l k N)[id]? = some (valF S E D l k id) := by
 unfold hF; simp [h]
theorem Qdm {D : Nat → Bool} {l k N : Nat} {H : Heap} (hl : H.length = N) (h : ∀ id, id < N → valF S E D l k id = H.getD id none) : hF S E D l k N = H := by
 apply List.ext_getElem?
 intro i
 rcases Nat.lt_or_ge i N with g | g
 ·rw [Q5w _ _ _ g, h i g, List.getD_eq_getElem?_getD]
  have : i < H.length := by omega
  simp [this]
 ·rw [List.getElem?_eq_none (by rw [Q3K]; exact g), List.getElem?_eq_none (by omega)]
theorem QcZ {D : Nat → Bool} {l k N i : Nat} {a : AVal} (h : (hF S E D l k N)[i]? = some (some a)) : i < N ∧ valF S E D l k i = some a := by
 have hi : i < N := by have := (List.getElem?_eq_some_iff.1 h).1; rwa [Q3K] at this
 rw [Q5w _ _ _ hi] at h
 exact ⟨hi, Option.some.inj h⟩
structure At (ops : Array Oper) (S : Nat → St) (V : Nat → AVal) (E : Nat → Eff) (D : Nat → Bool) (l hi : Nat) (m : Mem) (μ : LMap) (a : Act) (w : World) : Prop where
 down : Down ops D
 le : l ≤ hi
 le2 : hi ≤ ops.size
 lo : ∀ i, i < l → (E i).loud = true → D i = true
 soft : ∀ i, l ≤ i → i < hi → (E i).hard = false
 top : ∀ i, hi ≤ i → i < ops.size → (E i).loud = true → D i = false
 stop : hi = ops.size ∨ (hi < ops.size ∧ (E hi).hard = true)
 rh : RH m μ (hF S E D l (hi - l) (S hi).H.length) w
 hole : ∀ i n ids, l ≤ i → i < hi → D i = false → E i = .push n ids → μ n = none
 len0 : (S 0).H.length ≤ (S l).H.length
 rs : RS m μ (slF V (Q2Y ops) D (S 0).sl ops.size) a
theorem Q93 (hc : Q1I P ops 0 ops.toList S V E) (j : Nat) (hj : j ≤ ops.size) : slF V (Q2Y ops) (fun i => decide (i < j)) (S 0).sl ops.size = (S j).sl := by
 have := Qa3 (V := V) (dst := Q2Y ops) (S := S) (n := ops.size) (fun j hj => by
  have := (hc j (ops[j]'hj) (by simp [hj])).2.1
  simpa [Q2Y, hj] using this) j hj ops.size (Nat.le_refl _)
 rw [this, show min ops.size j = j by omega]
theorem At.sees (hc : Q1I P ops 0 ops.toList S V E) {D : Nat → Bool} {l hi : Nat} {m : Mem} {μ : LMap} {a : Act} {w : World} (h : At ops S V E D l hi m μ a w) {j id : Nat} (hj : j < ops.size) (hD : D j = false)
  (hid : id < (S j).H.length) (hb : ∀ i, i < j → D i = false → (E i).spares id) (ha : ∀ i, j < i → i < ops.size → D i = true → (E i).spares id) :
  (hF S E D l (hi - l) (S hi).H.length)[id]? = (S j).H[id]? := by
 have hle := h.le
 have hle2 := h.le2
 have e0 : l + (hi - l) = hi := by omega
 have fin : ∀ {q : Nat}, (S q).H[id]? = (S j).H[id]? → id < (S hi).H.length → valF S E D l (hi - l) id = (S q).H.getD id none → (hF S E D l (hi - l) (S hi).H.length)[id]? = (S j).H[id]? := by
  intro q h1 h2 h3
  rw [Q5w _ _ _ h2, h3, Qbn h1, List.getD_eq_getElem?_getD]
  simp [hid]
 have lenof : ∀ {q : Nat}, (S q).H[id]? = (S j).H[id]? → id < (S q).H.length := by
  intro q h1
  rcases Nat.lt_or_ge id (S q).H.length with g | g
  ·exact g
  ·rw [List.getElem?_eq_none g] at h1
   have := List.getElem?_eq_none_iff.1 h1.symm
   omega
 by_cases c1 : j < l
 ·have r : (S l).H[id]? = (S j).H[id]? := Q8w hc (by omega) (by omega) fun i h1 h2 => by
   cases hl : (E i).loud with
   | false => exact Eff.quiet_spares hl
   | true =>
    have hDi := h.lo i h2 hl
    have hne : i ≠ j := fun e => by subst e; rw [hD] at hDi; cases hDi
    exact ha i (by omega) (by omega) hDi
  refine fin r (Nat.lt_of_lt_of_le (lenof r) (Q1M hc hle hle2 h.soft)) ?_
  rw [Q1L (D' := fun i => decide (i < l)) (hi - l) fun i h1 h2 hs => ?_, Q2y hc (Nat.le_refl l) (hi - l) (by omega) (fun i h1 h2 => h.soft i h1 (by omega)), show min l (l + (hi - l)) = l by omega]
  rw [decide_eq_false (by omega)]
  cases hDi : D i with
  | false => rfl
  | true => exact absurd (ha i (by omega) (by omega) hDi) (Eff.spot_not hs)
 ·by_cases c2 : j < hi
  ·refine fin rfl (Nat.lt_of_lt_of_le hid (Q1M hc (by omega) hle2 fun i h1 h2 => h.soft i (by omega) h2)) ?_
   rw [Q1L (D' := fun i => decide (i < j)) (hi - l) fun i h1 h2 hs => ?_, Q2y hc (by omega) (hi - l) (by omega) (fun i h1 h2 => h.soft i h1 (by omega)), show min j (l + (hi - l)) = j by omega]
   by_cases e1 : i < j
   ·rw [decide_eq_true e1]
    cases hDi : D i with
    | true => rfl
    | false => exact absurd (hb i e1 hDi) (Eff.spot_not hs)
   ·rw [decide_eq_false e1]
    by_cases e2 : i = j
    ·rw [e2]; exact hD
    ·cases hDi : D i with
     | false => rfl
     | true => exact absurd (ha i (by omega) (by omega) hDi) (Eff.spot_not hs)
  ·have r : (S j).H[id]? = (S hi).H[id]? := Q8w hc (by omega) (by omega) fun i h1 h2 => by
    cases hl : (E i).loud with
    | false => exact Eff.quiet_spares hl
    | true => exact hb i h2 (h.top i h1 (by omega) hl)
   refine fin r.symm (lenof r.symm) ?_
   rw [Q1L (D' := fun i => decide (i < hi)) (hi - l) fun i h1 h2 hs => ?_, Q2y hc hle (hi - l) (by omega) (fun i h1 h2 => h.soft i h1 (by omega)), show min hi (l + (hi - l)) = hi by omega]
   rw [decide_eq_true (by omega)]
   cases hDi : D i with
   | true => rfl
   | false => exact absurd (hb i (by omega) hDi) (Eff.spot_not hs)
theorem Q6w (E : Nat → Eff) {n : Nat} : ∀ (d a : Nat), a + d = n → ∃ hi, a ≤ hi ∧ hi ≤ n ∧ (∀ i, a ≤ i → i < hi → (E i).hard = false) ∧ (hi = n ∨ (hi < n ∧ (E hi).hard = true))
 | 0, a, h => ⟨a, Nat.le_refl _, by omega, fun i h1 h2 => by omega, .inl (by omega)⟩
 | d + 1, a, h => by
  cases hE : (E a).hard with
  | true => exact ⟨a, Nat.le_refl _, by omega, fun i h1 h2 => by omega, .inr ⟨by omega, hE⟩⟩
  | false =>
   obtain ⟨hi, h1, h2, h3, h4⟩ := Q6w E (n := n) d (a + 1) (by omega)
   refine ⟨hi, by omega, h2, fun i g1 g2 => ?_, h4⟩
   by_cases e : i = a
   ·rw [e]; exact hE
   ·exact h3 i (by omega) g2
theorem Qcj (hc : Q1I P ops 0 ops.toList S V E) {D : Nat → Bool} {l hi : Nat} (hle : l ≤ hi) (hle2 : hi ≤ ops.size) (hs : ∀ i, l ≤ i → i < hi → (E i).hard = false) (hD : ∀ i, l ≤ i → i < hi → (E i).loud = true → D i = false) :
  (∀ (i : Nat) (a : AVal), (hF S E D l (hi - l) (S hi).H.length)[i]? = some (some a) → (S l).H[i]? = some (some a)) ∧ (S l).H.length ≤ (hF S E D l (hi - l) (S hi).H.length).length ∧
  ∀ i n ids, l ≤ i → i < hi → E i = .push n ids → (S l).H.length ≤ n := by
 refine ⟨fun i a h => ?_, by rw [Q3K]; exact Q1M hc hle hle2 hs, fun i n ids h1 h2 hE => ?_⟩
 ·obtain ⟨_, h2⟩ := QcZ h
  rw [Q1L (D' := fun i => decide (i < l)) (hi - l) fun i h1 h2 hsp => ?_, Q2y hc (Nat.le_refl l) (hi - l) (by omega) (fun i h1 h2 => hs i h1 (by omega)), show min l (l + (hi - l)) = l by omega, List.getD_eq_getElem?_getD] at h2
  ·cases hx : (S l).H[i]? with
   | none => rw [hx] at h2; cases h2
   | some x => rw [hx] at h2; simp only [Option.getD_some] at h2; rw [h2]
  ·rw [decide_eq_false (by omega)]
   exact hD i h1 (by omega) (Eff.spot_loud hsp)
 ·have h3 := Q5z hc (j := i) (by omega)
  rw [hE] at h3
  rw [h3.1]
  exact Q1M hc h1 (by omega) fun k g1 g2 => hs k g1 (by omega)
theorem At.hard (hc : Q1I P ops 0 ops.toList S V E) {D : Nat → Bool} {l hi : Nat} {m : Mem} {μ : LMap} {a : Act} {w : World} (h : At ops S V E D l hi m μ a w) {j : Nat} {o : Oper} (hlt : j < ops.size)
  (hj : D j = false) (hh : (E j).hard = true) (hdown : Down ops (fun i => D i || i == j)) (fb : ∀ i, i < j → D i = false → Q1C (E i) (E j) = true)
  (rsput : ∀ {u : Value} {m' : Mem} {μ' : LMap}, m.le m' → μ.le μ' → VRel m' μ' (V j) u → RS m' μ' (slF V (Q2Y ops) (fun i => D i || i == j) (S 0).sl ops.size) (a.put o.dst u))
  {Q : Exit → Act → World → Prop} {K : Act → World → Prop}
  (hK : ∀ a' w' m' μ' l' hi', At ops S V E (fun i => D i || i == j) l' hi' m' μ' a' w' →
   Q11 (S 0).H.length m μ (hF S E D l (hi - l) (S hi).H.length) w m' μ' (hF S E (fun i => D i || i == j) l' (hi' - l') (S hi').H.length) w' →
   (∀ i, i < (S 0).H.length → μ i = none → μ' i = none) → K a' w')
  (hop : OpOK P ops j o (slF V (Q2Y ops) D (S 0).sl ops.size) (S j).H (V j) (S (j + 1)).H) : wpOp P ops Q j K a w := by
 have hle := h.le
 have hle2 := h.le2
 have hl : (E j).loud = true := by cases hE : E j <;> rw [hE] at hh <;> first | rfl | (cases hh; done)
 have e1 : hi = j := by
  have h1 : l ≤ j := by
   rcases Nat.lt_or_ge j l with g | g
   ·have := h.lo j g hl; rw [hj] at this; cases this
   ·exact g
  have h2 : hi ≤ j := by
   rcases Nat.lt_or_ge j hi with g | g
   ·have := h.soft j h1 g; rw [hh] at this; cases this
   ·exact g
  rcases Nat.lt_or_ge hi j with g | g
  ·exfalso
   rcases h.stop with g2 | ⟨g2, g3⟩
   ·omega
   ·have hl2 : (E hi).loud = true := by cases hE : E hi <;> rw [hE] at g3 <;> first | rfl | (cases g3; done)
    exact Qdl (fb hi g (h.top hi (Nat.le_refl _) g2 hl2)) g3 hl
  ·omega
 subst e1
 have alld : ∀ i, i < hi → (E i).loud = true → D i = true := by
  intro i h1 h2
  cases hDi : D i with
  | true => rfl
  | false => exact (QdK (fb i h1 hDi) h2 hh).elim
 have hHD : hF S E D l (hi - l) (S hi).H.length = (S hi).H := Qdm rfl fun id _ => by
  rw [Q1L (D' := fun i => decide (i < hi)) (hi - l) fun i h1 h2 hs => ?_, Q2y hc hle (hi - l) (by omega) (fun i h1 h2 => h.soft i h1 (by omega)), show min hi (l + (hi - l)) = hi by omega]
  rw [decide_eq_true (by omega)]
  exact alld i (by omega) (Eff.spot_loud hs)
 have rh' : RH m μ (S hi).H w := hHD ▸ h.rh
 refine hop m μ w a Q K rh' h.rs fun u w' m' μ' hv hp => ?_
 obtain ⟨hi', g1, g2, g3, g4⟩ := Q6w E (n := ops.size) (ops.size - (hi + 1)) (hi + 1) (by omega)
 have hDn : ∀ i, hi + 1 ≤ i → i < ops.size → (E i).loud = true → (D i || i == hi) = false := by
  intro i h1 h2 h3
  rw [h.top i (by omega) h2 h3, Bool.false_or, beq_eq_false_iff_ne]
  omega
 have pad := Qcj hc (D := fun i => D i || i == hi) g1 g2 g3 fun i h1 h2 h3 => hDn i h1 (by omega) h3
 have rhp := hp.rh.same pad.1 fun i hi => hp.rh.dom i (Nat.le_trans pad.2.1 hi)
 have hlen : (S 0).H.length ≤ (S hi).H.length := Nat.le_trans h.len0 (Q1M hc hle hle2 h.soft)
 refine hK _ _ _ _ (hi + 1) hi' ⟨hdown, g1, g2, fun i h1 h2 => ?_, g3, fun i h1 h2 h3 => hDn i (by omega) h2 h3, g4, rhp, fun i n ids h1 h2 _ h4 => hp.rh.dom n (pad.2.2 i n ids h1 h2 h4), Nat.le_trans hlen hp.hol.1, rsput hp.ml hp.μl hv⟩ ?_ fun i h1 h2 => hp.hol.2 i (by omega) h2
 ·simp only [Bool.or_eq_true, beq_iff_eq]
  rcases Nat.lt_or_ge i hi with q | q
  ·exact .inl (alld i q h2)
  ·exact .inr (by omega)
 ·rw [hHD]
  exact ⟨rhp, hp.ml, fun i l _ hl => hp.μl i l hl, hp.os, hp.tape, hp.output, hp.size, hp.keep, fun b ho hb => hp.grow b (Q1q.same pad.1 ho) hb, hp.mgrow⟩
theorem At.step (hc : Q1I P ops 0 ops.toList S V E) (hd : Q4c ops S V E B) {D : Nat → Bool} {l hi : Nat} {m : Mem} {μ : LMap} {a : Act} {w : World} (h : At ops S V E D l hi m μ a w) {j : Nat} {o : Oper} (ho : ops[j]? = some o)
  (hj : D j = false) (hall : ∀ e, e ∈ o.after → Region.binds .any e = true → D e.on = true) {Q : Exit → Act → World → Prop} {K : Act → World → Prop}
  (hK : ∀ a' w' m' μ' l' hi', At ops S V E (fun i => D i || i == j) l' hi' m' μ' a' w' →
   Q11 (S 0).H.length m μ (hF S E D l (hi - l) (S hi).H.length) w m' μ' (hF S E (fun i => D i || i == j) l' (hi' - l') (S hi').H.length) w' →
   (∀ i, i < (S 0).H.length → μ i = none → μ' i = none) → K a' w') : wpOp P ops Q j K a w := by
 have hlt : j < ops.size := (Array.getElem?_eq_some_iff.1 ho).1
 obtain ⟨hs, hsl, hwi⟩ := hc j o (by simpa using ho)
 rw [Nat.zero_add] at hs
 have hfree := fun {i : Nat} {o1 : Oper} (hi : ops[i]? = some o1) => hd.free h.down ho hj hall hi
 have hop : ∀ i, i < ops.size → ∃ o1, ops[i]? = some o1 := fun i hi => ⟨ops[i], by simp [hi]⟩
 have hle := h.le
 have hle2 := h.le2
 have hN0 : (S 0).H.length ≤ (S hi).H.length := Nat.le_trans h.len0 (Q1M hc hle hle2 h.soft)
 have fb : ∀ i, i < j → D i = false → Q1C (E i) (E j) = true := fun i hi hDi => by
  obtain ⟨o1, ho1⟩ := hop i (by omega)
  exact ((hfree ho1).1 hi hDi).2
 have fa : ∀ i, j < i → i < ops.size → D i = true → Q1C (E j) (E i) = true := fun i hi hi2 hDi => by
  obtain ⟨o1, ho1⟩ := hop i hi2
  exact ((hfree ho1).2 hi hDi).2
 have hag : Q5k (o.looksAt ops) (slF V (Q2Y ops) D (S 0).sl ops.size) (S j).sl := by
  intro t ht
  rw [← Q93 hc j (by omega), List.getD_eq_getElem?_getD, List.getD_eq_getElem?_getD]
  congr 1
  refine Q55 _ fun i hi hdi => ?_
  obtain ⟨o1, ho1⟩ := hop i hi
  have hd1 : o1.dst = some t := by simpa [Q2Y, ho1] using hdi
  by_cases hij : i < j
  ·rw [decide_eq_true hij]
   cases hDi : D i with
   | true => rfl
   | false =>
    have := (Oper.apart_spec ((hfree ho1).1 hij hDi).1).1 t hd1
    exact absurd ht this
  ·rw [decide_eq_false hij]
   cases hDi : D i with
   | false => rfl
   | true =>
    have hne : j ≠ i := fun e => by rw [e, hDi] at hj; cases hj
    have := (Oper.apart_spec ((hfree ho1).2 (by omega) hDi).1).2.2 t hd1
    exact absurd ht this
 have hdst : Q2Y ops j = o.dst := by simp [Q2Y, ho]
 have hadd : slF V (Q2Y ops) (fun i => D i || i == j) (S 0).sl ops.size = putA (slF V (Q2Y ops) D (S 0).sl ops.size) o.dst (V j) := by
  rw [← hdst]
  refine Qd0 hlt hj (fun _ => rfl) fun i t h1 h2 h3 h4 => ?_
  obtain ⟨o1, ho1⟩ := hop i h2
  cases hDi : D i with
  | false => rfl
  | true =>
   have := (Oper.apart_spec ((hfree ho1).2 h1 hDi).1).2.1 t (by rw [← hdst]; exact h3)
   exact absurd (by simpa [Q2Y, ho1] using h4) this
 have hdown : Down ops (fun i => D i || i == j) := by
  intro i o1 hi hDi e he hb
  simp only [Bool.or_eq_true, beq_iff_eq] at hDi ⊢
  rcases hDi with hDi | rfl
  ·exact .inl (h.down i o1 hi hDi e he hb)
  ·rw [ho] at hi; cases hi
   exact .inl (hall e he hb)
 have rsput : ∀ {u : Value} {m' : Mem} {μ' : LMap}, m.le m' → μ.le μ' → VRel m' μ' (V j) u → RS m' μ' (slF V (Q2Y ops) (fun i => D i || i == j) (S 0).sl ops.size) (a.put o.dst u) := by
  intro u m' μ' hm hμ hv
  rw [hadd]
  exact Q3F hm hμ h.rs hv
 have orD : ∀ {i : Nat}, (D i || i == j) = false → D i = false := fun {i} h => by cases hDi : D i with
  | false => rfl
  | true => rw [hDi] at h; cases h
 have go : ∀ {a' : Act} {w' : World} {m' : Mem} {μ' : LMap}, ((E j).loud = true → l ≤ j ∧ j < hi) → RS m' μ' (slF V (Q2Y ops) (fun i => D i || i == j) (S 0).sl ops.size) a' →
   Q11 (S 0).H.length m μ (hF S E D l (hi - l) (S hi).H.length) w m' μ' (hF S E (fun i => D i || i == j) l (hi - l) (S hi).H.length) w' →
   (∀ i, i < (S hi).H.length → (∀ n ids, E j = .push n ids → i ≠ n) → μ i = none → μ' i = none) → K a' w' := by
  intro a' w' m' μ' hin hrs hp hz
  refine hK a' w' m' μ' l hi ⟨hdown, hle, hle2, fun i h1 h2 => ?_, h.soft, fun i h1 h2 h3 => ?_, h.stop, hp.rh, fun i n ids h1 h2 h3 h4 => ?_, h.len0, hrs⟩ hp fun i h1 h2 => hz i (by omega) (fun n ids he => ?_) h2
  ·simp only [Bool.or_eq_true]; exact .inl (h.lo i h1 h2)
  ·have h4 := h.top i h1 h2 h3
   simp only [Bool.or_eq_false_iff, beq_eq_false_iff_ne]
   refine ⟨h4, fun e => ?_⟩
   subst e
   have := hin h3
   omega
  ·have hDi := orD h3
   have hne : i ≠ j := fun e => by subst e; simp at h3
   have hi3 := Q5z hc (j := i) (by omega)
   rw [h4] at hi3
   have hlen : n < (S hi).H.length := by
    have g1 : (S (i + 1)).H.length = n + 1 := by
     obtain ⟨g2, b, fr, _, _, _, g3, _⟩ := hi3
     rw [g3, g2]; simp
    have := Q1M hc (a := i + 1) (b := hi) (by omega) hle2 fun k g1 g2 => h.soft k (by omega) g2
    omega
   refine hz n hlen (fun n2 ids2 he => ?_) (h.hole i n ids h1 h2 hDi h4)
   have hj3 := hs
   rw [he] at hj3
   have hjin := hin (by rw [he]; rfl)
   rw [hi3.1, hj3.1]
   rcases Nat.lt_trichotomy i j with g | g | g
   ·obtain ⟨_, b, fr, _, _, _, g3, _⟩ := hi3
    have := Q1M hc (a := i + 1) (b := j) (by omega) (by omega) fun k g1 g2 => h.soft k (by omega) (by omega)
    rw [g3] at this
    simp at this
    omega
   ·exact absurd g hne
   ·obtain ⟨_, b, fr, _, _, _, g3, _⟩ := hj3
    have := Q1M hc (a := j + 1) (b := i) (by omega) (by omega) fun k g1 g2 => h.soft k (by omega) (by omega)
    rw [g3] at this
    simp at this
    omega
  ·have hj3 := hs
   rw [he] at hj3
   have hjin := hin (by rw [he]; rfl)
   rw [hj3.1]
   have := Q1M hc (a := l) (b := j) (by omega) (by omega) fun k g1 g2 => h.soft k (by omega) (by omega)
   have := h.len0
   omega
 have hFq : (E j).spot = none → hF S E (fun i => D i || i == j) l (hi - l) (S hi).H.length = hF S E D l (hi - l) (S hi).H.length := by
  intro hsp
  unfold hF
  refine List.map_congr_left fun id _ => ?_
  refine Q1L _ fun i h1 h2 h3 => ?_
  have hne : i ≠ j := fun e => by subst e; rw [hsp] at h3; cases h3
  simp [hne]
 have hin : (E j).loud = true → (E j).hard = false → l ≤ j ∧ j < hi := by
  intro h1 h2
  have hlj : l ≤ j := by
   rcases Nat.lt_or_ge j l with g | g
   ·have := h.lo j g h1; rw [hj] at this; cases this
   ·exact g
  refine ⟨hlj, ?_⟩
  rcases Nat.lt_or_ge j hi with g | g
  ·exact g
  ·exfalso
   rcases h.stop with g2 | ⟨g2, g3⟩
   ·omega
   ·have hne : hi ≠ j := fun e => by rw [e, h2] at g3; cases g3
    have hl : (E hi).loud = true := by
     cases hE : E hi <;> rw [hE] at g3 <;> first | rfl | (cases g3; done)
    exact Qdl (fb hi (by omega) (h.top hi (Nat.le_refl _) g2 hl)) g3 h1
 have hset : ∀ {id : Nat} {x : AVal}, (E j).spot = some id → l ≤ j ∧ j < hi → (S (j + 1)).H[id]? = some (some x) → (∀ i, j < i → i < hi → D i = true → (E i).spot ≠ some id) →
   hF S E (fun i => D i || i == j) l (hi - l) (S hi).H.length = (hF S E D l (hi - l) (S hi).H.length).set id (some x) := by
  intro id x hsp hjin hx hno
  apply List.ext_getElem?
  intro i
  rcases Nat.lt_or_ge i (S hi).H.length with g | g
  ·by_cases e : i = id
   ·subst e
    rw [List.getElem?_set_self (by rw [Q3K]; exact g), Q5w _ _ _ g, Q9T hjin.1 hsp _ (by omega) (fun k h1 h2 => hno k h1 (by omega)), List.getD_eq_getElem?_getD, hx]
    rfl
   ·rw [List.getElem?_set_ne (Ne.symm e), Q5w _ _ _ g, Q5w _ _ _ g]
    congr 1
    refine Q1L _ fun k h1 h2 h3 => ?_
    have hne : k ≠ j := fun e2 => by subst e2; rw [hsp] at h3; cases h3; exact e rfl
    simp [hne]
  ·rw [List.getElem?_eq_none (by rw [Q3K]; exact g), List.getElem?_eq_none (by rw [List.length_set, Q3K]; exact g)]
 cases hE : E j with
 | pure =>
  rw [hE] at hs
  refine hs.2 _ _ hag m μ w a Q K h.rh h.rs fun u w' m' μ' hv hp => go (fun hl => by rw [hE] at hl; cases hl) (rsput hp.ml hp.μl hv) (by rw [hFq (by rw [hE]; rfl)]; exact hp.toW) fun i h1 _ h2 => hp.hol.2 i (by rw [Q3K]; exact h1) h2
 | read ids =>
  rw [hE] at hs hwi
  refine hs.2 _ _ hag (fun id hid => ?_) m μ w a Q K h.rh h.rs fun u w' m' μ' hv hp => go (fun hl => by rw [hE] at hl; cases hl) (rsput hp.ml hp.μl hv) (by rw [hFq (by rw [hE]; rfl)]; exact hp.toW) fun i h1 _ h2 => hp.hol.2 i (by rw [Q3K]; exact h1) h2
  exact h.sees hc hlt hj (hwi id hid) (fun i h1 h2 => eff1 (hE ▸ fb i h1 h2) hid) (fun i h1 h2 h3 => eff2 (hE ▸ fa i h1 h2 h3) hid)
 | push n ids =>
  have hjin := hin (by rw [hE]; rfl) (by rw [hE]; rfl)
  rw [hE] at hs hwi
  obtain ⟨hn, b, fr, hf, hdry, hV, hH', hop2⟩ := hs
  have hsees : ∀ id, id ∈ ids → (hF S E D l (hi - l) (S hi).H.length)[id]? = (S j).H[id]? := fun id hid =>
   h.sees hc hlt hj (hwi id hid) (fun i h1 h2 => eff3 (hE ▸ fb i h1 h2) hid) (fun i h1 h2 h3 => eff4 (hE ▸ fa i h1 h2 h3) hid)
  have hnN : n < (S hi).H.length := by
   have g1 : (S (j + 1)).H.length = n + 1 := by rw [hH', hn]; simp
   have := Q1M hc (a := j + 1) (b := hi) (by omega) hle2 fun k g1 g2 => h.soft k (by omega) g2
   omega
  have later : ∀ i, j < i → i < hi → D i = true → (E i).spot ≠ some n := by
   intro i h1 h2 h3 h4
   have h5 := fa i h1 (by omega) h3
   rw [hE] at h5
   cases hEi : E i with
   | push n2 ids2 =>
    rw [hEi] at h4
    simp only [Eff.spot, Option.some.injEq] at h4
    have g := Q5z hc (j := i) (by omega)
    rw [hEi] at g
    have := Q1M hc (a := j + 1) (b := i) (by omega) (by omega) fun k g1 g2 => h.soft k (by omega) (by omega)
    rw [hH'] at this
    simp at this
    have := g.1
    omega
   | wr id2 =>
    rw [hEi] at h4 h5
    simp only [Eff.spot, Option.some.injEq] at h4
    exact eff7 h5 h4
   | pure => rw [hEi] at h4; cases h4
   | read _ => rw [hEi] at h4; cases h4
   | touch _ _ => rw [hEi] at h4; cases h4
   | «mut» => rw [hEi] at h4; cases h4
  have hhole : (hF S E D l (hi - l) (S hi).H.length)[n]? = some none := by
   rw [Q5w _ _ _ hnN]
   rw [Q1L (D' := fun i => decide (i < l)) (hi - l) fun i h1 h2 hsp => ?_, Q2y hc (Nat.le_refl l) (hi - l) (by omega) (fun i h1 h2 => h.soft i h1 (by omega)), show min l (l + (hi - l)) = l by omega]
   ·have := Q1M hc (a := l) (b := j) (by omega) (by omega) fun k g1 g2 => h.soft k (by omega) (by omega)
    rw [List.getD_eq_getElem?_getD, List.getElem?_eq_none (by omega)]
    rfl
   ·rw [decide_eq_false (by omega)]
    cases hDi : D i with
    | false => rfl
    | true =>
     exfalso
     rcases Nat.lt_trichotomy i j with g | g | g
     ·have g2 := Q5z hc (j := i) (by omega)
      have g3 := Q1M hc (a := i) (b := j) (by omega) (by omega) fun k g1 g2 => h.soft k (by omega) (by omega)
      cases hEi : E i with
      | push n2 ids2 =>
       rw [hEi] at hsp g2
       simp only [Eff.spot, Option.some.injEq] at hsp
       obtain ⟨q1, b2, fr2, _, _, _, q2, _⟩ := g2
       have := Q1M hc (a := i + 1) (b := j) (by omega) (by omega) fun k g1 g2 => h.soft k (by omega) (by omega)
       rw [q2] at this
       simp at this
       omega
      | wr id2 =>
       rw [hEi] at hsp g2
       simp only [Eff.spot, Option.some.injEq] at hsp
       have := g2.1
       omega
      | pure => rw [hEi] at hsp; cases hsp
      | read _ => rw [hEi] at hsp; cases hsp
      | touch _ _ => rw [hEi] at hsp; cases hsp
      | «mut» => rw [hEi] at hsp; cases hsp
     ·subst g; rw [hj] at hDi; cases hDi
     ·exact later i g (by omega) hDi hsp
  have hset' := hset (id := n) (x := b) (by rw [hE]; rfl) hjin (by rw [hH', hn]; simp) later
  refine hop2 _ _ hag hsees m μ w a Q K h.rh h.rs fun u w' m' μ' hv hp => ?_
  obtain ⟨μ2, p1, p2, p3, p4⟩ := QdF (np := (S 0).H.length) h.rh h.rs hp hdry hhole (h.hole j n ids hjin.1 hjin.2 hj hE) hf hv
  refine go (fun _ => hjin) (rsput hp.ml p3 (by rw [hV]; exact p2)) (by rw [hset']; exact p1) fun i h1 h2 h3 => p4 i (h2 n ids hE) (by rw [Q3K]; exact h1) h3
 | wr id =>
  have hjin := hin (by rw [hE]; rfl) (by rw [hE]; rfl)
  rw [hE] at hs
  obtain ⟨hid, c', hH', hop2⟩ := hs
  have hsees : (hF S E D l (hi - l) (S hi).H.length)[id]? = (S j).H[id]? :=
   h.sees hc hlt hj hid (fun i h1 h2 => eff5 (hE ▸ fb i h1 h2)) (fun i h1 h2 h3 => eff6 (hE ▸ fa i h1 h2 h3))
  have hset' := hset (id := id) (x := c') (by rw [hE]; rfl) hjin (by rw [hH', List.getElem?_set_self hid]) fun i h1 h2 h3 h4 => Eff.spot_not h4 (eff6 (hE ▸ fa i h1 (by omega) h3))
  refine hop2 _ _ hag hsees m μ w a Q K h.rh h.rs fun u w' m' μ' hv hp => ?_
  exact go (fun _ => hjin) (rsput hp.ml hp.μl hv) (by rw [hset']; exact hp.toW) fun i h1 _ h2 => hp.hol.2 i (by rw [Q3K]; exact h1) h2
 | touch n ts =>
  exact At.hard hc h (o := o) hlt hj (by rw [hE]; rfl) hdown fb rsput hK (by rw [hE] at hs; exact hs.2 _ hag)
 | «mut» =>
  exact At.hard hc h (o := o) hlt hj (by rw [hE]; rfl) hdown fb rsput hK (by rw [hE] at hs; exact hs _ hag)
theorem At.done (hc : Q1I P ops 0 ops.toList S V E) {D : Nat → Bool} {l hi : Nat} {m : Mem} {μ : LMap} {a : Act} {w : World} (h : At ops S V E D l hi m μ a w) (hall : ∀ i, i < ops.size → D i = true) :
  hF S E D l (hi - l) (S hi).H.length = (S ops.size).H ∧ RS m μ (S ops.size).sl a ∧ (S 0).H.length ≤ (S ops.size).H.length := by
 have e : hi = ops.size := by
  rcases h.stop with g | ⟨g, g2⟩
  ·exact g
  ·have hl2 : (E hi).loud = true := by cases hE : E hi <;> rw [hE] at g2 <;> first | rfl | (cases g2; done)
   have := h.top hi (Nat.le_refl _) g hl2
   rw [hall hi g] at this
   cases this
 have hle := h.le
 subst e
 refine ⟨Qdm rfl fun id _ => ?_, ?_, Nat.le_trans h.len0 (Q1M hc hle (Nat.le_refl _) h.soft)⟩
 ·rw [Q1L (D' := fun i => decide (i < ops.size)) (ops.size - l) fun i h1 h2 hs => ?_, Q2y hc hle (ops.size - l) (by omega) (fun i h1 h2 => h.soft i h1 (by omega)), show min ops.size (l + (ops.size - l)) = ops.size by omega]
  rw [decide_eq_true (by omega)]
  exact hall i (by omega)
 ·have h1 := h.rs
  have h2 : slF V (Q2Y ops) D (S 0).sl ops.size = (S ops.size).sl := by
   rw [← Q93 hc ops.size (Nat.le_refl _)]
   apply List.ext_getElem?
   intro t
   exact Q55 _ fun i hi _ => by rw [hall i hi]; simp [hi]
  rw [h2] at h1
  exact h1
def Q1v (listed : Array Bool) (i : Nat) : Bool := listed.getD i false
theorem QbL (hd : Q4c ops S V E B) {listed : Array Bool} (hsz : listed.size = ops.size) (hr : Region.ready .any ops listed = []) : ∀ i, i < ops.size → Q1v listed i = true := by
 intro i
 induction i using Nat.strongRecOn with
 | _ i ih =>
  intro hi
  cases hD : Q1v listed i with
  | true => rfl
  | false =>
   exfalso
   have hm : i ∈ Region.ready .any ops listed := by
    rw [mem_ready]
    refine ⟨?_, ops[i], by simp [hi], fun e he hb => ?_⟩
    ·unfold Q1v at hD
     have : i < listed.size := by omega
     simp [this] at hD ⊢; exact hD
    ·have hlt := hd.on i ops[i] (by simp [hi]) e he hb
     exact ih e.on hlt (by omega)
   rw [hr] at hm; cases hm
theorem QaB (hc : Q1I P ops 0 ops.toList S V E) (hd : Q4c ops S V E B) {Q : Exit → Act → World → Prop} {m0 : Mem} {μ0 : LMap} {w0 : World} (rh0 : RH m0 μ0 (S 0).H w0)
  (hQ : ∀ a' w' m' μ', RS m' μ' (S ops.size).sl a' → Post m0 μ0 (S 0).H w0 m' μ' (S ops.size).H w' → Q .normal a' w') :
  ∀ (fuel : Nat) (listed : Array Bool) (l hi : Nat) (m : Mem) (μ : LMap) (a : Act) (w : World), listed.size = ops.size → ((List.range ops.size).filter fun i => !Q1v listed i).length ≤ fuel → At ops S V E (Q1v listed) l hi m μ a w →
  Q11 (S 0).H.length m0 μ0 (S 0).H w0 m μ (hF S E (Q1v listed) l (hi - l) (S hi).H.length) w → (∀ i, i < (S 0).H.length → μ0 i = none → μ i = none) → wpAny P .any ops Q fuel listed a w := by
 have fin : ∀ (listed : Array Bool) (l hi : Nat) (m : Mem) (μ : LMap) (a : Act) (w : World), At ops S V E (Q1v listed) l hi m μ a w → (∀ i, i < ops.size → Q1v listed i = true) →
   Q11 (S 0).H.length m0 μ0 (S 0).H w0 m μ (hF S E (Q1v listed) l (hi - l) (S hi).H.length) w → (∀ i, i < (S 0).H.length → μ0 i = none → μ i = none) → Q .normal a w := by
  intro listed l hi m μ a w h hall hp hz
  obtain ⟨h1, h2, h3⟩ := h.done hc hall
  rw [h1] at hp
  refine hQ _ _ _ _ h2 ⟨hp.rh, hp.ml, fun i l hl => hp.fix i l ?_ hl, hp.os, hp.tape, hp.output, hp.size, hp.keep, hp.grow, hp.mgrow, ⟨h3, hz⟩⟩
  rcases Nat.lt_or_ge i (S 0).H.length with g | g
  ·exact g
  ·rw [rh0.dom i g] at hl; cases hl
 intro fuel
 induction fuel with
 | zero =>
  intro listed l hi m μ a w hsz hn h hp hz
  have hall : ∀ i, i < ops.size → Q1v listed i = true := by
   intro i hi
   have : ((List.range ops.size).filter fun i => !Q1v listed i) = [] := List.length_eq_zero_iff.1 (by omega)
   have := List.filter_eq_nil_iff.1 this i (by simpa using hi)
   simpa using this
  refine ⟨?_, fin listed l hi m μ a w h hall hp hz⟩
  cases hr : Region.ready .any ops listed with
  | nil => rfl
  | cons i l2 =>
   exfalso
   have : i ∈ Region.ready .any ops listed := by rw [hr]; simp
   obtain ⟨h1, o, ho, _⟩ := mem_ready.1 this
   have hlt := (Array.getElem?_eq_some_iff.1 ho).1
   have h2 := hall i hlt
   unfold Q1v at h2
   have : i < listed.size := by omega
   simp [this] at h1 h2
   rw [h2] at h1; cases h1
 | succ fuel ih =>
  intro listed l hi m μ a w hsz hn h hp0 hz0
  refine ⟨fun hr => fin listed l hi m μ a w h (QbL hd hsz hr) hp0 hz0, fun i hi => ?_⟩
  obtain ⟨h1, o, ho, hall⟩ := mem_ready.1 hi
  have hlt := (Array.getElem?_eq_some_iff.1 ho).1
  have hnot : Q1v listed i = false := by
   unfold Q1v
   have : i < listed.size := by omega
   simp [this] at h1 ⊢; exact h1
  have hset : Q1v (listed.setIfInBounds i true) = fun k => Q1v listed k || k == i := by
   funext k
   unfold Q1v
   by_cases hk : i = k
   ·subst hk; simp [show i < listed.size by omega]
   ·rw [getD_set_ne false hk]; simp [Ne.symm hk]
  refine h.step hc hd ho hnot (fun e he hb => hall e he hb) fun a' w' m' μ' l' hi' h' hp hz => ?_
  rw [← hset] at h' hp
  refine ih _ l' hi' m' μ' a' w' (by simp [hsz]) ?_ h' (hp0.trans hp) fun k hk hn => hz k hk (hz0 k hk hn)
  rw [hset]
  have hsub : ((List.range ops.size).filter fun k => !(Q1v listed k || k == i)) = ((List.range ops.size).filter fun k => !Q1v listed k).filter (fun k => !(k == i)) := by
   rw [List.filter_filter]
   apply List.filter_congr
   intro k _
   cases Q1v listed k <;> cases (k == i) <;> rfl
  rw [hsub]
  have hmem : i ∈ (List.range ops.size).filter fun k => !Q1v listed k := by simp [hlt, hnot]
  have : (((List.range ops.size).filter fun k => !Q1v listed k).filter (fun k => !(k == i))).length < ((List.range ops.size).filter fun k => !Q1v listed k).length := by
   apply List.length_filter_lt_length_iff_exists.2
   exact ⟨i, hmem, by simp⟩
  omega
theorem Qaj {ρ : Type} {C : Ctx} (hΓ : ∀ f, Qb C.P f (C.Γ f)) (hmix : C.P.follows .mixedOrders = true) {ops : Array Oper} {draw : Bool} {st : St} {k : St → Option ρ} {r : ρ} (h : Qbg C ops draw st k = some r) :
  ∃ st', k st' = some r ∧ ∀ (id : Nat) (m : Mem) (μ : LMap) (w : World) (a : Act) (Q : Exit → Act → World → Prop), RH m μ st.H w → RS m μ st.sl a →
   (∀ a' w' m' μ', RS m' μ' st'.sl a' → Post m μ st.H w m' μ' st'.H w' → Q .normal a' w') → (Code.region id ops draw).wp C.P Q a w := by
 unfold Qbg at h
 obtain ⟨S, V, E, es', h0, hc, hk, hes⟩ := Q1P hΓ ops.toList 0 st [] (fun j o hj => by simpa using hj) h
 subst h0
 simp only [Array.length_toList, List.reverse_nil, List.nil_append] at hk hes
 cases draw with
 | false =>
  refine ⟨S ops.size, by simpa using hk, fun id m μ w a Q rh rs hQ => wp_region ?_⟩
  rw [List.range_eq_range']
  exact Q7S hc ops.size 0 (by omega) m μ w a rh rs hQ
 | true =>
  simp only [Bool.not_true, Bool.false_or, hes] at hk
  cases hok : Q5D ops [] [] 0 (befL ops.toList []) ops.toList ((List.range ops.size).map E) with
  | false => rw [hok] at hk; cases hk
  | true =>
   rw [hok] at hk
   have hd : Q4c ops S V E (befL ops.toList []) := QbJ hok
   refine ⟨S ops.size, hk, fun id m μ w a Q rh rs hQ => wp_region_any hmix ?_⟩
   have hp := rh.drawn (w.drawn + 1)
   have hz : Q1v (Array.replicate ops.size false) = fun _ => false := by
    funext i; unfold Q1v
    by_cases hi : i < ops.size <;> simp [hi]
   obtain ⟨hi, g1, g2, g3, g4⟩ := Q6w E (n := ops.size) ops.size 0 (by omega)
   have pad := Qcj hc (D := Q1v (Array.replicate ops.size false)) g1 g2 g3 fun i _ _ _ => by rw [hz]
   have rhp := hp.rh.same pad.1 fun i hi => hp.rh.dom i (Nat.le_trans pad.2.1 hi)
   refine QaB hc hd rh hQ ops.size _ 0 hi m μ a _ (by simp) ?_ ⟨?_, Nat.zero_le _, g2, fun i h1 => by omega, g3, fun i _ _ _ => by rw [hz], g4, rhp, fun i n ids h1 h2 _ h4 => hp.rh.dom n (pad.2.2 i n ids h1 h2 h4), Nat.le_refl _, ?_⟩
    ⟨rhp, hp.ml, fun i l _ hl => hp.μl i l hl, hp.os, hp.tape, hp.output, hp.size, hp.keep, fun b ho hb => hp.grow b (Q1q.same pad.1 ho) hb, hp.mgrow⟩ fun _ _ h => h
   ·have := List.length_filter_le (fun i => !Q1v (Array.replicate ops.size false) i) (List.range ops.size)
    simpa using this
   ·intro j o _ hj; rw [hz] at hj; cases hj
   ·rw [hz]
    have := Q93 hc 0 (Nat.zero_le _)
    have e : (fun i => decide (i < 0)) = fun _ : Nat => false := by funext i; simp
    rw [e] at this
    rw [this]; exact rs
end
end Go.Am
