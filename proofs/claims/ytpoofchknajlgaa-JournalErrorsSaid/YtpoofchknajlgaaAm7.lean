/- A part of a proof: a machine of abstract values that tells what functions of the program compute, and the plain facts on them. -/
import Derived.Test.YtpoofchknajlgaaAm1
import Derived.IntWalk
import Derived.Lib.EndianBits
import Derived.Laws.Strings
import Derived.Test.YtpoofchknajlgaaAm6
set_option linter.unusedVariables false
set_option linter.unusedSimpArgs false
set_option linter.unnecessarySimpa false
set_option linter.unusedSectionVars false
namespace Go.Am
open Go
theorem Q1G (s : ByteArray) : (Q0Z s).length = s.size := by simp [Q0Z]
theorem Q5c {s : ByteArray} {x : Int} (h : x ∈ Q0Z s) : 0 ≤ x ∧ x < 256 := by
 simp only [Q0Z, List.mem_map] at h
 obtain ⟨b, _, rfl⟩ := h
 have := b.toNat_lt
 omega
theorem QaE {s t : ByteArray} (h : Q0Z s = Q0Z t) : s = t := by
 have : s.data.toList = t.data.toList := by
  simp only [Q0Z] at h
  have h2 := congrArg (List.map fun n : Int => UInt8.ofNat n.toNat) h
  simpa [Function.comp_def] using h2
 cases s; cases t
 simp at this
 simp [this]
def Q3V (xs : List Int) : Prop := ∀ x ∈ xs, 0 ≤ x ∧ x < 256
theorem Q2r {xs : List Int} (h : Q3V xs) : Q0Z (bytesOf xs) = xs := by
 simp only [Q0Z, bytesOf, List.map_map]
 conv => rhs; rw [← List.map_id xs]
 apply List.map_congr_left
 intro x hx
 have := h x hx
 simp only [Function.comp, id]
 rw [UInt8.toNat_ofNat']
 have h2 : x.toNat % 2 ^ 8 = x.toNat := Nat.mod_eq_of_lt (by omega)
 rw [h2]
 omega
theorem Q7F (s : ByteArray) : bytesOf (Q0Z s) = s := QaE (Q2r fun _ hx => Q5c hx)
theorem Q27 (xs : List Int) : (bytesOf xs).size = xs.length := by
 show (bytesOf xs).data.size = _
 simp [bytesOf]
theorem Q3E (s t : ByteArray) : Q0Z (s ++ t) = Q0Z s ++ Q0Z t := by
 simp [Q0Z]
theorem Q59 (xs ys : List Int) : bytesOf xs ++ bytesOf ys = bytesOf (xs ++ ys) := by
 apply ByteArray.ext
 simp [bytesOf]
theorem Qd0 (s : ByteArray) (a b : Nat) : Q0Z (s.extract a b) = ((Q0Z s).drop a).take (b - a) := by
 simp only [Q0Z, ByteArray.data_extract, Array.toList_extract, List.extract_eq_take_drop, List.map_take, List.map_drop]
theorem Q4e (s : ByteArray) (i : Nat) : Q1I s i = (Q0Z s).getD i 0 := by
 simp only [Q1I, Q0Z, List.getD_eq_getElem?_getD, List.getElem?_map]
 cases s.data.toList[i]? <;> simp
theorem Qee (s : ByteArray) (i : Nat) : 0 ≤ Q1I s i ∧ Q1I s i < 256 := by
 unfold Q1I
 have := (s.data.toList.getD i 0).toNat_lt
 omega
theorem Q6E {s t : ByteArray} : Q1Q s t = true ↔ s = t := by
 unfold Q1Q
 rw [beq_iff_eq]
 constructor
 ·intro h
  rw [ByteArray.toList_eq, ByteArray.toList_eq] at h
  cases s; cases t
  simpa using h
 ·rintro rfl; rfl
theorem QeK (s : ByteArray) : Q1Q s s = true := Q6E.2 rfl
theorem Q7n {s t : ByteArray} (h : s ≠ t) : Q1Q s t = false := by
 cases h2 : Q1Q s t with
 | false => rfl
 | true => exact absurd (Q6E.1 h2) h
def lowI (n : Int) : Nat → List Int
 | 0 => []
 | b + 1 => (n % 256) :: lowI (n / 256) b
def leI : List Int → Int
 | [] => 0
 | x :: l => x + 256 * leI l
theorem Q1S (n : Int) (b : Nat) : (lowI n b).length = b := by
 induction b generalizing n with
 | zero => rfl
 | succ b ih => simp [lowI, ih]
theorem Qcf (n : Int) (b : Nat) : Q3V (lowI n b) := by
 induction b generalizing n with
 | zero => intro x hx; simp [lowI] at hx
 | succ b ih =>
  intro x hx
  simp only [lowI, List.mem_cons] at hx
  rcases hx with rfl | hx
  ·omega
  ·exact ih _ x hx
theorem Q9p (n : Int) (b : Nat) : lowI n (b + 1) = lowI n b ++ [n / 256 ^ b % 256] := by
 induction b generalizing n with
 | zero => simp [lowI]
 | succ b ih =>
  rw [lowI, ih, lowI]
  simp only [List.cons_append]
  congr 3
  rw [Int.ediv_ediv_of_nonneg (by omega), ← Int.pow_succ']
theorem QeQ (xs ys : List Int) : leI (xs ++ ys) = leI xs + 256 ^ xs.length * leI ys := by
 induction xs with
 | nil => simp [leI]
 | cons x l ih =>
  simp only [List.cons_append, leI, ih, List.length_cons, Int.pow_succ, Int.mul_add]
  rw [show (256 : Int) ^ l.length * 256 * leI ys = 256 * (256 ^ l.length * leI ys) by rw [Int.mul_comm ((256:Int) ^ l.length) 256, Int.mul_assoc]]
  omega
theorem Qf4 {xs : List Int} (h : Q3V xs) : 0 ≤ leI xs ∧ leI xs < 256 ^ xs.length := by
 induction xs with
 | nil => simp [leI]
 | cons x l ih =>
  have h1 := h x (by simp)
  have h2 := ih fun y hy => h y (by simp [hy])
  simp only [leI, List.length_cons, Int.pow_succ]
  omega
theorem Qfb (n : Int) (b : Nat) : leI (lowI n b) = n % 256 ^ b := by
 induction b generalizing n with
 | zero => simp [lowI, leI, Int.emod_one]
 | succ b ih =>
  simp only [lowI, leI, ih, Int.pow_succ]
  rw [Int.mul_comm ((256 : Int) ^ b) 256]
  have h1 := Int.emod_add_mul_ediv n 256
  have h2 := Int.emod_add_mul_ediv (n / 256) (256 ^ b)
  have h3 := Int.emod_add_mul_ediv n (256 * 256 ^ b)
  rw [← Int.ediv_ediv_of_nonneg (by omega : (0:Int) ≤ 256)] at h3
  rw [Int.mul_assoc] at h3
  omega
theorem Qf9 {xs : List Int} (h : Q3V xs) : lowI (leI xs) xs.length = xs := by
 induction xs with
 | nil => rfl
 | cons x l ih =>
  have h1 := h x (by simp)
  simp only [leI, List.length_cons, lowI]
  rw [show (x + 256 * leI l) % 256 = x by omega, show (x + 256 * leI l) / 256 = leI l by omega, ih fun y hy => h y (by simp [hy])]
theorem Qeg {x : Int} {j : Nat} (hj : j ≤ 64) : Q2l .u64 x (j : Int) = x / 2 ^ j := by
 unfold Q2l
 have : min (j : Int).toNat IntKind.u64.bits = j := by simp [IntKind.bits]; omega
 rw [this]
 exact Int.fdiv_eq_ediv_of_nonneg _ (Int.le_of_lt (Int.pow_pos (by omega)))
theorem pow8 (i : Nat) : (2 : Int) ^ (8 * i) = 256 ^ i := by
 rw [Int.pow_mul]; rfl
theorem Q5P (A : Nat) (h : A < 18446744073709551616) : (BitVec.ofInt 64 (A : Int)).toNat = A := by
 rw [BitVec.toNat_ofInt]
 have : ((A : Int) % ((2 : Nat) ^ 64 : Nat)).toNat = A % 2 ^ 64 := by
  rw [← Int.natCast_emod]; rfl
 rw [this]
 exact Nat.mod_eq_of_lt (by simpa using h)
theorem Qfg {A B j : Nat} (ha : A < 2 ^ j) (hlt : B * 2 ^ j + A < 18446744073709551616) : Q1f .or .u64 (A : Int) ((B * 2 ^ j : Nat) : Int) = ((B * 2 ^ j + A : Nat) : Int) := by
 show IntKind.u64.wrap (((BitVec.ofInt 64 (A : Int) ||| BitVec.ofInt 64 ((B * 2 ^ j : Nat) : Int) : BitVec 64).toNat : Nat) : Int) = _
 rw [BitVec.toNat_or, Q5P A (by omega), Q5P (B * 2 ^ j) (by omega)]
 have : A ||| B * 2 ^ j = B * 2 ^ j + A := by
  rw [Nat.or_comm, Nat.mul_comm, ← Nat.two_pow_add_eq_or_of_lt ha]
 rw [this]
 exact IntWalk.u64_in _ (by omega)
end Go.Am
namespace Go.Am
open Go
def finI {ρ : Type} (P : Program) (rs : List ResultVar) (K : List AVal → Heap → Option ρ) (e : Exit) (st : St) : Option ρ :=
 match e with
 | .ret => (match Q2B P st rs with | some vs => K vs st.H | none => none)
 | .normal => (match Q2B P st rs with | some vs => K vs st.H | none => none)
 | _ => none
def Qbu (C : Ctx) (fn : Func) (c : Code) (ann : Ann) : QS :=
 ⟨fun as H k =>
  let kp := Q46 H as
  let keep := kp.1 ++ kp.2
  cond (Q3d keep && Q3j H keep)
   (evC C c ann ⟨(as.map fun a => (renA keep a).getD .undef) ++ List.replicate (fn.ntmps - as.length) .undef, keep.map fun i => (H.getD i none).bind (renA keep)⟩
    (finI C.P fn.results.toList fun vs Hc =>
     cond (Nat.ble keep.length Hc.length && Q3N vs)
      (k (resL (vs.map (renF (Q22 keep keep.length H.length)))) (Q2k keep (renH (Q22 keep keep.length H.length) Hc) H ++ renH (Q22 keep keep.length H.length) (Hc.drop keep.length)) (.touch H.length keep)) none)) none⟩
theorem Qam {C : Ctx} {f : Nat} {fn : Func} {c : Code} (hf : C.P.funcs[f]? = some fn) (hb : fn.body = some c) (hn : (fn.name == "runtime.NumGoroutine") = false)
  {args vs : List AVal} {H : Heap} {keep : List Nat} {e : Exit} {st' : St} (hnd : Q3d keep = true) (hlive : Q3j H keep = true)
  (h3 : Goes keep.length C.P c ⟨(args.map fun a => (renA keep a).getD .undef) ++ List.replicate (fn.ntmps - args.length) .undef, keep.map fun i => (H.getD i none).bind (renA keep)⟩ e st')
  (hvs : Q2B C.P st' fn.results.toList = some vs) (he : e = .ret ∨ e = .normal) (hnt : Q3N vs = true) (hsn : keep.length ≤ st'.H.length) :
  Q4z C.P f args H (resL (vs.map (renF (Q22 keep keep.length H.length)))) (Q2k keep (renH (Q22 keep keep.length H.length) st'.H) H ++ renH (Q22 keep keep.length H.length) (st'.H.drop keep.length)) := by
 intro m μ w us0 rh hv
 refine ⟨_, _, Q2n hf hb hn _ w, .inl ⟨f, _, rfl, ?_⟩⟩
 obtain ⟨hrs1, hpw1⟩ := Q4F (np := 0) (st := ⟨args, H⟩) (keep := keep) (Q4w hnd) rfl rh (Q4U hv)
 have hv1 := Q56 hrs1
 refine calls_of_wp hf hb ?_
 have hstart := Q9c fn.ntmps hv1
 rw [List.length_map] at hstart
 refine h3 m (renM keep μ) w _ _ hpw1.rh hstart fun a' w' m' μ' rs' p => ?_
 obtain ⟨us, h4, h5⟩ := Q67 p.rh rs' hvs
 have P : Q26 keep.length m (renM (keep ++ []) μ) ((keep ++ []).map fun i => ((Q1h [] H).getD i none).bind (renA (keep ++ []))) w m' μ' st'.H w' := by
  rw [List.append_nil]; exact p
 have hlive' : Q3j (Q1h [] H) (keep ++ []) = true := by rw [List.append_nil]; exact hlive
 have hg := Q7Z rh rfl hlive' P
 have hP := Q9r rh rfl hsn hlive' P p.ml p.rh.mem (fun _ _ _ _ h => h) (fun b c hc => by
  rcases p.mgrow b c hc with g | g | g
  ·exact .inl g
  ·refine .inr (.inl ?_)
   rw [List.append_nil]; exact g
  ·exact .inr (.inr g)) (fun _ h => h) (fun _ _ _ _ _ _ h => h)
 have fin : a'.defers = [] ∧ ∃ v, (results fn a'.tmps).run C.P w' = .ok v w' ∧ Came m μ H w (resL (vs.map (renF (Q22 keep keep.length H.length)))) (Q2k keep (renH (Q22 keep keep.length H.length) st'.H) H ++ renH (Q22 keep keep.length H.length) (st'.H.drop keep.length)) (.returned v) w' := by
  refine ⟨rs'.defers, _, Q4R h4, _, m', _, rfl, QaF ?_ (Q6H (fun a ha v hv => Q9a hg hv) h5), hP⟩
  intro a ha q e
  rw [List.mem_map] at ha
  obtain ⟨b, hb, rfl⟩ := ha
  obtain ⟨q', hq⟩ := (Q3Q b).2.1 ⟨q, e⟩
  exact Q5h hnt b hb q' hq
 rcases he with rfl | rfl <;> exact fin
theorem Qc6 {ρ : Type} {P : Program} {rs : List ResultVar} {K : List AVal → Heap → Option ρ} {e : Exit} {st : St} {r : ρ} (h : finI P rs K e st = some r) :
  ∃ vs, Q2B P st rs = some vs ∧ (e = .ret ∨ e = .normal) ∧ K vs st.H = some r := by
 have go : (match Q2B P st rs with | some vs => K vs st.H | none => none) = some r → ∃ vs, Q2B P st rs = some vs ∧ K vs st.H = some r := by
  intro h
  split at h
  ·rename_i vs hvs; exact ⟨vs, hvs, h⟩
  ·cases h
 cases e with
 | ret => obtain ⟨vs, g1, g2⟩ := go h; exact ⟨vs, g1, .inl rfl, g2⟩
 | normal => obtain ⟨vs, g1, g2⟩ := go h; exact ⟨vs, g1, .inr rfl, g2⟩
 | _ => cases h
theorem QeY {C : Ctx} (hΓ : ∀ f, Qz C.P f (C.Γ f)) (hmix : C.P.follows .mixedOrders = true) {f : Nat} {fn : Func} {c : Code} {ann : Ann}
  (hf : C.P.funcs[f]? = some fn) (hb : fn.body = some c) (hn : (fn.name == "runtime.NumGoroutine") = false) (hA : ∀ np, Q1 np C.P c ann) : Qz C.P f (Qbu C fn c ann) := by
 intro ρ args H k r h
 simp only [Qbu] at h
 generalize hkeep : (Q46 H args).1 ++ (Q46 H args).2 = keep at h
 rw [Bool.cond_eq_ite] at h
 split at h
 case isFalse => cases h
 rename_i hchk
 simp only [Bool.and_eq_true] at hchk
 obtain ⟨hnd, hlive⟩ := hchk
 obtain ⟨e, st', h2, h3⟩ := Q2T hΓ hmix c ann _ _ _ (hA keep.length) h
 obtain ⟨vs, hvs, he, hk⟩ := Qc6 h2
 rw [Bool.cond_eq_ite] at hk
 split at hk
 case isFalse => cases hk
 rename_i hc
 simp only [Bool.and_eq_true] at hc
 refine ⟨_, _, _, hk, ?_, Qam hf hb hn hnd hlive h3 hvs he hc.2 (Nat.le_of_ble_eq_true hc.1)⟩
 intro i hi hni
 rw [List.getElem?_append_left (by rw [Q2u]; exact hi), Q4o hni]
theorem Qal {s t : ByteArray} (h : Q1Q s t = true) : s = t := by
 unfold Q1Q at h
 rw [beq_iff_eq, ByteArray.toList_eq, ByteArray.toList_eq] at h
 cases s; cases t
 congr
 exact Array.toList_inj.1 h
def eqL {α : Type} (f : α → α → Bool) : List α → List α → Bool
 | [], [] => true
 | a :: l, b :: r => f a b && eqL f l r
 | _, _ => false
theorem Q3f {α : Type} {f : α → α → Bool} (hf : ∀ a b, f a b = true → a = b) : ∀ {l r : List α}, eqL f l r = true → l = r
 | [], [], _ => rfl
 | a :: l, b :: r, h => by
  simp only [eqL, Bool.and_eq_true] at h
  rw [hf a b h.1, Q3f hf h.2]
 | [], _ :: _, h | _ :: _, [], h => by cases h
def eqT : (t : Ty) → t.den → t.den → Bool
 | .int _, x, y => x == y
 | .bool, x, y => x == y
 | .str, x, y => Q1Q x y
 | .unit, _, _ => true
 | .pair a b, x, y => eqT a x.1 y.1 && eqT b x.2 y.2
 | .arr _ t, x, y => eqL (eqT t) x y
 | .sl t, x, y => eqL (eqT t) x y
theorem Q4l : ∀ {t : Ty} {x y : t.den}, eqT t x y = true → x = y := by
 intro t
 induction t with
 | int k => intro x y h; exact (beq_iff_eq (α := Int)).1 h
 | bool => intro x y h; exact (beq_iff_eq (α := Bool)).1 h
 | str => intro x y h; exact Qal h
 | unit => intro x y _; rfl
 | pair a b ha hb =>
  intro x y h
  simp only [eqT, Bool.and_eq_true] at h
  exact Prod.ext (ha h.1) (hb h.2)
 | arr n t ih => intro x y h; exact Q3f (fun _ _ => ih) h
 | sl t ih => intro x y h; exact Q3f (fun _ _ => ih) h
def eqN (a b : List Nat) : Bool := eqL Nat.beq a b
theorem QdH {a b : List Nat} (h : eqN a b = true) : a = b := Q3f (fun _ _ => Nat.eq_of_beq_eq_true) h
def eqAV : AVal → AVal → Bool
 | .undef, .undef => true
 | .int k n, .int k' n' => decide (k = k') && n == n'
 | .bool b, .bool b' => b == b'
 | .str s, .str s' => Q1Q s s'
 | .nilp, .nilp => true
 | .nils, .nils => true
 | .nilm, .nilm => true
 | .unit, .unit => true
 | .ptr i p, .ptr i' p' => Nat.beq i i' && eqN p p'
 | .vsl i, .vsl i' => Nat.beq i i'
 | .vbs i, .vbs i' => Nat.beq i i'
 | .mp i, .mp i' => Nat.beq i i'
 | .pair a b, .pair a' b' => eqAV a a' && eqAV b b'
 | .vec t xs, .vec t' xs' => if h : t = t' then eqL (eqT t') (h ▸ xs) xs' else false
 | .arr n t xs, .arr n' t' xs' => Nat.beq n n' && if h : t = t' then eqL (eqT t') (h ▸ xs) xs' else false
 | .ros t xs, .ros t' xs' => if h : t = t' then eqL (eqT t') (h ▸ xs) xs' else false
 | .mpc a b xs, .mpc a' b' xs' => if h : a = a' then (if g : b = b' then eqL (fun x y => eqT a' x.1 y.1 && eqT b' x.2 y.2) (h ▸ g ▸ xs) xs' else false) else false
 | _, _ => false
theorem QcQ : ∀ {a b : AVal}, eqAV a b = true → a = b := by
 intro a
 induction a with
 | pair u v hu hv =>
  intro b h
  cases b <;> simp only [eqAV, Bool.and_eq_true] at h <;> try (cases h; done)
  rw [hu h.1, hv h.2]
 | undef => intro b h; cases b <;> first | rfl | cases h
 | nilp => intro b h; cases b <;> first | rfl | cases h
 | nils => intro b h; cases b <;> first | rfl | cases h
 | nilm => intro b h; cases b <;> first | rfl | cases h
 | unit => intro b h; cases b <;> first | rfl | cases h
 | int k n =>
  intro b h
  cases b <;> simp only [eqAV, Bool.and_eq_true, decide_eq_true_eq, beq_iff_eq] at h <;> try (cases h; done)
  rw [h.1, h.2]
 | bool x =>
  intro b h
  cases b <;> simp only [eqAV, beq_iff_eq] at h <;> try (cases h; done)
  rw [h]
 | str x =>
  intro b h
  cases b <;> simp only [eqAV] at h <;> try (cases h; done)
  rw [Qal h]
 | ptr i p =>
  intro b h
  cases b <;> simp only [eqAV, Bool.and_eq_true] at h <;> try (cases h; done)
  rw [Nat.eq_of_beq_eq_true h.1, QdH h.2]
 | vsl i =>
  intro b h
  cases b <;> simp only [eqAV] at h <;> try (cases h; done)
  rw [Nat.eq_of_beq_eq_true h]
 | vbs i =>
  intro b h
  cases b <;> simp only [eqAV] at h <;> try (cases h; done)
  rw [Nat.eq_of_beq_eq_true h]
 | mp i =>
  intro b h
  cases b <;> simp only [eqAV] at h <;> try (cases h; done)
  rw [Nat.eq_of_beq_eq_true h]
 | vec t xs =>
  intro b h
  cases b <;> simp only [eqAV] at h <;> try (cases h; done)
  split at h
  ·rename_i xs' e; subst e; have h : xs = xs' := Q3f (fun _ _ => Q4l) h; rw [h]
  ·cases h
 | ros t xs =>
  intro b h
  cases b <;> simp only [eqAV] at h <;> try (cases h; done)
  split at h
  ·rename_i xs' e; subst e; have h : xs = xs' := Q3f (fun _ _ => Q4l) h; rw [h]
  ·cases h
 | arr n t xs =>
  intro b h
  cases b <;> simp only [eqAV, Bool.and_eq_true] at h <;> try (cases h; done)
  obtain ⟨h1, h⟩ := h
  split at h
  ·rename_i xs' e; subst e; have h : xs = xs' := Q3f (fun _ _ => Q4l) h; rw [Nat.eq_of_beq_eq_true h1, h]
  ·cases h
 | mpc u v xs =>
  intro b h
  cases b <;> simp only [eqAV] at h <;> try (cases h; done)
  rename_i u' v' xs'
  split at h
  ·rename_i e
   split at h
   ·rename_i e'
    subst e; subst e'
    have h : xs = xs' := Q3f (f := fun (x y : Ty.den u × Ty.den v) => eqT u x.1 y.1 && eqT v x.2 y.2) (fun a b hab => by
     rw [Bool.and_eq_true] at hab
     exact Prod.ext (Q4l hab.1) (Q4l hab.2)) h
    rw [h]
   ·cases h
  ·cases h
 | _ => intro b h; cases b <;> cases h
def eqHp : Heap → Heap → Bool
 | [], [] => true
 | some a :: l, some b :: r => eqAV a b && eqHp l r
 | _, _ => false
theorem Q9b : ∀ {l r : Heap}, eqHp l r = true → l = r
 | [], [], _ => rfl
 | some a :: l, some b :: r, h => by
  simp only [eqHp, Bool.and_eq_true] at h
  rw [QcQ h.1, Q9b h.2]
 | [], some _ :: _, h | [], none :: _, h | some _ :: _, [], h | none :: _, [], h | none :: _, none :: _, h | none :: _, some _ :: _, h | some _ :: _, none :: _, h => by cases h
def Qby (C : Ctx) (fn : Func) (c : Code) (ann : Ann) : QS :=
 ⟨fun as H k =>
  let kp := Q46 H as
  let keep := kp.1 ++ kp.2
  let H0 : Heap := keep.map fun i => (H.getD i none).bind (renA keep)
  cond (Q3d keep && Q3j H keep)
   (evC C c ann ⟨(as.map fun a => (renA keep a).getD .undef) ++ List.replicate (fn.ntmps - as.length) .undef, H0⟩
    (finI C.P fn.results.toList fun vs Hc =>
     cond (eqHp Hc H0 && Q3N vs && (idsL vs).isEmpty) (k (resL vs) H (.read keep)) none)) none⟩
theorem QeO {C : Ctx} (hΓ : ∀ f, Qz C.P f (C.Γ f)) (hmix : C.P.follows .mixedOrders = true) {f : Nat} {fn : Func} {c : Code} {ann : Ann}
  (hf : C.P.funcs[f]? = some fn) (hb : fn.body = some c) (hn : (fn.name == "runtime.NumGoroutine") = false) (hA : ∀ np, Q1 np C.P c ann) : Qz C.P f (Qby C fn c ann) := by
 intro ρ args H k r h
 simp only [Qby] at h
 generalize hkeep : (Q46 H args).1 ++ (Q46 H args).2 = keep at h
 rw [Bool.cond_eq_ite] at h
 split at h
 case isFalse => cases h
 rename_i hchk
 simp only [Bool.and_eq_true] at hchk
 obtain ⟨hnd, hlive⟩ := hchk
 obtain ⟨e, st', h2, h3⟩ := Q2T hΓ hmix c ann _ _ _ (hA keep.length) h
 obtain ⟨vs, hvs, he, hk⟩ := Qc6 h2
 rw [Bool.cond_eq_ite] at hk
 split at hk
 case isFalse => cases hk
 rename_i hc
 simp only [Bool.and_eq_true, List.isEmpty_iff] at hc
 obtain ⟨⟨hH, hnt⟩, hids⟩ := hc
 have hH := Q9b hH
 refine ⟨_, _, _, hk, rfl, fun H2 hag => ?_⟩
 have hB : (keep.map fun i => (H2.getD i none).bind (renA keep)) = keep.map fun i => (H.getD i none).bind (renA keep) := by
  apply List.map_congr_left
  intro i hi
  rw [List.getD_eq_getElem?_getD, List.getD_eq_getElem?_getD, hag i hi]
 have hl2 : Q3j H2 keep = true := by rw [Q41 hag]; exact hlive
 have := Qam (args := args) hf hb hn hnd hl2 (by rw [hB]; exact h3) hvs he hnt (by rw [hH, List.length_map]; exact Nat.le_refl _)
 rw [Q4A hids] at this
 have e2 : st'.H.drop keep.length = [] := by
  rw [List.drop_eq_nil_iff, hH, List.length_map]; exact Nat.le_refl _
 have e3 : Q2k keep (renH (Q22 keep keep.length H2.length) st'.H) H2 = H2 := by
  apply Q4V
  intro j i hj
  rw [Q4a, hH, List.getElem?_map, hj]
  have hi : i ∈ keep := List.mem_of_getElem? hj
  obtain ⟨a, ha⟩ := Q3J hlive i hi
  rw [hag i hi, ha]
  have hne : (keep.map fun i => (H.getD i none).bind (renA keep))[j]? ≠ some none := by
   have noNone : ∀ {l r : Heap}, eqHp l r = true → ∀ j : Nat, r[j]? ≠ some none := by
    intro l
    induction l with
    | nil => intro r h j; cases r with
     | nil => simp
     | cons a r => cases a <;> cases h
    | cons a l ih =>
     intro r h j
     cases r with
     | nil => simp
     | cons b r =>
      cases a <;> cases b <;> simp only [eqHp, Bool.and_eq_true] at h <;> try (cases h; done)
      cases j with
      | zero => simp
      | succ j => simpa using ih h.2 j
   exact noNone ‹_› j
  rw [List.getElem?_map, hj] at hne
  simp only [Option.map_some, List.getD_eq_getElem?_getD, ha, Option.getD_some, Option.bind_some] at hne ⊢
  cases hr : renA keep a with
  | none => rw [hr] at hne; exact absurd rfl hne
  | some a' =>
   have := Q93 (n := H2.length) hr
   simp only [Option.map_some, this]
 rw [e2, e3] at this
 simpa [renH] using this
def Q8M (C : Ctx) (c : Code) (ann : Ann) : Nat → Q3y
 | 0 => Q4J
 | n + 1 => ⟨fun st K => evC C c ann st fun e st' => match e with
  | .normal => (Q8M C c ann n).f st' K
  | e => K e st'⟩
inductive Q9z (np : Nat) (P : Program) (c : Code) : Nat → St → Exit → St → Prop
 | out {j st e s} : e ≠ .normal → Goes np P c st e s → Q9z np P c (j + 1) st e s
 | step {j st s1 e s} : Goes np P c st .normal s1 → Q9z np P c j s1 e s → Q9z np P c (j + 1) st e s
theorem Qbc {np : Nat} {P : Program} {c : Code} {n : Nat} {st : St} {e : Exit} {s : St} (h : Q9z np P c n st e s) : Goes np P (.loop c) st e s := by
 intro m μ w a Q rh rs hQ
 refine Q4u (fun j a' w' => ∃ st1 m1 μ1, Q9z np P c j st1 e s ∧ RS m1 μ1 st1.sl a' ∧ Q26 np m μ st.H w m1 μ1 st1.H w') ?_ ?_ (n := n) ⟨st, m, μ, h, rs, (Post.refl rh).toW⟩
 ·rintro a w ⟨_, _, _, h, _⟩; cases h
 ·rintro j a1 w1 ⟨st1, m1, μ1, h1, rs1, p1⟩
  cases h1 with
  | out hne hg =>
   refine hg m1 μ1 w1 a1 _ p1.rh rs1 fun a2 w2 m2 μ2 rs2 p2 => ?_
   have := hQ a2 w2 m2 μ2 rs2 (p1.trans p2)
   cases e <;> first | exact absurd rfl hne | exact this
  | step hg hc =>
   refine hg m1 μ1 w1 a1 _ p1.rh rs1 fun a2 w2 m2 μ2 rs2 p2 => ?_
   exact ⟨_, m2, μ2, hc, rs2, p1.trans p2⟩
theorem QeP {np : Nat} {C : Ctx} (hΓ : ∀ f, Qz C.P f (C.Γ f)) (hmix : C.P.follows .mixedOrders = true) {c : Code} {ann : Ann} (hA : Q1 np C.P c ann) (n : Nat) : StOK np C.P (.loop c) (Q8M C c ann n) := by
 intro ρ st K r h
 have key : ∀ (n : Nat) (st : St), (Q8M C c ann n).f st K = some r → ∃ e s, K e s = some r ∧ Q9z np C.P c n st e s := by
  intro n
  induction n with
  | zero => intro st h; cases h
  | succ n ih =>
   intro st h
   simp only [Q8M] at h
   obtain ⟨e, s, h1, h2⟩ := Q2T hΓ hmix c ann _ _ _ hA h
   cases e with
   | normal =>
    obtain ⟨e', s', h3, h4⟩ := ih s h1
    exact ⟨e', s', h3, .step h2 h4⟩
   | _ => exact ⟨_, _, h1, .out (by simp) h2⟩
 obtain ⟨e, s, h1, h2⟩ := key n st h
 exact ⟨e, s, h1, Qbc h2⟩
def annR (C : Ctx) (fuel : Nat) : Code → Ann
 | .seq a b => .node [] none (annR C fuel a) (annR C fuel b)
 | .cond _ a b => .node [] none (annR C fuel a) (annR C fuel b)
 | .block _ a => .node [] none (annR C fuel a) .nil
 | .loop a => .node [] (some (Q8M C a (annR C fuel a) fuel)) .nil .nil
 | _ => .nil
theorem Qai {C : Ctx} (hΓ : ∀ f, Qz C.P f (C.Γ f)) (hmix : C.P.follows .mixedOrders = true) (fuel np : Nat) : ∀ c, Q1 np C.P c (annR C fuel c) := by
 intro c
 induction c with
 | seq a b ha hb => exact ⟨rfl, ha, hb⟩
 | cond v a b ha hb => exact ⟨rfl, ha, hb⟩
 | block i a ha => exact ⟨rfl, ha⟩
 | loop a ha => exact ⟨rfl, QeP hΓ hmix ha fuel⟩
 | _ => trivial
def Qcs : List (Nat × Func) → Nat → Option Func
 | [], _ => none
 | (i, fn) :: l, f => cond (Nat.beq f i) (some fn) (Qcs l f)
def Q7q (P : Program) (l : List (Nat × Func)) : Prop := ∀ f fn, Qcs l f = some fn → P.funcs[f]? = some fn ∧ (fn.name == "runtime.NumGoroutine") = false
theorem Q7q.nil {P : Program} : Q7q P [] := fun _ _ h => by cases h
theorem Q7q.cons {P : Program} {i : Nat} {fn : Func} {l : List (Nat × Func)} (h1 : P.funcs[i]? = some fn) (h2 : (fn.name == "runtime.NumGoroutine") = false) (h3 : Q7q P l) : Q7q P ((i, fn) :: l) := by
 intro f fn' h
 simp only [Qcs] at h
 cases hb : Nat.beq f i with
 | true =>
  rw [hb] at h
  have := Nat.eq_of_beq_eq_true hb
  subst this
  cases h
  exact ⟨h1, h2⟩
 | false => rw [hb] at h; exact h3 f fn' h
def runG (P : Program) (told : List (Nat × QS)) (fns : List (Nat × Func)) (rds : List Nat) (fuel : Nat) : Nat → Nat → QS
 | 0, f => gam told f
 | n + 1, f => match Qcs fns f with
  | some fn => (match fn.body with
   | some c => cond (inB f rds) (Qby ⟨P, runG P told fns rds fuel n⟩ fn c (annR ⟨P, runG P told fns rds fuel n⟩ fuel c)) (Qbu ⟨P, runG P told fns rds fuel n⟩ fn c (annR ⟨P, runG P told fns rds fuel n⟩ fuel c))
   | none => gam told f)
  | none => gam told f
theorem Q5B {P : Program} {told : List (Nat × QS)} {fns : List (Nat × Func)} {rds : List Nat} {fuel : Nat} (ht : ∀ f, Qz P f (gam told f)) (hmix : P.follows .mixedOrders = true) (hfns : Q7q P fns) : ∀ n f, Qz P f (runG P told fns rds fuel n f)
 | 0, f => ht f
 | n + 1, f => by
  simp only [runG]
  split
  ·rename_i fn hf
   obtain ⟨h1, h2⟩ := hfns f fn hf
   split
   ·rename_i c hc
    cases inB f rds with
    | true => exact QeO (C := ⟨P, runG P told fns rds fuel n⟩) (Q5B ht hmix hfns n) hmix h1 hc h2 (fun np => Qai (C := ⟨P, runG P told fns rds fuel n⟩) (Q5B ht hmix hfns n) hmix fuel np c)
    | false =>
    exact QeY (C := ⟨P, runG P told fns rds fuel n⟩) (Q5B ht hmix hfns n) hmix h1 hc h2 (fun np => Qai (C := ⟨P, runG P told fns rds fuel n⟩) (Q5B ht hmix hfns n) hmix fuel np c)
   ·exact ht f
  ·exact ht f
theorem QeV {P : Program} {told : List (Nat × QS)} {fns : List (Nat × Func)} {rds : List Nat} {fuel n : Nat} (ht : ∀ f, Qz P f (gam told f)) (hmix : P.follows .mixedOrders = true) (hfns : Q7q P fns) {f : Nat} {fn : Func} {c : Code} {tout : List Ty} {y : dens tout}
  (hf : P.funcs[f]? = some fn) (hb : fn.body = some c) (hn : (fn.name == "runtime.NumGoroutine") = false)
  (hr : ∀ {ρ : Type} (K : dens tout → Option ρ), evC ⟨P, runG P told fns rds fuel n⟩ c (annR ⟨P, runG P told fns rds fuel n⟩ fuel c) (Q4D fn.ntmps []) (finK P fn.results.toList tout K) = K y) : Qz P f (Q1l [] tout fun _ => some y) :=
 Q1k (C := ⟨P, runG P told fns rds fuel n⟩) (Q5B ht hmix hfns n) hmix (tin := []) (tout := tout) (fun _ K => K y) hf hb hn (Qai (C := ⟨P, runG P told fns rds fuel n⟩) (Q5B ht hmix hfns n) hmix fuel 0 c) (fun _ K => hr K)
end Go.Am
namespace Go.Am
open Go
def eqDs : (ts : List Ty) → dens ts → dens ts → Bool
 | [], _, _ => true
 | t :: ts, x, y => eqT t x.1 y.1 && eqDs ts x.2 y.2
theorem Q9i : ∀ {ts : List Ty} {x y : dens ts}, eqDs ts x y = true → x = y
 | [], _, _, _ => rfl
 | t :: ts, x, y, h => by
  simp only [eqDs, Bool.and_eq_true] at h
  exact Prod.ext (Q4l h.1) (Q9i h.2)
def Qco (tin tout : List Ty) (x0 : dens tin) (y0 : dens tout) (J : dens tin → Option (dens tout)) (x : dens tin) : Option (dens tout) :=
 bif eqDs tin x x0 then some y0 else J x
theorem Qe7 {P : Program} {f : Nat} {tin tout : List Ty} {x0 : dens tin} {y0 : dens tout} {J : dens tin → Option (dens tout)} (h : J x0 = some y0) (hs : Qz P f (Q1l tin tout J)) :
  Qz P f (Q1l tin tout (Qco tin tout x0 y0 J)) := by
 have e : Qco tin tout x0 y0 J = J := by
  funext x
  unfold Qco
  cases hb : eqDs tin x x0 with
  | true => rw [Q9i hb, h]; rfl
  | false => rfl
 rw [e]; exact @hs
end Go.Am
