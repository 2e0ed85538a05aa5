/- A part of a proof: a machine of abstract values that tells what functions of the program compute, and the plain facts on them. -/
import Derived.Calls
set_option linter.unusedVariables false
set_option linter.unusedSimpArgs false
set_option linter.unnecessarySimpa false
set_option linter.unusedSectionVars false
namespace Go.Am
open Go
inductive Ty where
 | int (k : IntKind) | bool | str | unit | pair (a b : Ty) | arr (n : Nat) (t : Ty) | sl (t : Ty)
 deriving DecidableEq
@[reducible] def Ty.den : Ty → Type
 | .int _ => Int
 | .bool => Bool
 | .str => ByteArray
 | .unit => Unit
 | .pair a b => a.den × b.den
 | .arr _ t => List t.den
 | .sl t => List t.den
def Ty.size : Ty → Nat
 | .int _ => 1
 | .bool => 1
 | .str => 1
 | .unit => 0
 | .pair a b => a.size + b.size
 | .arr n t => n * t.size
 | .sl _ => 1
def Ty.zero : (t : Ty) → t.den
 | .int _ => (0 : Int)
 | .bool => false
 | .str => ByteArray.empty
 | .unit => ()
 | .pair a b => (a.zero, b.zero)
 | .arr n t => List.replicate n t.zero
 | .sl _ => []
inductive AVal where
 | undef
 | int (k : IntKind) (n : Int)
 | bool (b : Bool)
 | str (s : ByteArray)
 | nilp
 | ptr (id : Nat) (path : List Nat)
 | nils
 | sl (id : Nat) (path : List Nat) (off len : Nat)
 | ros (t : Ty) (xs : List t.den)
 | rop (t : Ty) (x : t.den)
 | arr (n : Nat) (t : Ty) (xs : List t.den)
 | vec (t : Ty) (xs : List t.den)
 | vsl (id : Nat)
 | unit
 | pair (a b : AVal)
 | parr (id : Nat) (path : List Nat) (off n : Nat)
 | sfp (id : Nat) (path : List Nat) (T : TypeId)
 | vbs (id : Nat)
 | fn (f : Nat) (caps : AVal)
 | mp (id : Nat)
 | nilm
 | mpc (kt vt : Ty) (xs : List (kt.den × vt.den))
 | tup (a : AVal)
def toA : (t : Ty) → t.den → AVal
 | .int k, n => .int k n
 | .bool, b => .bool b
 | .str, s => .str s
 | .unit, _ => .unit
 | .pair a b, x => .pair (toA a x.1) (toA b x.2)
 | .arr n t, xs => .arr n t xs
 | .sl t, xs => .ros t xs
def Q12 : (t : Ty) → AVal → Option t.den
 | .int k, .int k' n => if k' = k then some n else none
 | .bool, .bool b => some b
 | .str, .str s => some s
 | .unit, .unit => some ()
 | .pair a b, .pair x y => (Q12 a x).bind fun u => (Q12 b y).bind fun v => some (u, v)
 | .arr n t, .arr n' t' xs => if n' = n then (if h : t' = t then some (h ▸ xs) else none) else none
 | .sl t, .ros t' xs => if h : t' = t then some (h ▸ xs) else none
 | .sl _, .nils => some []
 | _, _ => none
inductive Sh where
 | leaf | unit | pair (a b : Sh) | arr (n : Nat) (t : Ty)
 deriving DecidableEq
def Sh.size : Sh → Nat
 | .leaf => 1
 | .unit => 0
 | .pair a b => a.size + b.size
 | .arr n t => n * t.size
def Ty.sh : Ty → Sh
 | .unit => .unit
 | .pair a b => .pair a.sh b.sh
 | .arr n t => .arr n t
 | _ => .leaf
def AVal.sh : AVal → Sh
 | .unit => .unit
 | .pair a b => .pair a.sh b.sh
 | .arr n t _ => .arr n t
 | .vec t xs => .arr xs.length t
 | .mpc _ _ _ => .unit
 | _ => .leaf
def AVal.size (a : AVal) : Nat := a.sh.size
def AVal.isVb : AVal → Bool
 | .vec (.int .u8) _ => true
 | _ => false
def Q6G : AVal → Nat → Option AVal
 | .pair a _, 0 => some a
 | .pair _ b, i + 1 => Q6G b i
 | .arr _ t xs, i => some (toA t (xs.getD i t.zero))
 | .vec t xs, i => some (toA t (xs.getD i t.zero))
 | _, _ => none
def getP (a : AVal) : List Nat → Option AVal
 | [] => some a
 | i :: p => (Q6G a i).bind fun x => getP x p
def setF : AVal → Nat → AVal → Option AVal
 | .pair _ b, 0, x => some (.pair x b)
 | .pair a b, i + 1, x => (setF b i x).bind fun b' => some (.pair a b')
 | .arr n t xs, i, x => (Q12 t x).bind fun y => some (.arr n t (xs.set i y))
 | .vec t xs, i, x => (Q12 t x).bind fun y => some (.vec t (xs.set i y))
 | _, _, _ => none
def setP (a : AVal) : List Nat → AVal → Option AVal
 | [], x => some x
 | i :: p, x => (Q6G a i).bind fun c => (setP c p x).bind fun c' => setF a i c'
def Sh.fieldOff : Sh → Nat → Option (Nat × Sh)
 | .pair a _, 0 => some (0, a)
 | .pair a b, i + 1 => (Sh.fieldOff b i).bind fun r => some (a.size + r.1, r.2)
 | .arr n t, i => if i < n then some (i * t.size, t.sh) else none
 | _, _ => none
def Sh.offP (s : Sh) : List Nat → Option (Nat × Sh)
 | [] => some (0, s)
 | i :: p => (s.fieldOff i).bind fun r => (Sh.offP r.2 p).bind fun q => some (r.1 + q.1, q.2)
structure Loc where
 b : Nat
 off : Nat
 sh : Sh
 tot : Nat
 E : TypeId
 mp : Bool
abbrev LMap := Nat → Option Loc
abbrev Mem := Nat → Option (Array Value)
def Mem.cells (m : Mem) (b o n : Nat) : Option (List Value) :=
 match m b with
 | some cs => if o + n ≤ cs.size then some ((cs.toList.drop o).take n) else none
 | none => none
def DRel (m : Mem) : (t : Ty) → t.den → List Value → Prop
 | .int k, n, cs => cs = [.int k n]
 | .bool, b, cs => cs = [.bool b]
 | .str, s, cs => cs = [.string s]
 | .unit, _, cs => cs = []
 | .pair a b, x, cs => DRel m a x.1 (cs.take a.size) ∧ DRel m b x.2 (cs.drop a.size)
 | .arr n t, xs, cs => xs.length = n ∧ cs.length = n * t.size ∧ ∀ i, i < n → DRel m t (xs.getD i t.zero) ((cs.drop (i * t.size)).take t.size)
 | .sl t, xs, cs => ∃ a cap, cs = [.slice a xs.length cap] ∧ xs.length ≤ cap ∧
   ∀ i, i < xs.length → ∃ ad c, a = some ad ∧ ad.spot = none ∧ m.cells ad.block (ad.off + i * t.size) t.size = some c ∧ DRel m t (xs.getD i t.zero) c
def CRel (m : Mem) (μ : LMap) : AVal → List Value → Prop
 | .undef, _ => False
 | .int k n, cs => cs = [.int k n]
 | .bool b, cs => cs = [.bool b]
 | .str s, cs => cs = [.string s]
 | .nilp, cs => cs = [.pointer none]
 | .ptr id p, cs => ∃ l o s, μ id = some l ∧ l.sh.offP p = some (o, s) ∧ cs = [.pointer (some ⟨l.b, l.off + o, none⟩)]
 | .nils, cs => cs = [.slice none 0 0]
 | .sl id p off len, cs => ∃ l o n t a cap, μ id = some l ∧ l.sh.offP p = some (o, .arr n t) ∧ off + len ≤ n ∧ len ≤ cap ∧
   cs = [.slice a len cap] ∧ ((a = some ⟨l.b, l.off + o + off * t.size, none⟩ ∧ (p = [] → l.off + (off + cap) * t.size ≤ l.tot)) ∨ cap = 0)
 | .ros t xs, cs => DRel m (.sl t) xs cs
 | .rop t x, cs => ∃ ad c, cs = [.pointer (some ad)] ∧ ad.spot = none ∧ m.cells ad.block ad.off t.size = some c ∧ DRel m t x c
 | .arr n t xs, cs => DRel m (.arr n t) xs cs
 | .vec t xs, cs => DRel m (.arr xs.length t) xs cs
 | .vsl id, cs => ∃ l n t a cap, μ id = some l ∧ l.sh = .arr n t ∧ n ≤ cap ∧ cs = [.slice a n cap] ∧ ((a = some ⟨l.b, l.off, none⟩ ∧ l.off + cap * t.size ≤ l.tot) ∨ cap = 0)
 | .unit, cs => cs = []
 | .pair a b, cs => CRel m μ a (cs.take a.size) ∧ CRel m μ b (cs.drop a.size)
 | .parr id p off n, cs => ∃ l o N t, μ id = some l ∧ l.sh.offP p = some (o, .arr N t) ∧ off + n ≤ N ∧ cs = [.pointer (some ⟨l.b, l.off + o + off * t.size, none⟩)]
 | .vbs id, cs => ∃ l n a cap, μ id = some l ∧ l.sh = .arr n (.int .u8) ∧ n ≤ cap ∧ cs = [.slice a n cap] ∧ ((a = some ⟨l.b, l.off, none⟩ ∧ 0 < cap ∧ l.off + cap ≤ l.tot) ∨ (cap = 0 ∧ a = none))
 | .sfp id p T, cs => ∃ l o s, μ id = some l ∧ l.E = T ∧ l.off = 0 ∧ l.tot = l.sh.size ∧ 0 < l.tot ∧ l.sh.offP p = some (o, s) ∧ (cs = [.pointer none] ∨ cs = [.pointer (some ⟨l.b, o, none⟩)])
 | .fn f caps, cs => ∃ cap : Array Value, cs = [.func (.func f) #[] cap] ∧ CRel m μ caps cap.toList
 | .mp id, cs => ∃ l, μ id = some l ∧ l.mp = true ∧ cs = [.map (some l.b)]
 | .nilm, cs => cs = [.map none]
 | .mpc _ _ _, cs => cs = []
 | .tup _, _ => False
def AVal.isAgg : AVal → Bool
 | .unit => true
 | .pair _ _ => true
 | .arr _ _ _ => true
 | .vec _ _ => true
 | .mpc _ _ _ => true
 | _ => false
def Q1k (m : Mem) (μ : LMap) (a : AVal) (v : Value) : Prop :=
 match a with
 | .undef => True
 | .tup _ => False
 | a => if a.isAgg then ∃ cs, v = .agg cs ∧ CRel m μ a cs.toList else CRel m μ a [v]
def TRel (m : Mem) (μ : LMap) : AVal → List Value → Prop
 | .unit, vs => vs = []
 | .pair a b, vs => ∃ v r, vs = v :: r ∧ Q1k m μ a v ∧ TRel m μ b r
 | _, _ => False
def VRel (m : Mem) (μ : LMap) (a : AVal) (v : Value) : Prop :=
 match a with
 | .tup s => ∃ vs, v = .tuple vs ∧ TRel m μ s vs.toList
 | a => Q1k m μ a v
theorem Ty.sh_size : ∀ t : Ty, t.sh.size = t.size
 | .int _ => rfl
 | .bool => rfl
 | .str => rfl
 | .unit => rfl
 | .pair a b => by simp [Ty.sh, Sh.size, Ty.size, Ty.sh_size a, Ty.sh_size b]
 | .arr _ _ => rfl
 | .sl _ => rfl
theorem Q6g : ∀ (t : Ty) (x : t.den), (toA t x).sh = t.sh
 | .int _, _ => rfl
 | .bool, _ => rfl
 | .str, _ => rfl
 | .unit, _ => rfl
 | .pair a b, x => by simp [toA, AVal.sh, Ty.sh, Q6g a, Q6g b]
 | .arr _ _, _ => rfl
 | .sl _, _ => rfl
theorem Q4L (t : Ty) (x : t.den) : (toA t x).size = t.size := by
 rw [AVal.size, Q6g, Ty.sh_size]
theorem DRel.length {m : Mem} : ∀ {t : Ty} {x : t.den} {cs : List Value}, DRel m t x cs → cs.length = t.size
 | .int _, _, _, h => by simp only [DRel] at h; subst h; rfl
 | .bool, _, _, h => by simp only [DRel] at h; subst h; rfl
 | .str, _, _, h => by simp only [DRel] at h; subst h; rfl
 | .unit, _, _, h => by simp only [DRel] at h; subst h; rfl
 | .pair a b, x, cs, h => by
  simp only [DRel] at h
  have h1 := DRel.length h.1
  have h2 := DRel.length h.2
  simp only [List.length_take, List.length_drop] at h1 h2
  simp only [Ty.size]; omega
 | .arr _ _, _, _, h => by simp only [DRel] at h; exact h.2.1
 | .sl _, _, _, h => by simp only [DRel] at h; obtain ⟨a, cap, h, _⟩ := h; subst h; rfl
theorem Q1n {m : Mem} {μ : LMap} : ∀ {t : Ty} {x : t.den} {cs : List Value}, CRel m μ (toA t x) cs ↔ DRel m t x cs
 | .int _, _, _ => Iff.rfl
 | .bool, _, _ => Iff.rfl
 | .str, _, _ => Iff.rfl
 | .unit, _, _ => Iff.rfl
 | .pair a b, x, cs => by
  simp only [toA, CRel, DRel, Q4L, Q1n (t := a), Q1n (t := b)]
 | .arr _ _, _, _ => Iff.rfl
 | .sl _, _, _ => Iff.rfl
theorem Q1Y {m : Mem} {μ : LMap} : ∀ {t : Ty} {a : AVal} {x : t.den}, Q12 t a = some x → a.sh = t.sh ∧ ∀ {cs : List Value}, CRel m μ a cs → DRel m t x cs
 | .int k, a, x, h => by
  cases a <;> simp only [Q12] at h <;> try (cases h; done)
  rename_i k' n
  by_cases hk : k' = k
  ·rw [if_pos hk] at h; cases h; subst hk; exact ⟨rfl, fun h => h⟩
  ·rw [if_neg hk] at h; cases h
 | .bool, a, x, h => by
  cases a <;> simp only [Q12] at h <;> try (cases h; done)
  cases h; exact ⟨rfl, fun h => h⟩
 | .str, a, x, h => by
  cases a <;> simp only [Q12] at h <;> try (cases h; done)
  cases h; exact ⟨rfl, fun h => h⟩
 | .unit, a, x, h => by
  cases a <;> simp only [Q12] at h <;> try (cases h; done)
  exact ⟨rfl, fun h => h⟩
 | .pair a b, v, x, h => by
  cases v <;> simp only [Q12] at h <;> try (cases h; done)
  rename_i va vb
  cases ha : Q12 a va with
  | none => rw [ha] at h; cases h
  | some u =>
   rw [ha] at h
   simp only [Option.bind_some] at h
   cases hb : Q12 b vb with
   | none => rw [hb] at h; cases h
   | some w =>
    rw [hb] at h
    cases h
    have iha := Q1Y (m := m) (μ := μ) ha
    have ihb := Q1Y (m := m) (μ := μ) hb
    refine ⟨by simp [AVal.sh, Ty.sh, iha.1, ihb.1], fun {cs} hc => ?_⟩
    simp only [CRel] at hc
    have hs : va.size = a.size := by rw [AVal.size, iha.1, Ty.sh_size]
    rw [hs] at hc
    exact ⟨iha.2 hc.1, ihb.2 hc.2⟩
 | .arr n t, v, x, h => by
  cases v <;> simp only [Q12] at h <;> try (cases h; done)
  rename_i n' t' xs
  by_cases hn : n' = n
  ·rw [if_pos hn] at h
   by_cases ht : t' = t
   ·subst hn; subst ht; rw [dif_pos rfl] at h; cases h; exact ⟨rfl, fun h => h⟩
   ·rw [dif_neg ht] at h; cases h
  ·rw [if_neg hn] at h; cases h
 | .sl t, v, x, h => by
  cases v <;> simp only [Q12] at h <;> try (cases h; done)
  ·cases h
   refine ⟨rfl, fun {cs} hc => ?_⟩
   simp only [CRel] at hc
   exact ⟨none, 0, hc, Nat.le_refl _, fun i hi => absurd hi (Nat.not_lt_zero i)⟩
  ·rename_i t' xs
   by_cases ht : t' = t
   ·subst ht; rw [dif_pos rfl] at h; cases h; exact ⟨rfl, fun h => h⟩
   ·rw [dif_neg ht] at h; cases h
theorem CRel.length {m : Mem} {μ : LMap} : ∀ {a : AVal} {cs : List Value}, CRel m μ a cs → cs.length = a.size
 | .undef, _, h => h.elim
 | .int _ _, _, h => by simp only [CRel] at h; subst h; rfl
 | .bool _, _, h => by simp only [CRel] at h; subst h; rfl
 | .str _, _, h => by simp only [CRel] at h; subst h; rfl
 | .nilp, _, h => by simp only [CRel] at h; subst h; rfl
 | .ptr _ _, _, h => by simp only [CRel] at h; obtain ⟨l, o, s, _, _, h⟩ := h; subst h; rfl
 | .nils, _, h => by simp only [CRel] at h; subst h; rfl
 | .sl _ _ _ _, _, h => by simp only [CRel] at h; obtain ⟨l, o, n, t, a, cap, _, _, _, _, h, _⟩ := h; subst h; rfl
 | .ros t xs, _, h => by have := DRel.length (t := .sl t) h; exact this
 | .rop _ _, _, h => by simp only [CRel] at h; obtain ⟨ad, c, h, _⟩ := h; subst h; rfl
 | .arr n t xs, _, h => by have := DRel.length (t := .arr n t) h; exact this
 | .vec t xs, _, h => by have := DRel.length (t := .arr xs.length t) h; exact this
 | .vsl _, _, h => by simp only [CRel] at h; obtain ⟨l, n, t, a, cap, _, _, _, h, _⟩ := h; subst h; rfl
 | .unit, _, h => by simp only [CRel] at h; subst h; rfl
 | .pair a b, cs, h => by
  simp only [CRel] at h
  have h1 := CRel.length h.1
  have h2 := CRel.length h.2
  simp only [List.length_take, List.length_drop] at h1 h2
  simp only [AVal.size, AVal.sh, Sh.size] at *; omega
 | .parr _ _ _ _, _, h => by simp only [CRel] at h; obtain ⟨l, o, N, t, _, _, _, h⟩ := h; subst h; rfl
 | .vbs _, _, h => by simp only [CRel] at h; obtain ⟨l, n, a, cap, _, _, _, h, _⟩ := h; subst h; rfl
 | .sfp _ _ _, _, h => by
  simp only [CRel] at h
  obtain ⟨l, o, s, _, _, _, _, _, _, h | h⟩ := h <;> subst h <;> rfl
 | .fn _ _, _, h => by simp only [CRel] at h; obtain ⟨cap, h, _⟩ := h; subst h; rfl
 | .mp _, _, h => by simp only [CRel] at h; obtain ⟨l, _, _, h⟩ := h; subst h; rfl
 | .nilm, _, h => by simp only [CRel] at h; subst h; rfl
 | .mpc _ _ _, _, h => by simp only [CRel] at h; subst h; rfl
 | .tup _, _, h => h.elim
def Mem.le (m m' : Mem) : Prop := ∀ b c, m b = some c → m' b = some c
def LMap.le (μ μ' : LMap) : Prop := ∀ i l, μ i = some l → μ' i = some l
theorem Mem.le_refl (m : Mem) : m.le m := fun _ _ h => h
theorem LMap.le_refl (m : LMap) : m.le m := fun _ _ h => h
theorem Mem.le_trans {a b c : Mem} (h : a.le b) (k : b.le c) : a.le c := fun x y z => k x y (h x y z)
theorem LMap.le_trans {a b c : LMap} (h : a.le b) (k : b.le c) : a.le c := fun x y z => k x y (h x y z)
theorem Mem.cells_mono {m m' : Mem} (h : m.le m') {b o n : Nat} {c : List Value} (hc : m.cells b o n = some c) : m'.cells b o n = some c := by
 unfold Mem.cells at *
 cases hb : m b with
 | none => rw [hb] at hc; cases hc
 | some cs => rw [hb] at hc; rw [h b cs hb]; exact hc
theorem DRel.mono {m m' : Mem} (hm : m.le m') : ∀ {t : Ty} {x : t.den} {cs : List Value}, DRel m t x cs → DRel m' t x cs
 | .int _, _, _, h => h
 | .bool, _, _, h => h
 | .str, _, _, h => h
 | .unit, _, _, h => h
 | .pair a b, x, cs, h => by simp only [DRel] at *; exact ⟨DRel.mono hm h.1, DRel.mono hm h.2⟩
 | .arr _ t, _, _, h => by simp only [DRel] at *; exact ⟨h.1, h.2.1, fun i hi => DRel.mono hm (h.2.2 i hi)⟩
 | .sl t, _, _, h => by
  simp only [DRel] at *
  obtain ⟨a, cap, h1, h2, h3⟩ := h
  refine ⟨a, cap, h1, h2, fun i hi => ?_⟩
  obtain ⟨ad, c, g1, g2, g3, g4⟩ := h3 i hi
  exact ⟨ad, c, g1, g2, Mem.cells_mono hm g3, DRel.mono hm g4⟩
theorem CRel.mono {m m' : Mem} {μ μ' : LMap} (hm : m.le m') (hμ : μ.le μ') : ∀ {a : AVal} {cs : List Value}, CRel m μ a cs → CRel m' μ' a cs
 | .undef, _, h => h.elim
 | .int _ _, _, h => h
 | .bool _, _, h => h
 | .str _, _, h => h
 | .nilp, _, h => h
 | .ptr _ _, _, h => by simp only [CRel] at *; obtain ⟨l, o, s, h1, h2, h3⟩ := h; exact ⟨l, o, s, hμ _ _ h1, h2, h3⟩
 | .nils, _, h => h
 | .sl _ _ _ _, _, h => by simp only [CRel] at *; obtain ⟨l, o, n, t, a, cap, h1, h2⟩ := h; exact ⟨l, o, n, t, a, cap, hμ _ _ h1, h2⟩
 | .ros t xs, _, h => by simp only [CRel] at *; exact DRel.mono (t := .sl t) hm h
 | .rop _ _, _, h => by simp only [CRel] at *; obtain ⟨ad, c, h1, h2, h3, h4⟩ := h; exact ⟨ad, c, h1, h2, Mem.cells_mono hm h3, DRel.mono hm h4⟩
 | .arr n t xs, _, h => by simp only [CRel] at *; exact DRel.mono (t := .arr n t) hm h
 | .vec t xs, _, h => by simp only [CRel] at *; exact DRel.mono (t := .arr xs.length t) hm h
 | .vsl _, _, h => by simp only [CRel] at *; obtain ⟨l, n, t, a, cap, h1, h2⟩ := h; exact ⟨l, n, t, a, cap, hμ _ _ h1, h2⟩
 | .unit, _, h => h
 | .pair a b, cs, h => by simp only [CRel] at *; exact ⟨CRel.mono hm hμ h.1, CRel.mono hm hμ h.2⟩
 | .parr _ _ _ _, _, h => by simp only [CRel] at *; obtain ⟨l, o, N, t, h1, h2⟩ := h; exact ⟨l, o, N, t, hμ _ _ h1, h2⟩
 | .sfp _ _ _, _, h => by simp only [CRel] at *; obtain ⟨l, o, s, h1, h2⟩ := h; exact ⟨l, o, s, hμ _ _ h1, h2⟩
 | .vbs _, _, h => by simp only [CRel] at *; obtain ⟨l, n, a, cap, h1, h2⟩ := h; exact ⟨l, n, a, cap, hμ _ _ h1, h2⟩
 | .fn _ c, _, h => by simp only [CRel] at *; obtain ⟨cap, h1, h2⟩ := h; exact ⟨cap, h1, CRel.mono hm hμ h2⟩
 | .mp _, _, h => by simp only [CRel] at *; obtain ⟨l, h1, h2⟩ := h; exact ⟨l, hμ _ _ h1, h2⟩
 | .nilm, _, h => h
 | .mpc _ _ _, _, h => h
 | .tup _, _, h => h.elim
theorem Q1k.mono {m m' : Mem} {μ μ' : LMap} (hm : m.le m') (hμ : μ.le μ') {a : AVal} {v : Value} (h : Q1k m μ a v) : Q1k m' μ' a v := by
 unfold Q1k at *
 split at h
 ·trivial
 ·exact h.elim
 ·split at h
  ·obtain ⟨cs, h1, h2⟩ := h; rw [if_pos ‹_›]; exact ⟨cs, h1, h2.mono hm hμ⟩
  ·rw [if_neg ‹_›]; exact h.mono hm hμ
theorem TRel.mono {m m' : Mem} {μ μ' : LMap} (hm : m.le m') (hμ : μ.le μ') : ∀ {a : AVal} {vs : List Value}, TRel m μ a vs → TRel m' μ' a vs
 | .unit, _, h => h
 | .pair a b, _, h => by
  simp only [TRel] at *
  obtain ⟨v, r, h1, h2, h3⟩ := h
  exact ⟨v, r, h1, h2.mono hm hμ, TRel.mono hm hμ h3⟩
 | .undef, _, h | .int _ _, _, h | .bool _, _, h | .str _, _, h | .nilp, _, h | .ptr _ _, _, h | .nils, _, h | .sl _ _ _ _, _, h | .ros _ _, _, h
 | .rop _ _, _, h | .arr _ _ _, _, h | .vec _ _, _, h | .vsl _, _, h | .vbs _, _, h | .parr _ _ _ _, _, h | .sfp _ _ _, _, h | .fn _ _, _, h | .mp _, _, h | .nilm, _, h | .mpc _ _ _, _, h | .tup _, _, h => h.elim
theorem VRel.mono {m m' : Mem} {μ μ' : LMap} (hm : m.le m') (hμ : μ.le μ') {a : AVal} {v : Value} (h : VRel m μ a v) : VRel m' μ' a v := by
 unfold VRel at *
 split at h
 ·obtain ⟨vs, h1, h2⟩ := h; exact ⟨vs, h1, h2.mono hm hμ⟩
 ·exact h.mono hm hμ
theorem Q0Z (cs : List Value) (a b o n : Nat) (h : o + n ≤ b) : (((cs.drop a).take b).drop o).take n = (cs.drop (a + o)).take n := by
 rw [List.drop_take, List.take_take, List.drop_drop]
 congr 1
 omega
theorem Q2l {m : Mem} {μ : LMap} : ∀ {a : AVal} {cs : List Value} {i o : Nat} {s : Sh}, CRel m μ a cs → a.sh.fieldOff i = some (o, s) →
  o + s.size ≤ a.sh.size ∧ ∃ x, Q6G a i = some x ∧ x.sh = s ∧ CRel m μ x ((cs.drop o).take s.size)
 | .pair a b, cs, 0, o, s, hc, h => by
  simp only [AVal.sh, Sh.fieldOff] at h
  cases h
  simp only [CRel] at hc
  refine ⟨by simp [AVal.sh, Sh.size], a, rfl, rfl, ?_⟩
  simpa [AVal.size] using hc.1
 | .pair a b, cs, i + 1, o, s, hc, h => by
  simp only [AVal.sh, Sh.fieldOff] at h
  cases hb : b.sh.fieldOff i with
  | none => rw [hb] at h; cases h
  | some r =>
   obtain ⟨o', s'⟩ := r
   rw [hb] at h
   simp only [Option.bind_some, Option.some.injEq, Prod.mk.injEq] at h
   obtain ⟨h1, h2⟩ := h
   subst h1; subst h2
   simp only [CRel] at hc
   obtain ⟨hle, x, hx, hs, hr⟩ := Q2l hc.2 hb
   refine ⟨by simp only [AVal.sh, Sh.size]; omega, x, hx, hs, ?_⟩
   rw [List.drop_drop] at hr
   exact hr
 | .arr n t xs, cs, i, o, s, hc, h => by
  simp only [AVal.sh, Sh.fieldOff] at h
  by_cases hi : i < n
  ·rw [if_pos hi] at h
   simp only [Option.some.injEq, Prod.mk.injEq] at h
   obtain ⟨h1, h2⟩ := h
   subst h1; subst h2
   simp only [CRel, DRel] at hc
   refine ⟨?_, _, rfl, Q6g _ _, ?_⟩
   ·simp only [AVal.sh, Sh.size, Ty.sh_size]
    have : (i + 1) * t.size ≤ n * t.size := Nat.mul_le_mul_right _ hi
    rw [Nat.add_mul] at this; omega
   ·rw [Ty.sh_size]; exact Q1n.2 (hc.2.2 i hi)
  ·rw [if_neg hi] at h; cases h
 | .vec t xs, cs, i, o, s, hc, h => by
  simp only [AVal.sh, Sh.fieldOff] at h
  by_cases hi : i < xs.length
  ·rw [if_pos hi] at h
   simp only [Option.some.injEq, Prod.mk.injEq] at h
   obtain ⟨h1, h2⟩ := h
   subst h1; subst h2
   simp only [CRel, DRel] at hc
   refine ⟨?_, _, rfl, Q6g _ _, ?_⟩
   ·simp only [AVal.sh, Sh.size, Ty.sh_size]
    have : (i + 1) * t.size ≤ xs.length * t.size := Nat.mul_le_mul_right _ hi
    rw [Nat.add_mul] at this; omega
   ·rw [Ty.sh_size]; exact Q1n.2 (hc.2.2 i hi)
  ·rw [if_neg hi] at h; cases h
 | .unit, _, _, _, _, _, h | .undef, _, _, _, _, _, h | .int _ _, _, _, _, _, _, h | .bool _, _, _, _, _, _, h | .str _, _, _, _, _, _, h | .nilp, _, _, _, _, _, h | .ptr _ _, _, _, _, _, _, h
 | .nils, _, _, _, _, _, h | .sl _ _ _ _, _, _, _, _, _, h | .ros _ _, _, _, _, _, _, h | .rop _ _, _, _, _, _, _, h | .parr _ _ _ _, _, _, _, _, _, h | .sfp _ _ _, _, _, _, _, _, h | .mp _, _, _, _, _, _, h | .nilm, _, _, _, _, _, h | .mpc _ _ _, _, _, _, _, _, h | .vbs _, _, _, _, _, _, h | .vsl _, _, _, _, _, _, h | .fn _ _, _, _, _, _, _, h | .tup _, _, _, _, _, _, h => by
  simp [AVal.sh, Sh.fieldOff] at h
theorem Q1E {m : Mem} {μ : LMap} : ∀ {p : List Nat} {a : AVal} {cs : List Value} {o : Nat} {s : Sh}, CRel m μ a cs → a.sh.offP p = some (o, s) →
  o + s.size ≤ a.sh.size ∧ ∃ x, getP a p = some x ∧ x.sh = s ∧ CRel m μ x ((cs.drop o).take s.size)
 | [], a, cs, o, s, hc, h => by
  simp only [Sh.offP] at h
  cases h
  refine ⟨by simp, a, rfl, rfl, ?_⟩
  have := hc.length
  simp only [AVal.size] at this
  rw [List.drop_zero, ← this, List.take_length]
  exact hc
 | i :: p, a, cs, o, s, hc, h => by
  simp only [Sh.offP] at h
  cases hf : a.sh.fieldOff i with
  | none => rw [hf] at h; cases h
  | some r =>
   obtain ⟨o1, s1⟩ := r
   rw [hf] at h
   simp only [Option.bind_some] at h
   cases hp : s1.offP p with
   | none => rw [hp] at h; cases h
   | some q =>
    obtain ⟨o2, s2⟩ := q
    rw [hp] at h
    simp only [Option.bind_some, Option.some.injEq, Prod.mk.injEq] at h
    obtain ⟨h1, h2⟩ := h
    subst h1; subst h2
    obtain ⟨hle, x, hx, hs, hr⟩ := Q2l hc hf
    subst hs
    obtain ⟨hle2, y, hy, hs2, hr2⟩ := Q1E hr hp
    refine ⟨by omega, y, by simp [getP, hx, hy], hs2, ?_⟩
    rw [Q0Z _ _ _ _ _ hle2] at hr2
    exact hr2
def Q0R (cs : List Value) (o : Nat) (xs : List Value) : List Value := cs.take o ++ xs ++ cs.drop (o + xs.length)
theorem Q1p {cs xs : List Value} {o : Nat} (h : o + xs.length ≤ cs.length) : (Q0R cs o xs).length = cs.length := by
 simp [Q0R]; omega
theorem Q3E (cs xs : List Value) (h : xs.length = cs.length) : Q0R cs 0 xs = xs := by
 simp [Q0R, h]
theorem Q2f {cs xs : List Value} {o a n : Nat} (h : a + n ≤ o) (hl : o ≤ cs.length) : ((Q0R cs o xs).drop a).take n = (cs.drop a).take n := by
 unfold Q0R
 rw [List.append_assoc, List.drop_append_of_le_length (by simp; omega), List.take_append_of_le_length (by simp; omega), List.drop_take, List.take_take]
 congr 1; omega
theorem Q2B {cs xs : List Value} {o a : Nat} (h : o + xs.length ≤ a) (hl : o + xs.length ≤ cs.length) : (Q0R cs o xs).drop a = cs.drop a := by
 unfold Q0R
 rw [List.drop_append, List.drop_eq_nil_of_le (by simp; omega), List.nil_append, List.drop_drop]
 congr 1
 simp; omega
theorem Q2L {cs xs : List Value} {o a n : Nat} (h : a ≤ o) (hn : o + xs.length ≤ a + n) (hl : a + n ≤ cs.length) :
  ((Q0R cs o xs).drop a).take n = Q0R ((cs.drop a).take n) (o - a) xs := by
 unfold Q0R
 apply List.ext_getElem?
 intro i
 simp only [List.getElem?_take, List.getElem?_drop, List.getElem?_append, List.length_append, List.length_take, List.length_drop]
 by_cases hi : i < n
 ·rw [if_pos hi]
  by_cases h1 : a + i < o
  ·rw [if_pos (by omega), if_pos (by omega), if_pos (by omega), if_pos (by omega), if_pos (by omega), if_pos (by omega), if_pos hi]
  ·by_cases h2 : a + i < o + xs.length
   ·rw [if_pos (by omega), if_neg (by omega), if_pos (by omega), if_neg (by omega)]
    congr 1; omega
   ·rw [if_neg (by omega), if_neg (by omega), if_pos (by omega)]
    congr 1; omega
 ·rw [if_neg hi]
  by_cases h2 : i < min (o - a) (min n (cs.length - a)) + xs.length
  ·omega
  ·rw [if_neg h2, if_neg (by omega)]
theorem Q62 {m : Mem} {μ : LMap} : ∀ {a : AVal} {cs : List Value} {i o : Nat} {s : Sh} {x : AVal} {xs : List Value} {a' : AVal}, CRel m μ a cs → a.sh.fieldOff i = some (o, s) →
  CRel m μ x xs → x.sh = s → setF a i x = some a' → a'.sh = a.sh ∧ CRel m μ a' (Q0R cs o xs)
 | .pair a b, cs, 0, o, s, x, xs, a', hc, h, hx, hs, he => by
  simp only [AVal.sh, Sh.fieldOff] at h
  cases h
  simp only [setF, Option.some.injEq] at he
  subst he
  have hl := hc.length
  simp only [CRel] at hc
  have hxl := hx.length
  simp only [AVal.size, AVal.sh, Sh.size] at hl hxl
  refine ⟨by simp [AVal.sh, hs], ?_⟩
  simp only [CRel, AVal.size]
  constructor
  ·have := Q2L (cs := cs) (xs := xs) (o := 0) (a := 0) (n := x.sh.size) (Nat.le_refl _) (by omega) (by rw [hs]; omega)
   simp only [List.drop_zero] at this
   rw [this, Q3E _ _ (by simp; rw [hs] at hxl ⊢; omega)]
   exact hx
  ·rw [Q2B (by omega) (by rw [hs] at hxl; omega), hs]; exact hc.2
 | .pair a b, cs, i + 1, o, s, x, xs, a', hc, h, hx, hs, he => by
  simp only [AVal.sh, Sh.fieldOff] at h
  cases hb : b.sh.fieldOff i with
  | none => rw [hb] at h; cases h
  | some r =>
   obtain ⟨o', s'⟩ := r
   rw [hb] at h
   simp only [Option.bind_some, Option.some.injEq, Prod.mk.injEq] at h
   obtain ⟨h1, h2⟩ := h
   subst h1; subst h2
   simp only [setF] at he
   cases hb' : setF b i x with
   | none => rw [hb'] at he; cases he
   | some b' =>
    rw [hb'] at he
    simp only [Option.bind_some, Option.some.injEq] at he
    subst he
    have hl := hc.length
    simp only [CRel] at hc
    have hf := Q2l hc.2 hb
    have ih := Q62 hc.2 hb hx hs hb'
    have hxl := hx.length
    simp only [AVal.size, AVal.sh, Sh.size] at hl hxl
    rw [hs] at hxl
    refine ⟨by simp [AVal.sh, ih.1], ?_⟩
    simp only [CRel, AVal.size]
    constructor
    ·have := Q2f (cs := cs) (xs := xs) (o := a.sh.size + o') (a := 0) (n := a.sh.size) (by omega) (by omega)
     simp only [List.drop_zero] at this
     rw [this]; exact hc.1
    ·have hb2 := hf.1
     have := Q2L (cs := cs) (xs := xs) (o := a.sh.size + o') (a := a.sh.size) (n := b.sh.size) (by omega) (by omega) (by omega)
     have e1 : ((Q0R cs (a.sh.size + o') xs).drop a.sh.size).take b.sh.size = (Q0R cs (a.sh.size + o') xs).drop a.sh.size :=
      List.take_of_length_le (by rw [List.length_drop, Q1p (by omega)]; omega)
     have e2 : ((cs.drop a.sh.size).take b.sh.size) = cs.drop a.sh.size := List.take_of_length_le (by simp; omega)
     rw [e1, e2] at this
     rw [this, show a.sh.size + o' - a.sh.size = o' from by omega]
     exact ih.2
 | .arr n t ys, cs, i, o, s, x, xs, a', hc, h, hx, hs, he => by
  simp only [AVal.sh, Sh.fieldOff] at h
  by_cases hi : i < n
  ·rw [if_pos hi] at h
   simp only [Option.some.injEq, Prod.mk.injEq] at h
   obtain ⟨h1, h2⟩ := h
   subst h1; subst h2
   simp only [setF] at he
   cases hy : Q12 t x with
   | none => rw [hy] at he; cases he
   | some y =>
    rw [hy] at he
    simp only [Option.bind_some, Option.some.injEq] at he
    subst he
    have hd := (Q1Y (m := m) (μ := μ) hy).2 hx
    have hxl := hd.length
    simp only [CRel, DRel] at hc ⊢
    have hin : (i + 1) * t.size ≤ n * t.size := Nat.mul_le_mul_right _ hi
    rw [Nat.add_mul] at hin
    have hlen : i * t.size + xs.length ≤ cs.length := by omega
    refine ⟨rfl, by simp [hc.1], by rw [Q1p hlen]; exact hc.2.1, fun j hj => ?_⟩
    by_cases hji : j = i
    ·subst hji
     have := Q2L (cs := cs) (xs := xs) (o := j * t.size) (a := j * t.size) (n := t.size) (Nat.le_refl _) (by omega) (by omega)
     rw [this, Nat.sub_self, Q3E _ _ (by simp; omega)]
     rw [List.getD_eq_getElem?_getD, List.getElem?_set_self (by omega)]
     exact hd
    ·rw [List.getD_eq_getElem?_getD, List.getElem?_set_ne (Ne.symm hji), ← List.getD_eq_getElem?_getD]
     have hjn : (j + 1) * t.size ≤ n * t.size := Nat.mul_le_mul_right _ hj
     rw [Nat.add_mul] at hjn
     rcases Nat.lt_or_gt_of_ne hji with hlt | hgt
     ·have hm : (j + 1) * t.size ≤ i * t.size := Nat.mul_le_mul_right _ hlt
      rw [Nat.add_mul] at hm
      rw [Q2f (by omega) (by omega)]
      exact hc.2.2 j hj
     ·have hm : (i + 1) * t.size ≤ j * t.size := Nat.mul_le_mul_right _ hgt
      rw [Nat.add_mul] at hm
      rw [Q2B (by omega) (by omega)]
      exact hc.2.2 j hj
  ·rw [if_neg hi] at h; cases h
 | .vec t ys, cs, i, o, s, x, xs, a', hc, h, hx, hs, he => by
  simp only [AVal.sh, Sh.fieldOff] at h
  by_cases hi : i < ys.length
  ·rw [if_pos hi] at h
   simp only [Option.some.injEq, Prod.mk.injEq] at h
   obtain ⟨h1, h2⟩ := h
   subst h1; subst h2
   simp only [setF] at he
   cases hy : Q12 t x with
   | none => rw [hy] at he; cases he
   | some y =>
    rw [hy] at he
    simp only [Option.bind_some, Option.some.injEq] at he
    subst he
    have hd := (Q1Y (m := m) (μ := μ) hy).2 hx
    have hxl := hd.length
    simp only [CRel, DRel] at hc ⊢
    have hin : (i + 1) * t.size ≤ ys.length * t.size := Nat.mul_le_mul_right _ hi
    rw [Nat.add_mul] at hin
    have hlen : i * t.size + xs.length ≤ cs.length := by omega
    refine ⟨by simp [AVal.sh], trivial, by rw [Q1p hlen, List.length_set]; exact hc.2.1, fun j hj => ?_⟩
    rw [List.length_set] at hj
    by_cases hji : j = i
    ·subst hji
     have := Q2L (cs := cs) (xs := xs) (o := j * t.size) (a := j * t.size) (n := t.size) (Nat.le_refl _) (by omega) (by omega)
     rw [this, Nat.sub_self, Q3E _ _ (by simp; omega)]
     rw [List.getD_eq_getElem?_getD, List.getElem?_set_self hi]
     exact hd
    ·rw [List.getD_eq_getElem?_getD, List.getElem?_set_ne (Ne.symm hji), ← List.getD_eq_getElem?_getD]
     have hjn : (j + 1) * t.size ≤ ys.length * t.size := Nat.mul_le_mul_right _ hj
     rw [Nat.add_mul] at hjn
     rcases Nat.lt_or_gt_of_ne hji with hlt | hgt
     ·have hm : (j + 1) * t.size ≤ i * t.size := Nat.mul_le_mul_right _ hlt
      rw [Nat.add_mul] at hm
      rw [Q2f (by omega) (by omega)]
      exact hc.2.2 j hj
     ·have hm : (i + 1) * t.size ≤ j * t.size := Nat.mul_le_mul_right _ hgt
      rw [Nat.add_mul] at hm
      rw [Q2B (by omega) (by omega)]
      exact hc.2.2 j hj
  ·rw [if_neg hi] at h; cases h
 | .unit, _, _, _, _, _, _, _, _, h, _, _, _ | .undef, _, _, _, _, _, _, _, _, h, _, _, _ | .int _ _, _, _, _, _, _, _, _, _, h, _, _, _ | .bool _, _, _, _, _, _, _, _, _, h, _, _, _
 | .str _, _, _, _, _, _, _, _, _, h, _, _, _ | .nilp, _, _, _, _, _, _, _, _, h, _, _, _ | .ptr _ _, _, _, _, _, _, _, _, _, h, _, _, _ | .nils, _, _, _, _, _, _, _, _, h, _, _, _
 | .sl _ _ _ _, _, _, _, _, _, _, _, _, h, _, _, _ | .ros _ _, _, _, _, _, _, _, _, _, h, _, _, _ | .rop _ _, _, _, _, _, _, _, _, _, h, _, _, _ | .parr _ _ _ _, _, _, _, _, _, _, _, _, h, _, _, _ | .sfp _ _ _, _, _, _, _, _, _, _, _, h, _, _, _ | .mp _, _, _, _, _, _, _, _, _, h, _, _, _ | .nilm, _, _, _, _, _, _, _, _, h, _, _, _ | .mpc _ _ _, _, _, _, _, _, _, _, _, h, _, _, _ | .vbs _, _, _, _, _, _, _, _, _, h, _, _, _ | .vsl _, _, _, _, _, _, _, _, _, h, _, _, _ | .fn _ _, _, _, _, _, _, _, _, _, h, _, _, _
 | .tup _, _, _, _, _, _, _, _, _, h, _, _, _ => by
  simp [AVal.sh, Sh.fieldOff] at h
theorem Q3Q {m : Mem} {μ : LMap} : ∀ {p : List Nat} {a : AVal} {cs : List Value} {o : Nat} {s : Sh} {x : AVal} {xs : List Value} {a' : AVal}, CRel m μ a cs → a.sh.offP p = some (o, s) →
  CRel m μ x xs → x.sh = s → setP a p x = some a' → a'.sh = a.sh ∧ CRel m μ a' (Q0R cs o xs)
 | [], a, cs, o, s, x, xs, a', hc, h, hx, hs, he => by
  simp only [Sh.offP] at h
  cases h
  simp only [setP, Option.some.injEq] at he
  subst he
  have h1 := hc.length
  have h2 := hx.length
  simp only [AVal.size] at h1 h2
  rw [Q3E _ _ (by rw [h1, h2, hs])]
  exact ⟨hs, hx⟩
 | i :: p, a, cs, o, s, x, xs, a', hc, h, hx, hs, he => by
  simp only [Sh.offP] at h
  cases hf : a.sh.fieldOff i with
  | none => rw [hf] at h; cases h
  | some r =>
   obtain ⟨o1, s1⟩ := r
   rw [hf] at h
   simp only [Option.bind_some] at h
   cases hp : s1.offP p with
   | none => rw [hp] at h; cases h
   | some q =>
    obtain ⟨o2, s2⟩ := q
    rw [hp] at h
    simp only [Option.bind_some, Option.some.injEq, Prod.mk.injEq] at h
    obtain ⟨h1, h2⟩ := h
    subst h1; subst h2
    obtain ⟨hle, c, hcx, hsc, hr⟩ := Q2l hc hf
    subst hsc
    simp only [setP, hcx, Option.bind_some] at he
    cases hc' : setP c p x with
    | none => rw [hc'] at he; cases he
    | some c' =>
     rw [hc'] at he
     simp only [Option.bind_some] at he
     have hg := Q1E hr hp
     obtain ⟨hsh, hrel⟩ := Q3Q hr hp hx hs hc'
     have := Q62 hc hf hrel hsh he
     refine ⟨this.1, ?_⟩
     have hcl := hc.length
     have hxl := hx.length
     simp only [AVal.size] at hcl hxl
     rw [hs] at hxl
     have e : Q0R cs o1 (Q0R ((cs.drop o1).take c.sh.size) o2 xs) = Q0R cs (o1 + o2) xs := by
      rw [← show ((Q0R cs (o1 + o2) xs).drop o1).take c.sh.size = Q0R ((cs.drop o1).take c.sh.size) o2 xs from by
       rw [Q2L (by omega) (by omega) (by omega), show o1 + o2 - o1 = o2 from by omega]]
      have hl : (((Q0R cs (o1 + o2) xs).drop o1).take c.sh.size).length = c.sh.size := by
       rw [List.length_take, List.length_drop, Q1p (by omega)]; omega
      rw [Q0R, hl]
      rw [show cs.take o1 = (Q0R cs (o1 + o2) xs).take o1 from by
       have := Q2f (cs := cs) (xs := xs) (o := o1 + o2) (a := 0) (n := o1) (by omega) (by omega)
       simpa using this.symm]
      rw [show cs.drop (o1 + c.sh.size) = (Q0R cs (o1 + o2) xs).drop (o1 + c.sh.size) from (Q2B (by omega) (by omega)).symm]
      rw [List.append_assoc, show List.drop (o1 + c.sh.size) (Q0R cs (o1 + o2) xs) = ((Q0R cs (o1 + o2) xs).drop o1).drop c.sh.size from by rw [List.drop_drop],
       List.take_append_drop, List.take_append_drop]
     rw [e] at this
     exact this.2
end Go.Am
namespace Go.Am
open Go
abbrev Heap := List (Option AVal)
structure Blk (m : Mem) (μ : LMap) (w : World) (i : Nat) (a : AVal) (l : Loc) : Prop where
 loc : μ i = some l
 sh : l.sh = a.sh
 cells : (l.tot = 0 ∧ l.off = 0 ∧ a.sh.size = 0 ∧ CRel m μ a []) ∨
  (0 < l.tot ∧ m l.b = none ∧ ∃ cs E fz, w.heap[l.b]? = some (.cells cs E fz) ∧ cs.size = l.tot ∧ (∀ j, j < l.tot → ¬ (fz.1 ≤ j ∧ j < fz.2)) ∧
  l.off + a.sh.size ≤ l.tot ∧ CRel m μ a ((cs.toList.drop l.off).take a.sh.size))
def DV (m : Mem) (t : Ty) (d : t.den) (v : Value) : Prop := Q1k m (fun _ => none) (toA t d) v
def MRel (m : Mem) (kt vt : Ty) (xs : List (kt.den × vt.den)) (es : List MapEntry) : Prop :=
 es.length = xs.length ∧ ∀ (i : Nat) (x : kt.den × vt.den) (e : MapEntry), xs[i]? = some x → es[i]? = some e → DV m kt x.1 e.key ∧ DV m vt x.2 e.val
theorem MRel.mono {m m' : Mem} (hm : m.le m') {kt vt : Ty} {xs : List (kt.den × vt.den)} {es : List MapEntry} (h : MRel m kt vt xs es) : MRel m' kt vt xs es :=
 ⟨h.1, fun i x e h1 h2 => ⟨Q1k.mono hm (LMap.le_refl _) (h.2 i x e h1 h2).1, Q1k.mono hm (LMap.le_refl _) (h.2 i x e h1 h2).2⟩⟩
def Q2t (m : Mem) (kt vt : Ty) (xs : List (kt.den × vt.den)) (es : List MapEntry) (c : Nat) : Prop :=
 ∃ ys : List (kt.den × vt.den), ys.Perm xs ∧ (ys.map fun x => x.1).Nodup ∧ MRel m kt vt ys es ∧ (∀ e ∈ es, e.born < c) ∧ (es.map fun e => e.born).Nodup
theorem Q2t.mono {m m' : Mem} (hm : m.le m') {kt vt : Ty} {xs : List (kt.den × vt.den)} {es : List MapEntry} {c : Nat} (h : Q2t m kt vt xs es c) : Q2t m' kt vt xs es c := by
 obtain ⟨ys, h1, h2, h3, h4⟩ := h
 exact ⟨ys, h1, h2, h3.mono hm, h4⟩
def AVal.isMp : AVal → Bool
 | .mpc _ _ _ => true
 | _ => false
structure RH (m : Mem) (μ : LMap) (H : Heap) (w : World) : Prop where
 mem : ∀ b cs, m b = some cs → ∃ E fz, w.heap[b]? = some (.cells cs E fz)
 blk : ∀ i a, H[i]? = some (some a) → ∃ l, Blk m μ w i a l
 inj : ∀ i j a b li lj, H[i]? = some (some a) → H[j]? = some (some b) → μ i = some li → μ j = some lj → 0 < li.tot → 0 < lj.tot → li.b = lj.b → i = j
 dom : ∀ i, H.length ≤ i → μ i = none
 typ : ∀ i a l, H[i]? = some (some a) → μ i = some l → 0 < l.tot → ∃ cs fz, w.heap[l.b]? = some (.cells cs l.E fz)
 vb : ∀ i a l, H[i]? = some (some a) → a.isVb = true → μ i = some l → 0 < l.tot → l.E = 5
 mp : ∀ i a l, H[i]? = some (some a) → μ i = some l → l.mp = true → l.tot = 0 ∧ ∃ kt vt xs es clock, a = .mpc kt vt xs ∧ w.heap[l.b]? = some (.map es clock) ∧ Q2t m kt vt xs es.toList clock
 mpi : ∀ i j a b li lj, H[i]? = some (some a) → H[j]? = some (some b) → li.mp = true → lj.mp = true → μ i = some li → μ j = some lj → li.b = lj.b → i = j
theorem RH.mpk {m m' : Mem} {μ μ' : LMap} {H H' : Heap} {w w' : World} (h : RH m μ H w) (hm : m.le m')
  (hH : ∀ (i : Nat) (a : AVal) (l : Loc), H'[i]? = some (some a) → μ' i = some l → l.mp = true → ∃ j, H[j]? = some (some a) ∧ μ j = some l)
  (hw : ∀ (b : Nat) (es : Array MapEntry) (c : Nat), w.heap[b]? = some (Obj.map es c) → w'.heap[b]? = some (Obj.map es c)) :
  ∀ i a l, H'[i]? = some (some a) → μ' i = some l → l.mp = true → l.tot = 0 ∧ ∃ kt vt xs es clock, a = .mpc kt vt xs ∧ w'.heap[l.b]? = some (.map es clock) ∧ Q2t m' kt vt xs es.toList clock := by
 intro i a l hi hl hp
 obtain ⟨j, hj, hlj⟩ := hH i a l hi hl hp
 obtain ⟨h0, kt, vt, xs, es, c, h1, h2, h3⟩ := h.mp j a l hj hlj hp
 exact ⟨h0, kt, vt, xs, es, c, h1, hw _ _ _ h2, h3.mono hm⟩
def Q1q (μ : LMap) (H : Heap) (b : Nat) : Prop := ∃ i a l, H[i]? = some (some a) ∧ μ i = some l ∧ (0 < l.tot ∨ l.mp = true) ∧ l.b = b
structure Post (m : Mem) (μ : LMap) (H : Heap) (w : World) (m' : Mem) (μ' : LMap) (H' : Heap) (w' : World) : Prop where
 rh : RH m' μ' H' w'
 ml : m.le m'
 μl : μ.le μ'
 os : w'.os = w.os
 tape : w'.tape = w.tape
 output : w'.output = w.output
 size : w.heap.size ≤ w'.heap.size
 keep : ∀ b, b < w.heap.size → ¬ Q1q μ H b → w'.heap[b]? = w.heap[b]?
 grow : ∀ b, Q1q μ' H' b → b < w.heap.size → Q1q μ H b
 mgrow : ∀ b c, m' b = some c → m b = some c ∨ Q1q μ H b ∨ w.heap.size ≤ b
 hol : H.length ≤ H'.length ∧ ∀ i, i < H.length → μ i = none → μ' i = none
theorem Post.refl {m : Mem} {μ : LMap} {H : Heap} {w : World} (h : RH m μ H w) : Post m μ H w m μ H w :=
 ⟨h, Mem.le_refl _, LMap.le_refl _, rfl, rfl, rfl, Nat.le_refl _, fun _ _ _ => rfl, fun _ h _ => h, fun _ _ h => .inl h, ⟨by simp, fun _ _ h => h⟩⟩
theorem Post.trans {m m1 m2 : Mem} {μ μ1 μ2 : LMap} {H H1 H2 : Heap} {w w1 w2 : World} (h : Post m μ H w m1 μ1 H1 w1) (k : Post m1 μ1 H1 w1 m2 μ2 H2 w2) : Post m μ H w m2 μ2 H2 w2 where
 rh := k.rh
 ml := Mem.le_trans h.ml k.ml
 μl := LMap.le_trans h.μl k.μl
 os := k.os.trans h.os
 tape := k.tape.trans h.tape
 output := k.output.trans h.output
 size := Nat.le_trans h.size k.size
 keep := fun b hb ho => (k.keep b (Nat.lt_of_lt_of_le hb h.size) (fun h2 => ho (h.grow b h2 hb))).trans (h.keep b hb ho)
 grow := fun b h2 hb => h.grow b (k.grow b h2 (Nat.lt_of_lt_of_le hb h.size)) hb
 mgrow := fun b c hc => by
  rcases k.mgrow b c hc with h1 | h1 | h1
  ·exact h.mgrow b c h1
  ·by_cases hb : b < w.heap.size
   ·exact .inr (.inl (h.grow b h1 hb))
   ·exact .inr (.inr (by omega))
  ·exact .inr (.inr (Nat.le_trans h.size h1))
 hol := ⟨Nat.le_trans h.hol.1 k.hol.1, fun i hi hn => k.hol.2 i (Nat.lt_of_lt_of_le hi h.hol.1) (h.hol.2 i hi hn)⟩
def Q2d : Value → Bool
 | .agg _ => false
 | .tuple _ => false
 | _ => true
theorem DRel.flat {m : Mem} : ∀ {t : Ty} {x : t.den} {cs : List Value}, DRel m t x cs → ∀ v ∈ cs, Q2d v = true
 | .int _, _, _, h => by simp only [DRel] at h; subst h; simp [Q2d]
 | .bool, _, _, h => by simp only [DRel] at h; subst h; simp [Q2d]
 | .str, _, _, h => by simp only [DRel] at h; subst h; simp [Q2d]
 | .unit, _, _, h => by simp only [DRel] at h; subst h; simp
 | .pair a b, x, cs, h => by
  simp only [DRel] at h
  intro v hv
  rw [← List.take_append_drop a.size cs, List.mem_append] at hv
  rcases hv with hv | hv
  ·exact DRel.flat h.1 v hv
  ·exact DRel.flat h.2 v hv
 | .arr n t, xs, cs, h => by
  simp only [DRel] at h
  intro v hv
  obtain ⟨i, hi, rfl⟩ := List.mem_iff_getElem.1 hv
  rw [h.2.1] at hi
  have hp : 0 < t.size := by
   rcases Nat.eq_zero_or_pos t.size with h0 | h0
   ·rw [h0] at hi; omega
   ·exact h0
  have hq : i / t.size < n := Nat.div_lt_of_lt_mul (by rw [Nat.mul_comm]; exact hi)
  refine DRel.flat (h.2.2 (i / t.size) hq) _ ?_
  have hm := Nat.mod_lt i hp
  have hd : i / t.size * t.size + i % t.size = i := by rw [Nat.mul_comm]; exact Nat.div_add_mod i t.size
  refine List.mem_iff_getElem?.2 ⟨i % t.size, ?_⟩
  rw [List.getElem?_take, if_pos hm, List.getElem?_drop, hd]
  exact List.getElem?_eq_getElem _
 | .sl t, _, _, h => by simp only [DRel] at h; obtain ⟨a, cap, h, _⟩ := h; subst h; simp [Q2d]
theorem CRel.flat {m : Mem} {μ : LMap} : ∀ {a : AVal} {cs : List Value}, CRel m μ a cs → ∀ v ∈ cs, Q2d v = true
 | .undef, _, h => h.elim
 | .int _ _, _, h | .bool _, _, h | .str _, _, h | .nilp, _, h | .nils, _, h => by simp only [CRel] at h; subst h; simp [Q2d]
 | .ptr _ _, _, h => by simp only [CRel] at h; obtain ⟨l, o, s, _, _, h⟩ := h; subst h; simp [Q2d]
 | .sl _ _ _ _, _, h => by simp only [CRel] at h; obtain ⟨l, o, n, t, a, cap, _, _, _, _, h, _⟩ := h; subst h; simp [Q2d]
 | .ros t xs, _, h => DRel.flat (t := .sl t) h
 | .rop _ _, _, h => by simp only [CRel] at h; obtain ⟨ad, c, h, _⟩ := h; subst h; simp [Q2d]
 | .arr n t xs, _, h => DRel.flat (t := .arr n t) h
 | .vec t xs, _, h => DRel.flat (t := .arr xs.length t) h
 | .vsl _, _, h => by simp only [CRel] at h; obtain ⟨l, n, t, a, cap, _, _, _, h, _⟩ := h; subst h; simp [Q2d]
 | .unit, _, h => by simp only [CRel] at h; subst h; simp
 | .pair a b, cs, h => by
  simp only [CRel] at h
  intro v hv
  rw [← List.take_append_drop a.size cs, List.mem_append] at hv
  rcases hv with hv | hv
  ·exact CRel.flat h.1 v hv
  ·exact CRel.flat h.2 v hv
 | .parr _ _ _ _, _, h => by simp only [CRel] at h; obtain ⟨l, o, N, t, _, _, _, h⟩ := h; subst h; simp [Q2d]
 | .vbs _, _, h => by simp only [CRel] at h; obtain ⟨l, n, a, cap, _, _, _, h, _⟩ := h; subst h; simp [Q2d]
 | .sfp _ _ _, _, h => by
  simp only [CRel] at h
  obtain ⟨l, o, s, _, _, _, _, _, _, h | h⟩ := h <;> subst h <;> simp [Q2d]
 | .fn _ _, _, h => by simp only [CRel] at h; obtain ⟨cap, h, _⟩ := h; subst h; simp [Q2d]
 | .mp _, _, h => by simp only [CRel] at h; obtain ⟨l, _, _, h⟩ := h; subst h; simp [Q2d]
 | .nilm, _, h => by simp only [CRel] at h; subst h; simp [Q2d]
 | .mpc _ _ _, _, h => by simp only [CRel] at h; subst h; simp
 | .tup _, _, h => h.elim
theorem Q2h (b o j : Nat) : (⟨b, o, none⟩ : Addr).add j = ⟨b, o + j, none⟩ := by
 unfold Addr.add; split
 ·subst_vars; rfl
 ·rfl
theorem Q4b {w : World} {b o : Nat} {cs : Array Value} {E : TypeId} {fz : Nat × Nat} (h : w.heap[b]? = some (.cells cs E fz)) : w.cell? ⟨b, o, none⟩ = cs[o]? := by
 simp [World.cell?, h]
theorem run_bind {α β : Type} (P : Program) (s : Sem α) (f : α → Sem β) (w : World) :
  (s >>= f).run P w = match s.run P w with | .ok a w' => (f a).run P w' | .halt h w' => .halt h w' := by
 show (Sem.bind s f).run P w = _
 induction s generalizing w with
 | pure a => rfl
 | load m a k ih =>
  simp only [Sem.bind, Sem.run]
  split
  ·exact ih _ _
  ·split
   ·exact ih _ _
   ·rfl
 | store m a v k ih =>
  cases v with
  | agg cs => simp only [Sem.bind, Sem.run]
  | tuple cs => simp only [Sem.bind, Sem.run]
  | _ =>
   simp only [Sem.bind, Sem.run]
   split
   ·split
    ·rfl
    ·exact ih _
   ·split
    ·exact ih _
    ·rfl
 | new o k ih => simp only [Sem.bind, Sem.run]; exact ih _ _
 | shape r k ih => simp only [Sem.bind, Sem.run]; exact ih _ _
 | freeze a n k ih => simp only [Sem.bind, Sem.run]; exact ih _
 | frozen a k ih => simp only [Sem.bind, Sem.run]; exact ih _ _
 | getObj r k ih =>
  simp only [Sem.bind, Sem.run]
  split
  ·rfl
  ·exact ih _ _
  ·rfl
 | setObj r o k ih =>
  simp only [Sem.bind, Sem.run]
  split
  ·rfl
  ·exact ih _
  ·rfl
 | choose q k ih =>
  simp only [Sem.bind, Sem.run]
  split
  ·exact ih _ _
  ·exact ih _ _
 | sys c k ih => simp only [Sem.bind, Sem.run]; exact ih _ _
 | program k ih => simp only [Sem.bind, Sem.run]; exact ih _ _
 | mark m k ih => simp only [Sem.bind, Sem.run]; exact ih _
 | halt h => rfl
theorem QP {α : Type} (P : Program) (a : α) (w : World) : (pure a : Sem α).run P w = .ok a w := rfl
theorem Q4T {P : Program} {w : World} {a : Addr} {v : Value} (h : w.cell? a = some v) : (load a).run P w = .ok v w := by
 simp only [load, Sem.run, h]
theorem Q64 {P : Program} {w : World} {b : Nat} {cs : Array Value} {E : TypeId} {fz : Nat × Nat} (h : w.heap[b]? = some (.cells cs E fz)) (o : Nat) :
  ∀ (n i : Nat) (acc : Array Value), o + i + n ≤ cs.size →
   (loadCellsFrom ⟨b, o, none⟩ i n acc).run P w = .ok (acc ++ ((cs.toList.drop (o + i)).take n).toArray) w := by
 intro n
 induction n with
 | zero => intro i acc _; simp [loadCellsFrom, QP]
 | succ n ih =>
  intro i acc hle
  have hlt : o + i < cs.size := by omega
  have hc : w.cell? ⟨b, o + i, none⟩ = some cs[o + i] := by rw [Q4b h]; exact Array.getElem?_eq_getElem hlt
  simp only [loadCellsFrom, run_bind, Q2h, Q4T hc]
  rw [ih (i + 1) _ (by omega)]
  congr 1
  apply Array.ext'
  simp only [Array.toList_append, Array.toList_push, List.append_assoc]
  congr 1
  rw [show cs.toList.drop (o + i) = cs[o + i] :: cs.toList.drop (o + (i + 1)) from by
   rw [List.drop_eq_getElem_cons (by simpa using hlt)]; simp [Nat.add_assoc]]
  simp
theorem Q2i {P : Program} {w : World} {b o n : Nat} {cs : Array Value} {E : TypeId} {fz : Nat × Nat} (h : w.heap[b]? = some (.cells cs E fz)) (hle : o + n ≤ cs.size) :
  (loadCells ⟨b, o, none⟩ n).run P w = .ok ((cs.toList.drop o).take n).toArray w := by
 have := Q64 (P := P) h o n 0 #[] (by omega)
 simpa [loadCells] using this
structure Puts (w : World) (b : Nat) (cs' : Array Value) (E : TypeId) (fz : Nat × Nat) (w' : World) : Prop where
 os : w'.os = w.os
 tape : w'.tape = w.tape
 output : w'.output = w.output
 size : w'.heap.size = w.heap.size
 blk : w'.heap[b]? = some (.cells cs' E fz)
 keep : ∀ k, k ≠ b → w'.heap[k]? = w.heap[k]?
theorem Q5Z {P : Program} {w : World} {b o : Nat} {cs : Array Value} {E : TypeId} {fz : Nat × Nat} {v : Value} (h : w.heap[b]? = some (.cells cs E fz)) (ho : o < cs.size)
  (hf : ¬ (fz.1 ≤ o ∧ o < fz.2)) (hv : Q2d v = true) : ∃ w', (store ⟨b, o, none⟩ v).run P w = .ok () w' ∧ Puts w b (cs.setIfInBounds o v) E fz w' := by
 have hc : w.cell? ⟨b, o, none⟩ = some cs[o] := by rw [Q4b h]; exact Array.getElem?_eq_getElem ho
 have hfz : w.frozen? ⟨b, o, none⟩ = false := by
  simp only [World.frozen?, h]
  simp only [Bool.and_eq_false_iff, decide_eq_false_iff_not]
  by_cases h1 : fz.1 ≤ o
  ·exact .inr fun h2 => hf ⟨h1, h2⟩
  ·exact .inl h1
 refine ⟨w.setCell ⟨b, o, none⟩ v, ?_, rfl, rfl, rfl, by simp [World.setCell], ?_, ?_⟩
 ·cases v <;> simp only [Q2d] at hv <;> simp_all [store, Sem.run]
 ·simp [World.setCell, Array.getElem?_modify, h]
 ·intro k hk
  simp only [World.setCell, Array.getElem?_modify]
  rw [if_neg (Ne.symm hk)]
theorem Puts.trans {w w1 w2 : World} {b : Nat} {c1 c2 : Array Value} {E E2 : TypeId} {fz fz2 : Nat × Nat} (h : Puts w b c1 E fz w1) (k : Puts w1 b c2 E2 fz2 w2) : Puts w b c2 E2 fz2 w2 :=
 ⟨k.os.trans h.os, k.tape.trans h.tape, k.output.trans h.output, k.size.trans h.size, k.blk, fun i hi => (k.keep i hi).trans (h.keep i hi)⟩
theorem Q7s (cs : List Value) (p : Nat) (v : Value) (vs : List Value) (h : p < cs.length) : Q0R (cs.set p v) (p + 1) vs = Q0R cs p (v :: vs) := by
 unfold Q0R
 rw [List.take_succ_eq_append_getElem (by simpa using h), List.getElem_set_self, List.take_set_of_le (Nat.le_refl _), List.drop_set_of_lt (by omega)]
 simp [Nat.add_assoc, Nat.add_comm 1]
theorem Q2E {P : Program} {b : Nat} {E : TypeId} {fz : Nat × Nat} (o : Nat) : ∀ (vs : List Value) (i : Nat) (w : World) (cs : Array Value), w.heap[b]? = some (.cells cs E fz) →
  o + i + vs.length ≤ cs.size → (∀ j, j < cs.size → ¬ (fz.1 ≤ j ∧ j < fz.2)) → (∀ v ∈ vs, Q2d v = true) →
  ∃ w' cs', (storeCells ⟨b, o, none⟩ vs i).run P w = .ok () w' ∧ Puts w b cs' E fz w' ∧ cs'.toList = Q0R cs.toList (o + i) vs := by
 intro vs
 induction vs with
 | nil =>
  intro i w cs h _ _ _
  refine ⟨w, cs, rfl, ⟨rfl, rfl, rfl, rfl, h, fun _ _ => rfl⟩, ?_⟩
  simp [Q0R]
 | cons v vs ih =>
  intro i w cs h hle hf hv
  simp only [List.length_cons] at hle
  obtain ⟨w1, hr, hp⟩ := Q5Z (P := P) (o := o + i) (v := v) h (by omega) (hf _ (by omega)) (hv v (by simp))
  obtain ⟨w2, cs2, hr2, hp2, hc2⟩ := ih (i + 1) w1 _ hp.blk (by simp; omega) (by simpa using hf) (fun x hx => hv x (by simp [hx]))
  refine ⟨w2, cs2, ?_, hp.trans hp2, ?_⟩
  ·simp only [storeCells, run_bind, Q2h, hr]
   exact hr2
  ·rw [hc2, Array.toList_setIfInBounds, show o + (i + 1) = o + i + 1 from rfl, Q7s _ _ _ _ (by simp; omega)]
theorem Q0Q {w : World} {b : Nat} {o : Obj} (h : w.heap[b]? = some o) : b < w.heap.size := (Array.getElem?_eq_some_iff.1 h).1
theorem RH.mem_lt {m : Mem} {μ : LMap} {H : Heap} {w : World} (h : RH m μ H w) {b : Nat} {cs : Array Value} (hb : m b = some cs) : b < w.heap.size := by
 obtain ⟨E, fz, he⟩ := h.mem b cs hb; exact Q0Q he
theorem RH.put {m : Mem} {μ : LMap} {H : Heap} {w w' : World} {i : Nat} {a a' : AVal} {l : Loc} {cs cs' : Array Value} {E : TypeId} {fz : Nat × Nat} (h : RH m μ H w) (hi : H[i]? = some (some a))
  (hl : μ i = some l) (h0 : 0 < l.tot) (hc : w.heap[l.b]? = some (.cells cs E fz)) (hp : Puts w l.b cs' E fz w') (hs : a'.sh = a.sh) (hn : cs'.size = cs.size)
  (hr : CRel m μ a' ((cs'.toList.drop l.off).take a'.sh.size)) (hv : a'.isVb = true → a.isVb = true) : Post m μ H w m μ (H.set i (some a')) w' := by
 have hil : i < H.length := (List.getElem?_eq_some_iff.1 hi).1
 obtain ⟨l', hb⟩ := h.blk i a hi
 have hll : l' = l := Option.some.inj (hb.loc.symm.trans hl)
 subst hll
 have look : ∀ {j : Nat} {x : AVal}, (H.set i (some a'))[j]? = some (some x) → (j = i ∧ x = a') ∨ (j ≠ i ∧ H[j]? = some (some x)) := by
  intro j x hj
  by_cases hji : j = i
  ·subst hji; rw [List.getElem?_set_self hil] at hj; exact .inl ⟨rfl, (Option.some.inj (Option.some.inj hj)).symm⟩
  ·rw [List.getElem?_set_ne (Ne.symm hji)] at hj; exact .inr ⟨hji, hj⟩
 have old : ∀ {j : Nat} {x : AVal}, (H.set i (some a'))[j]? = some (some x) → ∃ y, H[j]? = some (some y) := by
  intro j x hj
  rcases look hj with ⟨h1, _⟩ | ⟨_, h1⟩
  ·subst h1; exact ⟨a, hi⟩
  ·exact ⟨x, h1⟩
 obtain ⟨gm, cs0, E0, fz0, g1, g2, g3, g4, g5⟩ : m l'.b = none ∧ ∃ cs E fz, w.heap[l'.b]? = some (.cells cs E fz) ∧ cs.size = l'.tot ∧ (∀ j, j < l'.tot → ¬ (fz.1 ≤ j ∧ j < fz.2)) ∧
  l'.off + a.sh.size ≤ l'.tot ∧ CRel m μ a ((cs.toList.drop l'.off).take a.sh.size) := by
  rcases hb.cells with g | g
  ·omega
  ·exact g.2
 rw [hc] at g1
 cases g1
 refine ⟨⟨?_, ?_, ?_, ?_, ?_, ?_, ?_, ?_⟩, Mem.le_refl _, LMap.le_refl _, hp.os, hp.tape, hp.output, Nat.le_of_eq hp.size.symm, ?_, ?_, fun _ _ h => .inl h, ⟨by simp, fun _ _ h => h⟩⟩
 ·intro b c hb'
  obtain ⟨E1, fz1, h1⟩ := h.mem b c hb'
  refine ⟨E1, fz1, ?_⟩
  rw [hp.keep b (fun e => by subst e; rw [gm] at hb'; cases hb')]; exact h1
 ·intro j x hj
  rcases look hj with ⟨h1, h2⟩ | ⟨h1, h2⟩
  ·subst h1; subst h2
   exact ⟨l', hl, by rw [hb.sh, hs], .inr ⟨h0, gm, cs', E, fz, hp.blk, by rw [hn]; exact g2, g3, by rw [hs]; exact g4, hr⟩⟩
  ·obtain ⟨lj, hbj⟩ := h.blk j x h2
   refine ⟨lj, hbj.loc, hbj.sh, ?_⟩
   rcases hbj.cells with g | ⟨p0, g⟩
   ·exact .inl g
   ·rw [hp.keep lj.b (fun e => h1 (h.inj j i x a lj l' h2 hi hbj.loc hl p0 h0 e))]
    exact .inr ⟨p0, g⟩
 ·intro j k x y lj lk hj hk hlj hlk p1 p2 he
  obtain ⟨x', hx'⟩ := old hj
  obtain ⟨y', hy'⟩ := old hk
  exact h.inj j k x' y' lj lk hx' hy' hlj hlk p1 p2 he
 ·intro j hj; rw [List.length_set] at hj; exact h.dom j hj
 ·intro j x lj hj hlj hz
  rcases look hj with ⟨h1, h2⟩ | ⟨h1, h2⟩
  ·subst h1; subst h2
   have e : lj = l' := Option.some.inj (hlj.symm.trans hl)
   subst e
   obtain ⟨cs1, fz1, k1⟩ := h.typ j a lj hi hl h0
   rw [hc] at k1
   cases k1
   exact ⟨cs', fz, hp.blk⟩
  ·rw [hp.keep lj.b (fun e => h1 (h.inj j i x a lj l' h2 hi hlj hl hz h0 e))]
   exact h.typ j x lj h2 hlj hz
 ·intro j x lj hj hx hlj hz
  rcases look hj with ⟨h1, h2⟩ | ⟨h1, h2⟩
  ·subst h1; subst h2
   exact h.vb j a lj hi (hv hx) hlj hz
  ·exact h.vb j x lj h2 hx hlj hz
 ·refine h.mpk (Mem.le_refl _) ?_ ?_
  ·intro j x lj hj hlj hpz
   rcases look hj with ⟨h1, h2⟩ | ⟨h1, h2⟩
   ·subst h1
    have := (h.mp j a lj hi hlj hpz).1
    have e : lj = l' := Option.some.inj (hlj.symm.trans hl)
    subst e
    omega
   ·exact ⟨j, h2, hlj⟩
  ·intro b es c hb'
   rw [hp.keep b (fun e => by subst e; rw [hc] at hb'; cases hb')]; exact hb'
 ·intro j k x y lj lk hj hk pj pk hlj hlk he
  obtain ⟨x', hx'⟩ := old hj
  obtain ⟨y', hy'⟩ := old hk
  exact h.mpi j k x' y' lj lk hx' hy' pj pk hlj hlk he
 ·intro b _ ho
  exact hp.keep b (fun e => ho ⟨i, a, l', hi, hl, .inl h0, e.symm⟩)
 ·rintro b ⟨j, x, lj, hj, hlj, p0, he⟩ _
  obtain ⟨x', hx'⟩ := old hj
  exact ⟨j, x', lj, hx', hlj, p0, he⟩
structure Qa1 (w : World) (cs : Array Value) (E : TypeId) (fz : Nat × Nat) (w' : World) : Prop where
 os : w'.os = w.os
 tape : w'.tape = w.tape
 output : w'.output = w.output
 size : w'.heap.size = w.heap.size + 1
 new : w'.heap[w.heap.size]? = some (.cells cs E fz)
 old : ∀ j, j < w.heap.size → w'.heap[j]? = w.heap[j]?
theorem Qa1.push (w : World) (cs : Array Value) (E : TypeId) (fz : Nat × Nat) (dr : Nat) : Qa1 w cs E fz { w with heap := w.heap.push (.cells cs E fz), drawn := dr } :=
 ⟨rfl, rfl, rfl, by simp, by show (w.heap.push _)[w.heap.size]? = _; rw [Array.getElem?_push, if_pos rfl], fun j hj => by show (w.heap.push _)[j]? = _; rw [Array.getElem?_push, if_neg (by omega)]⟩
theorem RH.grow {m : Mem} {μ : LMap} {H : Heap} {w w' : World} {a : AVal} {cs : Array Value} {E : TypeId} {fz : Nat × Nat} (h : RH m μ H w) (hgr : Qa1 w cs E fz w') (hn : a.sh.size ≤ cs.size)
  (hf : ∀ j, j < cs.size → ¬ (fz.1 ≤ j ∧ j < fz.2)) (hr : CRel m μ a (cs.toList.take a.sh.size)) (hv : a.isVb = true → E = 5) :
  Post m μ H w m (fun i => if i = H.length then some ⟨w.heap.size, 0, a.sh, cs.size, E, false⟩ else μ i) (H ++ [some a]) w' := by
 have hdom : μ H.length = none := h.dom _ (Nat.le_refl _)
 have hμ : μ.le (fun i => if i = H.length then some ⟨w.heap.size, 0, a.sh, cs.size, E, false⟩ else μ i) := by
  intro i l hl
  show (if i = H.length then _ else μ i) = some l
  rw [if_neg (fun e => by subst e; rw [hdom] at hl; cases hl)]; exact hl
 have hpush := hgr.old
 have look : ∀ {j : Nat} {x : AVal}, (H ++ [some a])[j]? = some (some x) → (j = H.length ∧ x = a) ∨ (j < H.length ∧ H[j]? = some (some x)) := by
  intro j x hj
  rcases Nat.lt_or_ge j H.length with h1 | h1
  ·rw [List.getElem?_append_left h1] at hj; exact .inr ⟨h1, hj⟩
  ·rw [List.getElem?_append_right h1] at hj
   have : j - H.length = 0 := by
    rcases Nat.eq_zero_or_pos (j - H.length) with h0 | h0
    ·exact h0
    ·rw [List.getElem?_eq_none (by simp; omega)] at hj; cases hj
   rw [this] at hj
   exact .inl ⟨by omega, (Option.some.inj (Option.some.inj hj)).symm⟩
 refine ⟨⟨?_, ?_, ?_, ?_, ?_, ?_, ?_, ?_⟩, Mem.le_refl _, hμ, hgr.os, hgr.tape, hgr.output, by rw [hgr.size]; omega, fun b hb _ => hpush b hb, ?_, fun _ _ h => .inl h, ⟨by simp, fun i hi h => by show (if i = H.length then _ else μ i) = none; rw [if_neg (by omega)]; exact h⟩⟩
 ·intro b c hb
  obtain ⟨E1, fz1, h1⟩ := h.mem b c hb
  exact ⟨E1, fz1, by rw [hpush b (Q0Q h1)]; exact h1⟩
 ·intro j x hj
  rcases look hj with ⟨h1, h2⟩ | ⟨h1, h2⟩
  ·subst h1; subst h2
   refine ⟨⟨w.heap.size, 0, x.sh, cs.size, E, false⟩, by simp, rfl, ?_⟩
   rcases Nat.eq_zero_or_pos cs.size with hz | hz
   ·refine .inl ⟨hz, rfl, by omega, ?_⟩
    have e : cs.toList.take x.sh.size = [] := by rw [show x.sh.size = 0 from by omega]; rfl
    rw [e] at hr; exact hr.mono (Mem.le_refl m) hμ
   refine .inr ⟨hz, ?_, cs, E, fz, ?_, rfl, hf, by simpa using hn, ?_⟩
   ·cases hm : m w.heap.size with
    | none => rfl
    | some c => exact absurd (h.mem_lt hm) (Nat.lt_irrefl _)
   ·exact hgr.new
   ·simpa using hr.mono (Mem.le_refl m) hμ
  ·obtain ⟨l, hb⟩ := h.blk j x h2
   refine ⟨l, hμ _ _ hb.loc, hb.sh, ?_⟩
   rcases hb.cells with ⟨p1, p2, p3, p4⟩ | ⟨p0, gm, c, E1, fz1, g1, g2⟩
   ·exact .inl ⟨p1, p2, p3, p4.mono (Mem.le_refl m) hμ⟩
   refine .inr ⟨p0, gm, c, E1, fz1, ?_, g2.1, g2.2.1, g2.2.2.1, g2.2.2.2.mono (Mem.le_refl m) hμ⟩
   rw [hpush l.b (Q0Q g1)]; exact g1
 ·intro j k x y lj lk hj hk hlj hlk q1 q2 he
  rcases look hj with ⟨h1, h2⟩ | ⟨h1, h2⟩
  ·rcases look hk with ⟨h3, h4⟩ | ⟨h3, h4⟩
   ·omega
   ·subst h1
    simp only [if_true, Option.some.injEq] at hlj
    have hlk : μ k = some lk := by simpa [Nat.ne_of_lt h3] using hlk
    subst hlj
    obtain ⟨l, hb⟩ := h.blk k y h4
    rw [hb.loc] at hlk; cases hlk
    rcases hb.cells with g | ⟨_, _, c, E1, fz1, g1, _⟩
    ·omega
    have := Q0Q g1
    simp only at he; omega
  ·rcases look hk with ⟨h3, h4⟩ | ⟨h3, h4⟩
   ·subst h3
    simp only [if_true, Option.some.injEq] at hlk
    have hlj : μ j = some lj := by simpa [Nat.ne_of_lt h1] using hlj
    subst hlk
    obtain ⟨l, hb⟩ := h.blk j x h2
    rw [hb.loc] at hlj; cases hlj
    rcases hb.cells with g | ⟨_, _, c, E1, fz1, g1, _⟩
    ·omega
    have := Q0Q g1
    simp only at he; omega
   ·have hlj : μ j = some lj := by simpa [Nat.ne_of_lt h1] using hlj
    have hlk : μ k = some lk := by simpa [Nat.ne_of_lt h3] using hlk
    exact h.inj j k x y lj lk h2 h4 hlj hlk q1 q2 he
 ·intro j hj
  simp only [List.length_append, List.length_cons, List.length_nil] at hj
  show (if j = H.length then _ else μ j) = none
  rw [if_neg (by omega)]; exact h.dom j (by omega)
 ·intro j x lj hj hlj hz
  rcases look hj with ⟨h1, h2⟩ | ⟨h1, h2⟩
  ·subst h1
   simp only [if_true, Option.some.injEq] at hlj
   subst hlj
   exact ⟨cs, fz, hgr.new⟩
  ·have hlj : μ j = some lj := by simpa [Nat.ne_of_lt h1] using hlj
   obtain ⟨cs1, fz1, k1⟩ := h.typ j x lj h2 hlj hz
   exact ⟨cs1, fz1, by rw [hpush lj.b (Q0Q k1)]; exact k1⟩
 ·intro j x lj hj hx hlj hz
  rcases look hj with ⟨h1, h2⟩ | ⟨h1, h2⟩
  ·subst h1; subst h2
   simp only [if_true, Option.some.injEq] at hlj
   subst hlj
   exact hv hx
  ·have hlj : μ j = some lj := by simpa [Nat.ne_of_lt h1] using hlj
   exact h.vb j x lj h2 hx hlj hz
 ·refine h.mpk (Mem.le_refl _) ?_ ?_
  ·intro j x lj hj hlj hpz
   rcases look hj with ⟨h1, h2⟩ | ⟨h1, h2⟩
   ·subst h1
    simp only [if_true, Option.some.injEq] at hlj
    subst hlj; cases hpz
   ·have hlj : μ j = some lj := by simpa [Nat.ne_of_lt h1] using hlj
    exact ⟨j, h2, hlj⟩
  ·intro b es c hb
   rw [hpush b (Q0Q hb)]; exact hb
 ·intro j k x y lj lk hj hk pj pk hlj hlk he
  rcases look hj with ⟨h1, h2⟩ | ⟨h1, h2⟩
  ·subst h1
   simp only [if_true, Option.some.injEq] at hlj
   subst hlj; cases pj
  ·rcases look hk with ⟨h3, h4⟩ | ⟨h3, h4⟩
   ·subst h3
    simp only [if_true, Option.some.injEq] at hlk
    subst hlk; cases pk
   ·have hlj : μ j = some lj := by simpa [Nat.ne_of_lt h1] using hlj
    have hlk : μ k = some lk := by simpa [Nat.ne_of_lt h3] using hlk
    exact h.mpi j k x y lj lk h2 h4 pj pk hlj hlk he
 ·rintro b ⟨j, x, lj, hj, hlj, q, he⟩ hb
  rcases look hj with ⟨h1, h2⟩ | ⟨h1, h2⟩
  ·subst h1
   simp only [if_true, Option.some.injEq] at hlj
   subst hlj; simp only at he; omega
  ·have hlj : μ j = some lj := by simpa [Nat.ne_of_lt h1] using hlj
   exact ⟨j, x, lj, h2, hlj, q, he⟩
theorem RH.push {m : Mem} {μ : LMap} {H : Heap} {w : World} {a : AVal} {cs : Array Value} {E : TypeId} {fz : Nat × Nat} {dr : Nat} (h : RH m μ H w) (hn : a.sh.size ≤ cs.size)
  (hf : ∀ j, j < cs.size → ¬ (fz.1 ≤ j ∧ j < fz.2)) (hr : CRel m μ a (cs.toList.take a.sh.size)) (hv : a.isVb = true → E = 5) :
  Post m μ H w m (fun i => if i = H.length then some ⟨w.heap.size, 0, a.sh, cs.size, E, false⟩ else μ i) (H ++ [some a]) { w with heap := w.heap.push (.cells cs E fz), drawn := dr } :=
 h.grow (Qa1.push w cs E fz dr) hn hf hr hv
theorem RH.kill {m : Mem} {μ : LMap} {H : Heap} {w : World} (h : RH m μ H w) (i : Nat) : Post m μ H w m μ (H.set i none) w := by
 have look : ∀ {j : Nat} {x : AVal}, (H.set i none)[j]? = some (some x) → H[j]? = some (some x) := by
  intro j x hj
  by_cases hji : i = j
  ·subst hji
   rw [List.getElem?_set] at hj
   simp only [if_true] at hj
   split at hj <;> cases hj
  ·rwa [List.getElem?_set_ne hji] at hj
 refine ⟨⟨h.mem, fun j x hj => h.blk j x (look hj), fun j k x y lj lk hj hk => h.inj j k x y lj lk (look hj) (look hk), fun j hj => h.dom j (by simpa using hj), fun j x lj hj => h.typ j x lj (look hj), fun j x lj hj => h.vb j x lj (look hj),
  h.mpk (Mem.le_refl _) (fun j x l hj hl _ => ⟨j, look hj, hl⟩) (fun _ _ _ hb => hb), fun j k x y lj lk hj hk => h.mpi j k x y lj lk (look hj) (look hk)⟩,
  Mem.le_refl _, LMap.le_refl _, rfl, rfl, rfl, Nat.le_refl _, fun _ _ _ => rfl, ?_, fun _ _ h => .inl h, ⟨by simp, fun _ _ h => h⟩⟩
 rintro b ⟨j, x, lj, hj, hlj, q, he⟩ _
 exact ⟨j, x, lj, look hj, hlj, q, he⟩
theorem Q1X {H : Heap} {i j : Nat} {x : AVal} (hj : (H.set i none)[j]? = some (some x)) : j ≠ i ∧ H[j]? = some (some x) := by
 by_cases hji : i = j
 ·subst hji
  rw [List.getElem?_set] at hj
  simp only [if_true] at hj
  split at hj <;> cases hj
 ·rw [List.getElem?_set_ne hji] at hj
  exact ⟨fun e => hji e.symm, hj⟩
theorem Q0z {H : Heap} {a x : AVal} {j : Nat} (hj : (H ++ [some a])[j]? = some (some x)) : (j = H.length ∧ x = a) ∨ (j < H.length ∧ H[j]? = some (some x)) := by
 rcases Nat.lt_or_ge j H.length with h1 | h1
 ·rw [List.getElem?_append_left h1] at hj; exact .inr ⟨h1, hj⟩
 ·rw [List.getElem?_append_right h1] at hj
  have : j - H.length = 0 := by
   rcases Nat.eq_zero_or_pos (j - H.length) with h0 | h0
   ·exact h0
   ·rw [List.getElem?_eq_none (by simp; omega)] at hj; cases hj
  rw [this] at hj
  exact .inl ⟨by omega, (Option.some.inj (Option.some.inj hj)).symm⟩
theorem RH.move {m : Mem} {μ : LMap} {H : Heap} {w w' : World} {i : Nat} {a a' : AVal} {l : Loc} {cs cs' : Array Value} {E : TypeId} {fz : Nat × Nat} {off' : Nat} (h : RH m μ H w) (hi : H[i]? = some (some a))
  (hl : μ i = some l) (h0 : 0 < l.tot) (hc : w.heap[l.b]? = some (.cells cs E fz)) (hp : Puts w l.b cs' E fz w') (hn : cs'.size = cs.size) (hle : off' + a'.sh.size ≤ l.tot)
  (hr : CRel m μ a' ((cs'.toList.drop off').take a'.sh.size)) (hv : a'.isVb = true → a.isVb = true) :
  Post m μ H w m (fun j => if j = H.length then some ⟨l.b, off', a'.sh, l.tot, l.E, false⟩ else μ j) (H.set i none ++ [some a']) w' := by
 have hdom : μ H.length = none := h.dom _ (Nat.le_refl _)
 have hμ : μ.le (fun j => if j = H.length then some ⟨l.b, off', a'.sh, l.tot, l.E, false⟩ else μ j) := by
  intro j l' hl'
  show (if j = H.length then _ else μ j) = some l'
  rw [if_neg (fun e => by subst e; rw [hdom] at hl'; cases hl')]; exact hl'
 obtain ⟨l', hb⟩ := h.blk i a hi
 have hll : l' = l := Option.some.inj (hb.loc.symm.trans hl)
 subst hll
 obtain ⟨gm, cs0, E0, fz0, g1, g2, g3, g4, g5⟩ : m l'.b = none ∧ ∃ cs E fz, w.heap[l'.b]? = some (.cells cs E fz) ∧ cs.size = l'.tot ∧ (∀ j, j < l'.tot → ¬ (fz.1 ≤ j ∧ j < fz.2)) ∧
  l'.off + a.sh.size ≤ l'.tot ∧ CRel m μ a ((cs.toList.drop l'.off).take a.sh.size) := by
  rcases hb.cells with g | g
  ·omega
  ·exact g.2
 rw [hc] at g1
 cases g1
 have look : ∀ {j : Nat} {x : AVal}, (H.set i none ++ [some a'])[j]? = some (some x) → (j = H.length ∧ x = a') ∨ (j < H.length ∧ j ≠ i ∧ H[j]? = some (some x)) := by
  intro j x hj
  rcases Q0z hj with ⟨h1, h2⟩ | ⟨h1, h2⟩
  ·rw [List.length_set] at h1; exact .inl ⟨h1, h2⟩
  ·rw [List.length_set] at h1
   have := Q1X h2
   exact .inr ⟨h1, this.1, this.2⟩
 refine ⟨⟨?_, ?_, ?_, ?_, ?_, ?_, ?_, ?_⟩, Mem.le_refl _, hμ, hp.os, hp.tape, hp.output, Nat.le_of_eq hp.size.symm, ?_, ?_, fun _ _ h => .inl h, ⟨by simp, fun i hi h => by show (if i = H.length then _ else μ i) = none; rw [if_neg (by omega)]; exact h⟩⟩
 ·intro b c hb'
  obtain ⟨E1, fz1, h1⟩ := h.mem b c hb'
  exact ⟨E1, fz1, by rw [hp.keep b (fun e => by subst e; rw [gm] at hb'; cases hb')]; exact h1⟩
 ·intro j x hj
  rcases look hj with ⟨h1, h2⟩ | ⟨h1, h2, h3⟩
  ·subst h1; subst h2
   exact ⟨⟨l'.b, off', x.sh, l'.tot, l'.E, false⟩, by simp, rfl, .inr ⟨h0, gm, cs', E, fz, hp.blk, by rw [hn]; exact g2, g3, hle, hr.mono (Mem.le_refl m) hμ⟩⟩
  ·obtain ⟨lj, hbj⟩ := h.blk j x h3
   refine ⟨lj, hμ _ _ hbj.loc, hbj.sh, ?_⟩
   rcases hbj.cells with ⟨p1, p2, p3, p4⟩ | ⟨p0, q1, c, E1, fz1, q2, q3⟩
   ·exact .inl ⟨p1, p2, p3, p4.mono (Mem.le_refl m) hμ⟩
   ·refine .inr ⟨p0, q1, c, E1, fz1, ?_, q3.1, q3.2.1, q3.2.2.1, q3.2.2.2.mono (Mem.le_refl m) hμ⟩
    rw [hp.keep lj.b (fun e => h2 (h.inj j i x a lj l' h3 hi hbj.loc hl p0 h0 e))]
    exact q2
 ·intro j k x y lj lk hj hk hlj hlk z1 z2 he
  have other : ∀ {j : Nat} {x : AVal} {lj : Loc}, j < H.length → j ≠ i → H[j]? = some (some x) → μ j = some lj → 0 < lj.tot → lj.b ≠ l'.b := by
   intro j x lj _ hji hj hlj hz e
   exact hji (h.inj j i x a lj l' hj hi hlj hl hz h0 e)
  rcases look hj with ⟨h1, h2⟩ | ⟨h1, h2, h3⟩
  ·rcases look hk with ⟨h4, h5⟩ | ⟨h4, h5, h6⟩
   ·omega
   ·subst h1
    simp only [if_true, Option.some.injEq] at hlj
    have hlk : μ k = some lk := by simpa [Nat.ne_of_lt h4] using hlk
    subst hlj
    exact absurd he.symm (other h4 h5 h6 hlk z2)
  ·rcases look hk with ⟨h4, h5⟩ | ⟨h4, h5, h6⟩
   ·subst h4
    simp only [if_true, Option.some.injEq] at hlk
    have hlj : μ j = some lj := by simpa [Nat.ne_of_lt h1] using hlj
    subst hlk
    exact absurd he (other h1 h2 h3 hlj z1)
   ·have hlj : μ j = some lj := by simpa [Nat.ne_of_lt h1] using hlj
    have hlk : μ k = some lk := by simpa [Nat.ne_of_lt h4] using hlk
    exact h.inj j k x y lj lk h3 h6 hlj hlk z1 z2 he
 ·intro j hj
  simp only [List.length_append, List.length_set, List.length_cons, List.length_nil] at hj
  show (if j = H.length then _ else μ j) = none
  rw [if_neg (by omega)]; exact h.dom j (by omega)
 ·intro j x lj hj hlj hz
  rcases look hj with ⟨h1, h2⟩ | ⟨h1, h2, h3⟩
  ·subst h1
   simp only [if_true, Option.some.injEq] at hlj
   subst hlj
   obtain ⟨cs1, fz1, k1⟩ := h.typ i a l' hi hl h0
   rw [hc] at k1
   cases k1
   exact ⟨cs', fz, hp.blk⟩
  ·have hlj : μ j = some lj := by simpa [Nat.ne_of_lt h1] using hlj
   rw [hp.keep lj.b (fun e => h2 (h.inj j i x a lj l' h3 hi hlj hl hz h0 e))]
   exact h.typ j x lj h3 hlj hz
 ·intro j x lj hj hx hlj hz
  rcases look hj with ⟨h1, h2⟩ | ⟨h1, h2, h3⟩
  ·subst h1; subst h2
   simp only [if_true, Option.some.injEq] at hlj
   subst hlj
   exact h.vb i a l' hi (hv hx) hl h0
  ·have hlj : μ j = some lj := by simpa [Nat.ne_of_lt h1] using hlj
   exact h.vb j x lj h3 hx hlj hz
 ·refine h.mpk (Mem.le_refl _) ?_ ?_
  ·intro j x lj hj hlj hpz
   rcases look hj with ⟨h1, h2⟩ | ⟨h1, h2, h3⟩
   ·subst h1
    simp only [if_true, Option.some.injEq] at hlj
    subst hlj; cases hpz
   ·have hlj : μ j = some lj := by simpa [Nat.ne_of_lt h1] using hlj
    exact ⟨j, h3, hlj⟩
  ·intro b es c hb'
   rw [hp.keep b (fun e => by subst e; rw [hc] at hb'; cases hb')]; exact hb'
 ·intro j k x y lj lk hj hk pj pk hlj hlk he
  rcases look hj with ⟨h1, h2⟩ | ⟨h1, h2, h3⟩
  ·subst h1
   simp only [if_true, Option.some.injEq] at hlj
   subst hlj; cases pj
  ·rcases look hk with ⟨h4, h5⟩ | ⟨h4, h5, h6⟩
   ·subst h4
    simp only [if_true, Option.some.injEq] at hlk
    subst hlk; cases pk
   ·have hlj : μ j = some lj := by simpa [Nat.ne_of_lt h1] using hlj
    have hlk : μ k = some lk := by simpa [Nat.ne_of_lt h4] using hlk
    exact h.mpi j k x y lj lk h3 h6 pj pk hlj hlk he
 ·intro b _ ho
  exact hp.keep b (fun e => ho ⟨i, a, l', hi, hl, .inl h0, e.symm⟩)
 ·rintro b ⟨j, x, lj, hj, hlj, q, he⟩ _
  rcases look hj with ⟨h1, h2⟩ | ⟨h1, h2, h3⟩
  ·subst h1
   simp only [if_true, Option.some.injEq] at hlj
   subst hlj
   exact ⟨i, a, l', hi, hl, .inl h0, he⟩
  ·have hlj : μ j = some lj := by simpa [Nat.ne_of_lt h1] using hlj
   exact ⟨j, x, lj, h3, hlj, q, he⟩
theorem RH.recast {m : Mem} {μ : LMap} {H : Heap} {w : World} {i : Nat} {a a' : AVal} (h : RH m μ H w) (hi : H[i]? = some (some a)) (hs : a'.sh = a.sh) (hr : ∀ cs, CRel m μ a cs → CRel m μ a' cs) (hv : a'.isVb = true → a.isVb = true) (hnm : a.isMp = false) :
  Post m μ H w m μ (H.set i (some a')) w := by
 have hil : i < H.length := (List.getElem?_eq_some_iff.1 hi).1
 have look : ∀ {j : Nat} {x : AVal}, (H.set i (some a'))[j]? = some (some x) → (j = i ∧ x = a') ∨ (j ≠ i ∧ H[j]? = some (some x)) := by
  intro j x hj
  by_cases hji : j = i
  ·subst hji; rw [List.getElem?_set_self hil] at hj; exact .inl ⟨rfl, (Option.some.inj (Option.some.inj hj)).symm⟩
  ·rw [List.getElem?_set_ne (Ne.symm hji)] at hj; exact .inr ⟨hji, hj⟩
 have old : ∀ {j : Nat} {x : AVal}, (H.set i (some a'))[j]? = some (some x) → ∃ y, H[j]? = some (some y) := by
  intro j x hj
  rcases look hj with ⟨h1, _⟩ | ⟨_, h1⟩
  ·subst h1; exact ⟨a, hi⟩
  ·exact ⟨x, h1⟩
 refine ⟨⟨h.mem, fun j x hj => ?_, fun j k x y lj lk hj hk hlj hlk p1 p2 he => ?_, fun j hj => by rw [List.length_set] at hj; exact h.dom j hj, fun j x lj hj hlj hz => ?_, fun j x lj hj hx hlj hz => ?_, ?_, ?_⟩,
  Mem.le_refl _, LMap.le_refl _, rfl, rfl, rfl, Nat.le_refl _, fun _ _ _ => rfl, ?_, fun _ _ h => .inl h, ⟨by simp, fun _ _ h => h⟩⟩
 ·rcases look hj with ⟨h1, h2⟩ | ⟨_, h1⟩
  ·subst h1; subst h2
   obtain ⟨l, hb⟩ := h.blk j a hi
   refine ⟨l, hb.loc, by rw [hb.sh, hs], ?_⟩
   rw [hs]
   rcases hb.cells with ⟨p1, p2, p3, p4⟩ | ⟨p0, gm, c, E1, fz1, g1, g2, g3, g4, g5⟩
   ·exact .inl ⟨p1, p2, p3, hr _ p4⟩
   ·exact .inr ⟨p0, gm, c, E1, fz1, g1, g2, g3, g4, hr _ g5⟩
  ·exact h.blk j x h1
 ·obtain ⟨x', hx'⟩ := old hj
  obtain ⟨y', hy'⟩ := old hk
  exact h.inj j k x' y' lj lk hx' hy' hlj hlk p1 p2 he
 ·obtain ⟨x', hx'⟩ := old hj
  exact h.typ j x' lj hx' hlj hz
 ·rcases look hj with ⟨h1, h2⟩ | ⟨_, h1⟩
  ·subst h1; subst h2
   exact h.vb j a lj hi (hv hx) hlj hz
  ·exact h.vb j x lj h1 hx hlj hz
 ·refine h.mpk (Mem.le_refl _) ?_ (fun _ _ _ hb => hb)
  intro j x lj hj hlj hpz
  rcases look hj with ⟨h1, h2⟩ | ⟨h1, h2⟩
  ·subst h1
   obtain ⟨_, kt, vt, xs, es, c, e, _⟩ := h.mp j a lj hi hlj hpz
   rw [e] at hnm; cases hnm
  ·exact ⟨j, h2, hlj⟩
 ·intro j k x y lj lk hj hk pj pk hlj hlk he
  obtain ⟨x', hx'⟩ := old hj
  obtain ⟨y', hy'⟩ := old hk
  exact h.mpi j k x' y' lj lk hx' hy' pj pk hlj hlk he
 ·rintro b ⟨j, x, lj, hj, hlj, q, he⟩ _
  obtain ⟨x', hx'⟩ := old hj
  exact ⟨j, x', lj, hx', hlj, q, he⟩
theorem RH.phantom {m : Mem} {μ : LMap} {H : Heap} {w : World} {a : AVal} (h : RH m μ H w) (hs : a.sh.size = 0) (hr : CRel m μ a []) (b : Nat) :
  Post m μ H w m (fun j => if j = H.length then some ⟨b, 0, a.sh, 0, 0, false⟩ else μ j) (H ++ [some a]) w := by
 have hdom : μ H.length = none := h.dom _ (Nat.le_refl _)
 have hμ : μ.le (fun j => if j = H.length then some ⟨b, 0, a.sh, 0, 0, false⟩ else μ j) := by
  intro j l' hl'
  show (if j = H.length then _ else μ j) = some l'
  rw [if_neg (fun e => by subst e; rw [hdom] at hl'; cases hl')]; exact hl'
 refine ⟨⟨h.mem, ?_, ?_, ?_, ?_, ?_, ?_, ?_⟩, Mem.le_refl _, hμ, rfl, rfl, rfl, Nat.le_refl _, fun _ _ _ => rfl, ?_, fun _ _ h => .inl h, ⟨by simp, fun i hi h => by show (if i = H.length then _ else μ i) = none; rw [if_neg (by omega)]; exact h⟩⟩
 ·intro j x hj
  rcases Q0z hj with ⟨h1, h2⟩ | ⟨h1, h2⟩
  ·subst h1; subst h2
   exact ⟨⟨b, 0, x.sh, 0, 0, false⟩, by simp, rfl, .inl ⟨rfl, rfl, hs, hr.mono (Mem.le_refl m) hμ⟩⟩
  ·obtain ⟨lj, hbj⟩ := h.blk j x h2
   refine ⟨lj, hμ _ _ hbj.loc, hbj.sh, ?_⟩
   rcases hbj.cells with ⟨p1, p2, p3, p4⟩ | ⟨p0, q1, c, E1, fz1, q2, q3⟩
   ·exact .inl ⟨p1, p2, p3, p4.mono (Mem.le_refl m) hμ⟩
   ·exact .inr ⟨p0, q1, c, E1, fz1, q2, q3.1, q3.2.1, q3.2.2.1, q3.2.2.2.mono (Mem.le_refl m) hμ⟩
 ·intro j k x y lj lk hj hk hlj hlk z1 z2 he
  rcases Q0z hj with ⟨h1, h2⟩ | ⟨h1, h2⟩
  ·subst h1
   simp only [if_true, Option.some.injEq] at hlj
   subst hlj; simp at z1
  ·rcases Q0z hk with ⟨h4, h5⟩ | ⟨h4, h5⟩
   ·subst h4
    simp only [if_true, Option.some.injEq] at hlk
    subst hlk; simp at z2
   ·have hlj : μ j = some lj := by simpa [Nat.ne_of_lt h1] using hlj
    have hlk : μ k = some lk := by simpa [Nat.ne_of_lt h4] using hlk
    exact h.inj j k x y lj lk h2 h5 hlj hlk z1 z2 he
 ·intro j hj
  simp only [List.length_append, List.length_cons, List.length_nil] at hj
  show (if j = H.length then _ else μ j) = none
  rw [if_neg (by omega)]; exact h.dom j (by omega)
 ·intro j x lj hj hlj hz
  rcases Q0z hj with ⟨h1, h2⟩ | ⟨h1, h2⟩
  ·subst h1
   simp only [if_true, Option.some.injEq] at hlj
   subst hlj; simp at hz
  ·have hlj : μ j = some lj := by simpa [Nat.ne_of_lt h1] using hlj
   exact h.typ j x lj h2 hlj hz
 ·intro j x lj hj hx hlj hz
  rcases Q0z hj with ⟨h1, h2⟩ | ⟨h1, h2⟩
  ·subst h1
   simp only [if_true, Option.some.injEq] at hlj
   subst hlj; simp at hz
  ·have hlj : μ j = some lj := by simpa [Nat.ne_of_lt h1] using hlj
   exact h.vb j x lj h2 hx hlj hz
 ·refine h.mpk (Mem.le_refl _) ?_ (fun _ _ _ hb => hb)
  intro j x lj hj hlj hpz
  rcases Q0z hj with ⟨h1, h2⟩ | ⟨h1, h2⟩
  ·subst h1
   simp only [if_true, Option.some.injEq] at hlj
   subst hlj; cases hpz
  ·have hlj : μ j = some lj := by simpa [Nat.ne_of_lt h1] using hlj
   exact ⟨j, h2, hlj⟩
 ·intro j k x y lj lk hj hk pj pk hlj hlk he
  rcases Q0z hj with ⟨h1, h2⟩ | ⟨h1, h2⟩
  ·subst h1
   simp only [if_true, Option.some.injEq] at hlj
   subst hlj; cases pj
  ·rcases Q0z hk with ⟨h4, h5⟩ | ⟨h4, h5⟩
   ·subst h4
    simp only [if_true, Option.some.injEq] at hlk
    subst hlk; cases pk
   ·have hlj : μ j = some lj := by simpa [Nat.ne_of_lt h1] using hlj
    have hlk : μ k = some lk := by simpa [Nat.ne_of_lt h4] using hlk
    exact h.mpi j k x y lj lk h2 h5 pj pk hlj hlk he
 ·rintro b' ⟨j, x, lj, hj, hlj, q, he⟩ _
  rcases Q0z hj with ⟨h1, h2⟩ | ⟨h1, h2⟩
  ·subst h1
   simp only [if_true, Option.some.injEq] at hlj
   subst hlj; rcases q with q | q
   ·simp at q
   ·cases q
  ·have hlj : μ j = some lj := by simpa [Nat.ne_of_lt h1] using hlj
   exact ⟨j, x, lj, h2, hlj, q, he⟩
theorem RH.drawn {m : Mem} {μ : LMap} {H : Heap} {w : World} (h : RH m μ H w) (n : Nat) : Post m μ H w m μ H { w with drawn := n } :=
 ⟨⟨h.mem, fun i a hi => by obtain ⟨l, b⟩ := h.blk i a hi; exact ⟨l, b.loc, b.sh, b.cells⟩, h.inj, h.dom, h.typ, h.vb, h.mp, h.mpi⟩, Mem.le_refl _, LMap.le_refl _, rfl, rfl, rfl, Nat.le_refl _, fun _ _ _ => rfl, fun _ h _ => h, fun _ _ h => .inl h, ⟨by simp, fun _ _ h => h⟩⟩
structure RS (m : Mem) (μ : LMap) (sl : List AVal) (a : Act) : Prop where
 size : a.tmps.size = sl.length
 defers : a.defers = []
 rel : ∀ (i : Nat) (x : AVal), sl[i]? = some x → ∃ v, a.tmps[i]? = some v ∧ VRel m μ x v
theorem RS.mono {m m' : Mem} {μ μ' : LMap} (hm : m.le m') (hμ : μ.le μ') {sl : List AVal} {a : Act} (h : RS m μ sl a) : RS m' μ' sl a :=
 ⟨h.size, h.defers, fun i x hx => by obtain ⟨v, h1, h2⟩ := h.rel i x hx; exact ⟨v, h1, h2.mono hm hμ⟩⟩
theorem RS.put {m : Mem} {μ : LMap} {sl : List AVal} {a : Act} (h : RS m μ sl a) {d : Nat} {x : AVal} {v : Value} (hv : VRel m μ x v) : RS m μ (sl.set d x) (a.put (some d) v) := by
 refine ⟨by simp [Act.put, h.size], h.defers, fun i y hy => ?_⟩
 simp only [Act.put]
 by_cases hi : d = i
 ·subst hi
  have hd : d < sl.length := by
   rcases Nat.lt_or_ge d sl.length with h1 | h1
   ·exact h1
   ·rw [List.getElem?_eq_none (by simpa using h1)] at hy; cases hy
  rw [List.getElem?_set_self hd] at hy
  cases hy
  exact ⟨v, by simp [h.size, hd], hv⟩
 ·rw [List.getElem?_set_ne hi] at hy
  obtain ⟨u, h1, h2⟩ := h.rel i y hy
  exact ⟨u, by rw [Array.getElem?_setIfInBounds_ne hi]; exact h1, h2⟩
end Go.Am
