/- A part of a proof: a machine of abstract values that tells what functions of the program compute, and the plain facts on them. -/
import Derived.Calls
import Derived.Orders
set_option linter.unusedVariables false
set_option linter.unusedSimpArgs false
set_option linter.unnecessarySimpa false
set_option linter.unusedSectionVars false
namespace Go.Am
open Go
inductive Ty where
 | int (k : IntKind) | bool | str | unit | pair (a b : Ty) | arr (n : Nat) (t : Ty) | sl (t : Ty)
 deriving DecidableEq
@[reducible] def Ty.den : Ty → Type
 | .int _ => Int
 | .bool => Bool
 | .str => ByteArray
 | .unit => Unit
 | .pair a b => a.den × b.den
 | .arr _ t => List t.den
 | .sl t => List t.den
def Ty.size : Ty → Nat
 | .int _ => 1
 | .bool => 1
 | .str => 1
 | .unit => 0
 | .pair a b => a.size + b.size
 | .arr n t => n * t.size
 | .sl _ => 1
def Ty.zero : (t : Ty) → t.den
 | .int _ => (0 : Int)
 | .bool => false
 | .str => ByteArray.empty
 | .unit => ()
 | .pair a b => (a.zero, b.zero)
 | .arr n t => List.replicate n t.zero
 | .sl _ => []
inductive AVal where
 | undef
 | int (k : IntKind) (n : Int)
 | bool (b : Bool)
 | str (s : ByteArray)
 | nilp
 | ptr (id : Nat) (path : List Nat)
 | nils
 | sl (id : Nat) (path : List Nat) (off len : Nat)
 | ros (t : Ty) (xs : List t.den)
 | rop (t : Ty) (x : t.den)
 | arr (n : Nat) (t : Ty) (xs : List t.den)
 | vec (t : Ty) (xs : List t.den)
 | vsl (id : Nat)
 | unit
 | pair (a b : AVal)
 | parr (id : Nat) (path : List Nat) (off n : Nat)
 | sfp (id : Nat) (path : List Nat) (T : TypeId)
 | vbs (id : Nat)
 | fn (f : Nat) (caps : AVal)
 | tup (a : AVal)
def toA : (t : Ty) → t.den → AVal
 | .int k, n => .int k n
 | .bool, b => .bool b
 | .str, s => .str s
 | .unit, _ => .unit
 | .pair a b, x => .pair (toA a x.1) (toA b x.2)
 | .arr n t, xs => .arr n t xs
 | .sl t, xs => .ros t xs
def Q2z : (t : Ty) → AVal → Option t.den
 | .int k, .int k' n => if k' = k then some n else none
 | .bool, .bool b => some b
 | .str, .str s => some s
 | .unit, .unit => some ()
 | .pair a b, .pair x y => (Q2z a x).bind fun u => (Q2z b y).bind fun v => some (u, v)
 | .arr n t, .arr n' t' xs => if n' = n then (if h : t' = t then some (h ▸ xs) else none) else none
 | .sl t, .ros t' xs => if h : t' = t then some (h ▸ xs) else none
 | .sl _, .nils => some []
 | _, _ => none
inductive Sh where
 | leaf | unit | pair (a b : Sh) | arr (n : Nat) (t : Ty)
 deriving DecidableEq
def Sh.size : Sh → Nat
 | .leaf => 1
 | .unit => 0
 | .pair a b => a.size + b.size
 | .arr n t => n * t.size
def Ty.sh : Ty → Sh
 | .unit => .unit
 | .pair a b => .pair a.sh b.sh
 | .arr n t => .arr n t
 | _ => .leaf
def AVal.sh : AVal → Sh
 | .unit => .unit
 | .pair a b => .pair a.sh b.sh
 | .arr n t _ => .arr n t
 | .vec t xs => .arr xs.length t
 | _ => .leaf
def AVal.size (a : AVal) : Nat := a.sh.size
def AVal.isVb : AVal → Bool
 | .vec (.int .u8) _ => true
 | _ => false
def Q8E : AVal → Nat → Option AVal
 | .pair a _, 0 => some a
 | .pair _ b, i + 1 => Q8E b i
 | .arr _ t xs, i => some (toA t (xs.getD i t.zero))
 | .vec t xs, i => some (toA t (xs.getD i t.zero))
 | _, _ => none
def getP (a : AVal) : List Nat → Option AVal
 | [] => some a
 | i :: p => (Q8E a i).bind fun x => getP x p
def setF : AVal → Nat → AVal → Option AVal
 | .pair _ b, 0, x => some (.pair x b)
 | .pair a b, i + 1, x => (setF b i x).bind fun b' => some (.pair a b')
 | .arr n t xs, i, x => (Q2z t x).bind fun y => some (.arr n t (xs.set i y))
 | .vec t xs, i, x => (Q2z t x).bind fun y => some (.vec t (xs.set i y))
 | _, _, _ => none
def setP (a : AVal) : List Nat → AVal → Option AVal
 | [], x => some x
 | i :: p, x => (Q8E a i).bind fun c => (setP c p x).bind fun c' => setF a i c'
def Sh.fieldOff : Sh → Nat → Option (Nat × Sh)
 | .pair a _, 0 => some (0, a)
 | .pair a b, i + 1 => (Sh.fieldOff b i).bind fun r => some (a.size + r.1, r.2)
 | .arr n t, i => if i < n then some (i * t.size, t.sh) else none
 | _, _ => none
def Sh.offP (s : Sh) : List Nat → Option (Nat × Sh)
 | [] => some (0, s)
 | i :: p => (s.fieldOff i).bind fun r => (Sh.offP r.2 p).bind fun q => some (r.1 + q.1, q.2)
structure Loc where
 b : Nat
 off : Nat
 sh : Sh
 tot : Nat
 E : TypeId
abbrev LMap := Nat → Option Loc
abbrev Mem := Nat → Option (Array Value)
def Mem.cells (m : Mem) (b o n : Nat) : Option (List Value) :=
 match m b with
 | some cs => if o + n ≤ cs.size then some ((cs.toList.drop o).take n) else none
 | none => none
def DRel (m : Mem) : (t : Ty) → t.den → List Value → Prop
 | .int k, n, cs => cs = [.int k n]
 | .bool, b, cs => cs = [.bool b]
 | .str, s, cs => cs = [.string s]
 | .unit, _, cs => cs = []
 | .pair a b, x, cs => DRel m a x.1 (cs.take a.size) ∧ DRel m b x.2 (cs.drop a.size)
 | .arr n t, xs, cs => xs.length = n ∧ cs.length = n * t.size ∧ ∀ i, i < n → DRel m t (xs.getD i t.zero) ((cs.drop (i * t.size)).take t.size)
 | .sl t, xs, cs => ∃ a cap, cs = [.slice a xs.length cap] ∧ xs.length ≤ cap ∧
   ∀ i, i < xs.length → ∃ ad c, a = some ad ∧ ad.spot = none ∧ m.cells ad.block (ad.off + i * t.size) t.size = some c ∧ DRel m t (xs.getD i t.zero) c
def CRel (m : Mem) (μ : LMap) : AVal → List Value → Prop
 | .undef, _ => False
 | .int k n, cs => cs = [.int k n]
 | .bool b, cs => cs = [.bool b]
 | .str s, cs => cs = [.string s]
 | .nilp, cs => cs = [.pointer none]
 | .ptr id p, cs => ∃ l o s, μ id = some l ∧ l.sh.offP p = some (o, s) ∧ cs = [.pointer (some ⟨l.b, l.off + o, none⟩)]
 | .nils, cs => cs = [.slice none 0 0]
 | .sl id p off len, cs => ∃ l o n t a cap, μ id = some l ∧ l.sh.offP p = some (o, .arr n t) ∧ off + len ≤ n ∧ len ≤ cap ∧
   cs = [.slice a len cap] ∧ ((a = some ⟨l.b, l.off + o + off * t.size, none⟩ ∧ (p = [] → l.off + (off + cap) * t.size ≤ l.tot)) ∨ cap = 0)
 | .ros t xs, cs => DRel m (.sl t) xs cs
 | .rop t x, cs => ∃ ad c, cs = [.pointer (some ad)] ∧ ad.spot = none ∧ m.cells ad.block ad.off t.size = some c ∧ DRel m t x c
 | .arr n t xs, cs => DRel m (.arr n t) xs cs
 | .vec t xs, cs => DRel m (.arr xs.length t) xs cs
 | .vsl id, cs => ∃ l n t a cap, μ id = some l ∧ l.sh = .arr n t ∧ n ≤ cap ∧ cs = [.slice a n cap] ∧ ((a = some ⟨l.b, l.off, none⟩ ∧ l.off + cap * t.size ≤ l.tot) ∨ cap = 0)
 | .unit, cs => cs = []
 | .pair a b, cs => CRel m μ a (cs.take a.size) ∧ CRel m μ b (cs.drop a.size)
 | .parr id p off n, cs => ∃ l o N t, μ id = some l ∧ l.sh.offP p = some (o, .arr N t) ∧ off + n ≤ N ∧ cs = [.pointer (some ⟨l.b, l.off + o + off * t.size, none⟩)]
 | .vbs id, cs => ∃ l n a cap, μ id = some l ∧ l.sh = .arr n (.int .u8) ∧ n ≤ cap ∧ cs = [.slice a n cap] ∧ ((a = some ⟨l.b, l.off, none⟩ ∧ 0 < cap ∧ l.off + cap ≤ l.tot) ∨ (cap = 0 ∧ a = none))
 | .sfp id p T, cs => ∃ l o s, μ id = some l ∧ l.E = T ∧ l.off = 0 ∧ l.tot = l.sh.size ∧ 0 < l.tot ∧ l.sh.offP p = some (o, s) ∧ (cs = [.pointer none] ∨ cs = [.pointer (some ⟨l.b, o, none⟩)])
 | .fn f caps, cs => ∃ cap : Array Value, cs = [.func (.func f) #[] cap] ∧ CRel m μ caps cap.toList
 | .tup _, _ => False
def AVal.isAgg : AVal → Bool
 | .unit => true
 | .pair _ _ => true
 | .arr _ _ _ => true
 | .vec _ _ => true
 | _ => false
def Q2v (m : Mem) (μ : LMap) (a : AVal) (v : Value) : Prop :=
 match a with
 | .undef => True
 | .tup _ => False
 | a => if a.isAgg then ∃ cs, v = .agg cs ∧ CRel m μ a cs.toList else CRel m μ a [v]
def TRel (m : Mem) (μ : LMap) : AVal → List Value → Prop
 | .unit, vs => vs = []
 | .pair a b, vs => ∃ v r, vs = v :: r ∧ Q2v m μ a v ∧ TRel m μ b r
 | _, _ => False
def VRel (m : Mem) (μ : LMap) (a : AVal) (v : Value) : Prop :=
 match a with
 | .tup s => ∃ vs, v = .tuple vs ∧ TRel m μ s vs.toList
 | a => Q2v m μ a v
theorem Ty.sh_size : ∀ t : Ty, t.sh.size = t.size
 | .int _ => rfl
 | .bool => rfl
 | .str => rfl
 | .unit => rfl
 | .pair a b => by simp [Ty.sh, Sh.size, Ty.size, Ty.sh_size a, Ty.sh_size b]
 | .arr _ _ => rfl
 | .sl _ => rfl
theorem Q7G : ∀ (t : Ty) (x : t.den), (toA t x).sh = t.sh
 | .int _, _ => rfl
 | .bool, _ => rfl
 | .str, _ => rfl
 | .unit, _ => rfl
 | .pair a b, x => by simp [toA, AVal.sh, Ty.sh, Q7G a, Q7G b]
 | .arr _ _, _ => rfl
 | .sl _, _ => rfl
theorem Q5s (t : Ty) (x : t.den) : (toA t x).size = t.size := by
 rw [AVal.size, Q7G, Ty.sh_size]
theorem DRel.length {m : Mem} : ∀ {t : Ty} {x : t.den} {cs : List Value}, DRel m t x cs → cs.length = t.size
 | .int _, _, _, h => by simp only [DRel] at h; subst h; rfl
 | .bool, _, _, h => by simp only [DRel] at h; subst h; rfl
 | .str, _, _, h => by simp only [DRel] at h; subst h; rfl
 | .unit, _, _, h => by simp only [DRel] at h; subst h; rfl
 | .pair a b, x, cs, h => by
  simp only [DRel] at h
  have h1 := DRel.length h.1
  have h2 := DRel.length h.2
  simp only [List.length_take, List.length_drop] at h1 h2
  simp only [Ty.size]; omega
 | .arr _ _, _, _, h => by simp only [DRel] at h; exact h.2.1
 | .sl _, _, _, h => by simp only [DRel] at h; obtain ⟨a, cap, h, _⟩ := h; subst h; rfl
theorem Q36 {m : Mem} {μ : LMap} : ∀ {t : Ty} {x : t.den} {cs : List Value}, CRel m μ (toA t x) cs ↔ DRel m t x cs
 | .int _, _, _ => Iff.rfl
 | .bool, _, _ => Iff.rfl
 | .str, _, _ => Iff.rfl
 | .unit, _, _ => Iff.rfl
 | .pair a b, x, cs => by
  simp only [toA, CRel, DRel, Q5s, Q36 (t := a), Q36 (t := b)]
 | .arr _ _, _, _ => Iff.rfl
 | .sl _, _, _ => Iff.rfl
theorem Q33 {m : Mem} {μ : LMap} : ∀ {t : Ty} {a : AVal} {x : t.den}, Q2z t a = some x → a.sh = t.sh ∧ ∀ {cs : List Value}, CRel m μ a cs → DRel m t x cs
 | .int k, a, x, h => by
  cases a <;> simp only [Q2z] at h <;> try (cases h; done)
  rename_i k' n
  by_cases hk : k' = k
  ·rw [if_pos hk] at h; cases h; subst hk; exact ⟨rfl, fun h => h⟩
  ·rw [if_neg hk] at h; cases h
 | .bool, a, x, h => by
  cases a <;> simp only [Q2z] at h <;> try (cases h; done)
  cases h; exact ⟨rfl, fun h => h⟩
 | .str, a, x, h => by
  cases a <;> simp only [Q2z] at h <;> try (cases h; done)
  cases h; exact ⟨rfl, fun h => h⟩
 | .unit, a, x, h => by
  cases a <;> simp only [Q2z] at h <;> try (cases h; done)
  exact ⟨rfl, fun h => h⟩
 | .pair a b, v, x, h => by
  cases v <;> simp only [Q2z] at h <;> try (cases h; done)
  rename_i va vb
  cases ha : Q2z a va with
  | none => rw [ha] at h; cases h
  | some u =>
   rw [ha] at h
   simp only [Option.bind_some] at h
   cases hb : Q2z b vb with
   | none => rw [hb] at h; cases h
   | some w =>
    rw [hb] at h
    cases h
    have iha := Q33 (m := m) (μ := μ) ha
    have ihb := Q33 (m := m) (μ := μ) hb
    refine ⟨by simp [AVal.sh, Ty.sh, iha.1, ihb.1], fun {cs} hc => ?_⟩
    simp only [CRel] at hc
    have hs : va.size = a.size := by rw [AVal.size, iha.1, Ty.sh_size]
    rw [hs] at hc
    exact ⟨iha.2 hc.1, ihb.2 hc.2⟩
 | .arr n t, v, x, h => by
  cases v <;> simp only [Q2z] at h <;> try (cases h; done)
  rename_i n' t' xs
  by_cases hn : n' = n
  ·rw [if_pos hn] at h
   by_cases ht : t' = t
   ·subst hn; subst ht; rw [dif_pos rfl] at h; cases h; exact ⟨rfl, fun h => h⟩
   ·rw [dif_neg ht] at h; cases h
  ·rw [if_neg hn] at h; cases h
 | .sl t, v, x, h => by
  cases v <;> simp only [Q2z] at h <;> try (cases h; done)
  ·cases h
   refine ⟨rfl, fun {cs} hc => ?_⟩
   simp only [CRel] at hc
   exact ⟨none, 0, hc, Nat.le_refl _, fun i hi => absurd hi (Nat.not_lt_zero i)⟩
  ·rename_i t' xs
   by_cases ht : t' = t
   ·subst ht; rw [dif_pos rfl] at h; cases h; exact ⟨rfl, fun h => h⟩
   ·rw [dif_neg ht] at h; cases h
theorem CRel.length {m : Mem} {μ : LMap} : ∀ {a : AVal} {cs : List Value}, CRel m μ a cs → cs.length = a.size
 | .undef, _, h => h.elim
 | .int _ _, _, h => by simp only [CRel] at h; subst h; rfl
 | .bool _, _, h => by simp only [CRel] at h; subst h; rfl
 | .str _, _, h => by simp only [CRel] at h; subst h; rfl
 | .nilp, _, h => by simp only [CRel] at h; subst h; rfl
 | .ptr _ _, _, h => by simp only [CRel] at h; obtain ⟨l, o, s, _, _, h⟩ := h; subst h; rfl
 | .nils, _, h => by simp only [CRel] at h; subst h; rfl
 | .sl _ _ _ _, _, h => by simp only [CRel] at h; obtain ⟨l, o, n, t, a, cap, _, _, _, _, h, _⟩ := h; subst h; rfl
 | .ros t xs, _, h => by have := DRel.length (t := .sl t) h; exact this
 | .rop _ _, _, h => by simp only [CRel] at h; obtain ⟨ad, c, h, _⟩ := h; subst h; rfl
 | .arr n t xs, _, h => by have := DRel.length (t := .arr n t) h; exact this
 | .vec t xs, _, h => by have := DRel.length (t := .arr xs.length t) h; exact this
 | .vsl _, _, h => by simp only [CRel] at h; obtain ⟨l, n, t, a, cap, _, _, _, h, _⟩ := h; subst h; rfl
 | .unit, _, h => by simp only [CRel] at h; subst h; rfl
 | .pair a b, cs, h => by
  simp only [CRel] at h
  have h1 := CRel.length h.1
  have h2 := CRel.length h.2
  simp only [List.length_take, List.length_drop] at h1 h2
  simp only [AVal.size, AVal.sh, Sh.size] at *; omega
 | .parr _ _ _ _, _, h => by simp only [CRel] at h; obtain ⟨l, o, N, t, _, _, _, h⟩ := h; subst h; rfl
 | .vbs _, _, h => by simp only [CRel] at h; obtain ⟨l, n, a, cap, _, _, _, h, _⟩ := h; subst h; rfl
 | .sfp _ _ _, _, h => by
  simp only [CRel] at h
  obtain ⟨l, o, s, _, _, _, _, _, _, h | h⟩ := h <;> subst h <;> rfl
 | .fn _ _, _, h => by simp only [CRel] at h; obtain ⟨cap, h, _⟩ := h; subst h; rfl
 | .tup _, _, h => h.elim
def Mem.le (m m' : Mem) : Prop := ∀ b c, m b = some c → m' b = some c
def LMap.le (μ μ' : LMap) : Prop := ∀ i l, μ i = some l → μ' i = some l
theorem Mem.le_refl (m : Mem) : m.le m := fun _ _ h => h
theorem LMap.le_refl (m : LMap) : m.le m := fun _ _ h => h
theorem Mem.le_trans {a b c : Mem} (h : a.le b) (k : b.le c) : a.le c := fun x y z => k x y (h x y z)
theorem LMap.le_trans {a b c : LMap} (h : a.le b) (k : b.le c) : a.le c := fun x y z => k x y (h x y z)
theorem Mem.cells_mono {m m' : Mem} (h : m.le m') {b o n : Nat} {c : List Value} (hc : m.cells b o n = some c) : m'.cells b o n = some c := by
 unfold Mem.cells at *
 cases hb : m b with
 | none => rw [hb] at hc; cases hc
 | some cs => rw [hb] at hc; rw [h b cs hb]; exact hc
theorem DRel.mono {m m' : Mem} (hm : m.le m') : ∀ {t : Ty} {x : t.den} {cs : List Value}, DRel m t x cs → DRel m' t x cs
 | .int _, _, _, h => h
 | .bool, _, _, h => h
 | .str, _, _, h => h
 | .unit, _, _, h => h
 | .pair a b, x, cs, h => by simp only [DRel] at *; exact ⟨DRel.mono hm h.1, DRel.mono hm h.2⟩
 | .arr _ t, _, _, h => by simp only [DRel] at *; exact ⟨h.1, h.2.1, fun i hi => DRel.mono hm (h.2.2 i hi)⟩
 | .sl t, _, _, h => by
  simp only [DRel] at *
  obtain ⟨a, cap, h1, h2, h3⟩ := h
  refine ⟨a, cap, h1, h2, fun i hi => ?_⟩
  obtain ⟨ad, c, g1, g2, g3, g4⟩ := h3 i hi
  exact ⟨ad, c, g1, g2, Mem.cells_mono hm g3, DRel.mono hm g4⟩
theorem CRel.mono {m m' : Mem} {μ μ' : LMap} (hm : m.le m') (hμ : μ.le μ') : ∀ {a : AVal} {cs : List Value}, CRel m μ a cs → CRel m' μ' a cs
 | .undef, _, h => h.elim
 | .int _ _, _, h => h
 | .bool _, _, h => h
 | .str _, _, h => h
 | .nilp, _, h => h
 | .ptr _ _, _, h => by simp only [CRel] at *; obtain ⟨l, o, s, h1, h2, h3⟩ := h; exact ⟨l, o, s, hμ _ _ h1, h2, h3⟩
 | .nils, _, h => h
 | .sl _ _ _ _, _, h => by simp only [CRel] at *; obtain ⟨l, o, n, t, a, cap, h1, h2⟩ := h; exact ⟨l, o, n, t, a, cap, hμ _ _ h1, h2⟩
 | .ros t xs, _, h => by simp only [CRel] at *; exact DRel.mono (t := .sl t) hm h
 | .rop _ _, _, h => by simp only [CRel] at *; obtain ⟨ad, c, h1, h2, h3, h4⟩ := h; exact ⟨ad, c, h1, h2, Mem.cells_mono hm h3, DRel.mono hm h4⟩
 | .arr n t xs, _, h => by simp only [CRel] at *; exact DRel.mono (t := .arr n t) hm h
 | .vec t xs, _, h => by simp only [CRel] at *; exact DRel.mono (t := .arr xs.length t) hm h
 | .vsl _, _, h => by simp only [CRel] at *; obtain ⟨l, n, t, a, cap, h1, h2⟩ := h; exact ⟨l, n, t, a, cap, hμ _ _ h1, h2⟩
 | .unit, _, h => h
 | .pair a b, cs, h => by simp only [CRel] at *; exact ⟨CRel.mono hm hμ h.1, CRel.mono hm hμ h.2⟩
 | .parr _ _ _ _, _, h => by simp only [CRel] at *; obtain ⟨l, o, N, t, h1, h2⟩ := h; exact ⟨l, o, N, t, hμ _ _ h1, h2⟩
 | .sfp _ _ _, _, h => by simp only [CRel] at *; obtain ⟨l, o, s, h1, h2⟩ := h; exact ⟨l, o, s, hμ _ _ h1, h2⟩
 | .vbs _, _, h => by simp only [CRel] at *; obtain ⟨l, n, a, cap, h1, h2⟩ := h; exact ⟨l, n, a, cap, hμ _ _ h1, h2⟩
 | .fn _ c, _, h => by simp only [CRel] at *; obtain ⟨cap, h1, h2⟩ := h; exact ⟨cap, h1, CRel.mono hm hμ h2⟩
 | .tup _, _, h => h.elim
theorem Q2v.mono {m m' : Mem} {μ μ' : LMap} (hm : m.le m') (hμ : μ.le μ') {a : AVal} {v : Value} (h : Q2v m μ a v) : Q2v m' μ' a v := by
 unfold Q2v at *
 split at h
 ·trivial
 ·exact h.elim
 ·split at h
  ·obtain ⟨cs, h1, h2⟩ := h; rw [if_pos ‹_›]; exact ⟨cs, h1, h2.mono hm hμ⟩
  ·rw [if_neg ‹_›]; exact h.mono hm hμ
theorem TRel.mono {m m' : Mem} {μ μ' : LMap} (hm : m.le m') (hμ : μ.le μ') : ∀ {a : AVal} {vs : List Value}, TRel m μ a vs → TRel m' μ' a vs
 | .unit, _, h => h
 | .pair a b, _, h => by
  simp only [TRel] at *
  obtain ⟨v, r, h1, h2, h3⟩ := h
  exact ⟨v, r, h1, h2.mono hm hμ, TRel.mono hm hμ h3⟩
 | .undef, _, h | .int _ _, _, h | .bool _, _, h | .str _, _, h | .nilp, _, h | .ptr _ _, _, h | .nils, _, h | .sl _ _ _ _, _, h | .ros _ _, _, h
 | .rop _ _, _, h | .arr _ _ _, _, h | .vec _ _, _, h | .vsl _, _, h | .vbs _, _, h | .parr _ _ _ _, _, h | .sfp _ _ _, _, h | .fn _ _, _, h | .tup _, _, h => h.elim
theorem VRel.mono {m m' : Mem} {μ μ' : LMap} (hm : m.le m') (hμ : μ.le μ') {a : AVal} {v : Value} (h : VRel m μ a v) : VRel m' μ' a v := by
 unfold VRel at *
 split at h
 ·obtain ⟨vs, h1, h2⟩ := h; exact ⟨vs, h1, h2.mono hm hμ⟩
 ·exact h.mono hm hμ
theorem Q1L (cs : List Value) (a b o n : Nat) (h : o + n ≤ b) : (((cs.drop a).take b).drop o).take n = (cs.drop (a + o)).take n := by
 rw [List.drop_take, List.take_take, List.drop_drop]
 congr 1
 omega
theorem Q3i {m : Mem} {μ : LMap} : ∀ {a : AVal} {cs : List Value} {i o : Nat} {s : Sh}, CRel m μ a cs → a.sh.fieldOff i = some (o, s) →
  o + s.size ≤ a.sh.size ∧ ∃ x, Q8E a i = some x ∧ x.sh = s ∧ CRel m μ x ((cs.drop o).take s.size)
 | .pair a b, cs, 0, o, s, hc, h => by
  simp only [AVal.sh, Sh.fieldOff] at h
  cases h
  simp only [CRel] at hc
  refine ⟨by simp [AVal.sh, Sh.size], a, rfl, rfl, ?_⟩
  simpa [AVal.size] using hc.1
 | .pair a b, cs, i + 1, o, s, hc, h => by
  simp only [AVal.sh, Sh.fieldOff] at h
  cases hb : b.sh.fieldOff i with
  | none => rw [hb] at h; cases h
  | some r =>
   obtain ⟨o', s'⟩ := r
   rw [hb] at h
   simp only [Option.bind_some, Option.some.injEq, Prod.mk.injEq] at h
   obtain ⟨h1, h2⟩ := h
   subst h1; subst h2
   simp only [CRel] at hc
   obtain ⟨hle, x, hx, hs, hr⟩ := Q3i hc.2 hb
   refine ⟨by simp only [AVal.sh, Sh.size]; omega, x, hx, hs, ?_⟩
   rw [List.drop_drop] at hr
   exact hr
 | .arr n t xs, cs, i, o, s, hc, h => by
  simp only [AVal.sh, Sh.fieldOff] at h
  by_cases hi : i < n
  ·rw [if_pos hi] at h
   simp only [Option.some.injEq, Prod.mk.injEq] at h
   obtain ⟨h1, h2⟩ := h
   subst h1; subst h2
   simp only [CRel, DRel] at hc
   refine ⟨?_, _, rfl, Q7G _ _, ?_⟩
   ·simp only [AVal.sh, Sh.size, Ty.sh_size]
    have : (i + 1) * t.size ≤ n * t.size := Nat.mul_le_mul_right _ hi
    rw [Nat.add_mul] at this; omega
   ·rw [Ty.sh_size]; exact Q36.2 (hc.2.2 i hi)
  ·rw [if_neg hi] at h; cases h
 | .vec t xs, cs, i, o, s, hc, h => by
  simp only [AVal.sh, Sh.fieldOff] at h
  by_cases hi : i < xs.length
  ·rw [if_pos hi] at h
   simp only [Option.some.injEq, Prod.mk.injEq] at h
   obtain ⟨h1, h2⟩ := h
   subst h1; subst h2
   simp only [CRel, DRel] at hc
   refine ⟨?_, _, rfl, Q7G _ _, ?_⟩
   ·simp only [AVal.sh, Sh.size, Ty.sh_size]
    have : (i + 1) * t.size ≤ xs.length * t.size := Nat.mul_le_mul_right _ hi
    rw [Nat.add_mul] at this; omega
   ·rw [Ty.sh_size]; exact Q36.2 (hc.2.2 i hi)
  ·rw [if_neg hi] at h; cases h
 | .unit, _, _, _, _, _, h | .undef, _, _, _, _, _, h | .int _ _, _, _, _, _, _, h | .bool _, _, _, _, _, _, h | .str _, _, _, _, _, _, h | .nilp, _, _, _, _, _, h | .ptr _ _, _, _, _, _, _, h
 | .nils, _, _, _, _, _, h | .sl _ _ _ _, _, _, _, _, _, h | .ros _ _, _, _, _, _, _, h | .rop _ _, _, _, _, _, _, h | .parr _ _ _ _, _, _, _, _, _, h | .sfp _ _ _, _, _, _, _, _, h | .vbs _, _, _, _, _, _, h | .vsl _, _, _, _, _, _, h | .fn _ _, _, _, _, _, _, h | .tup _, _, _, _, _, _, h => by
  simp [AVal.sh, Sh.fieldOff] at h
theorem Q2q {m : Mem} {μ : LMap} : ∀ {p : List Nat} {a : AVal} {cs : List Value} {o : Nat} {s : Sh}, CRel m μ a cs → a.sh.offP p = some (o, s) →
  o + s.size ≤ a.sh.size ∧ ∃ x, getP a p = some x ∧ x.sh = s ∧ CRel m μ x ((cs.drop o).take s.size)
 | [], a, cs, o, s, hc, h => by
  simp only [Sh.offP] at h
  cases h
  refine ⟨by simp, a, rfl, rfl, ?_⟩
  have := hc.length
  simp only [AVal.size] at this
  rw [List.drop_zero, ← this, List.take_length]
  exact hc
 | i :: p, a, cs, o, s, hc, h => by
  simp only [Sh.offP] at h
  cases hf : a.sh.fieldOff i with
  | none => rw [hf] at h; cases h
  | some r =>
   obtain ⟨o1, s1⟩ := r
   rw [hf] at h
   simp only [Option.bind_some] at h
   cases hp : s1.offP p with
   | none => rw [hp] at h; cases h
   | some q =>
    obtain ⟨o2, s2⟩ := q
    rw [hp] at h
    simp only [Option.bind_some, Option.some.injEq, Prod.mk.injEq] at h
    obtain ⟨h1, h2⟩ := h
    subst h1; subst h2
    obtain ⟨hle, x, hx, hs, hr⟩ := Q3i hc hf
    subst hs
    obtain ⟨hle2, y, hy, hs2, hr2⟩ := Q2q hr hp
    refine ⟨by omega, y, by simp [getP, hx, hy], hs2, ?_⟩
    rw [Q1L _ _ _ _ _ hle2] at hr2
    exact hr2
def Q1B (cs : List Value) (o : Nat) (xs : List Value) : List Value := cs.take o ++ xs ++ cs.drop (o + xs.length)
theorem Q2g {cs xs : List Value} {o : Nat} (h : o + xs.length ≤ cs.length) : (Q1B cs o xs).length = cs.length := by
 simp [Q1B]; omega
theorem Q4z (cs xs : List Value) (h : xs.length = cs.length) : Q1B cs 0 xs = xs := by
 simp [Q1B, h]
theorem Q3c {cs xs : List Value} {o a n : Nat} (h : a + n ≤ o) (hl : o ≤ cs.length) : ((Q1B cs o xs).drop a).take n = (cs.drop a).take n := by
 unfold Q1B
 rw [List.append_assoc, List.drop_append_of_le_length (by simp; omega), List.take_append_of_le_length (by simp; omega), List.drop_take, List.take_take]
 congr 1; omega
theorem Q3v {cs xs : List Value} {o a : Nat} (h : o + xs.length ≤ a) (hl : o + xs.length ≤ cs.length) : (Q1B cs o xs).drop a = cs.drop a := by
 unfold Q1B
 rw [List.drop_append, List.drop_eq_nil_of_le (by simp; omega), List.nil_append, List.drop_drop]
 congr 1
 simp; omega
theorem Q3M {cs xs : List Value} {o a n : Nat} (h : a ≤ o) (hn : o + xs.length ≤ a + n) (hl : a + n ≤ cs.length) :
  ((Q1B cs o xs).drop a).take n = Q1B ((cs.drop a).take n) (o - a) xs := by
 unfold Q1B
 apply List.ext_getElem?
 intro i
 simp only [List.getElem?_take, List.getElem?_drop, List.getElem?_append, List.length_append, List.length_take, List.length_drop]
 by_cases hi : i < n
 ·rw [if_pos hi]
  by_cases h1 : a + i < o
  ·rw [if_pos (by omega), if_pos (by omega), if_pos (by omega), if_pos (by omega), if_pos (by omega), if_pos (by omega), if_pos hi]
  ·by_cases h2 : a + i < o + xs.length
   ·rw [if_pos (by omega), if_neg (by omega), if_pos (by omega), if_neg (by omega)]
    congr 1; omega
   ·rw [if_neg (by omega), if_neg (by omega), if_pos (by omega)]
    congr 1; omega
 ·rw [if_neg hi]
  by_cases h2 : i < min (o - a) (min n (cs.length - a)) + xs.length
  ·omega
  ·rw [if_neg h2, if_neg (by omega)]
theorem Q6I {m : Mem} {μ : LMap} : ∀ {a : AVal} {cs : List Value} {i o : Nat} {s : Sh} {x : AVal} {xs : List Value} {a' : AVal}, CRel m μ a cs → a.sh.fieldOff i = some (o, s) →
  CRel m μ x xs → x.sh = s → setF a i x = some a' → a'.sh = a.sh ∧ CRel m μ a' (Q1B cs o xs)
 | .pair a b, cs, 0, o, s, x, xs, a', hc, h, hx, hs, he => by
  simp only [AVal.sh, Sh.fieldOff] at h
  cases h
  simp only [setF, Option.some.injEq] at he
  subst he
  have hl := hc.length
  simp only [CRel] at hc
  have hxl := hx.length
  simp only [AVal.size, AVal.sh, Sh.size] at hl hxl
  refine ⟨by simp [AVal.sh, hs], ?_⟩
  simp only [CRel, AVal.size]
  constructor
  ·have := Q3M (cs := cs) (xs := xs) (o := 0) (a := 0) (n := x.sh.size) (Nat.le_refl _) (by omega) (by rw [hs]; omega)
   simp only [List.drop_zero] at this
   rw [this, Q4z _ _ (by simp; rw [hs] at hxl ⊢; omega)]
   exact hx
  ·rw [Q3v (by omega) (by rw [hs] at hxl; omega), hs]; exact hc.2
 | .pair a b, cs, i + 1, o, s, x, xs, a', hc, h, hx, hs, he => by
  simp only [AVal.sh, Sh.fieldOff] at h
  cases hb : b.sh.fieldOff i with
  | none => rw [hb] at h; cases h
  | some r =>
   obtain ⟨o', s'⟩ := r
   rw [hb] at h
   simp only [Option.bind_some, Option.some.injEq, Prod.mk.injEq] at h
   obtain ⟨h1, h2⟩ := h
   subst h1; subst h2
   simp only [setF] at he
   cases hb' : setF b i x with
   | none => rw [hb'] at he; cases he
   | some b' =>
    rw [hb'] at he
    simp only [Option.bind_some, Option.some.injEq] at he
    subst he
    have hl := hc.length
    simp only [CRel] at hc
    have hf := Q3i hc.2 hb
    have ih := Q6I hc.2 hb hx hs hb'
    have hxl := hx.length
    simp only [AVal.size, AVal.sh, Sh.size] at hl hxl
    rw [hs] at hxl
    refine ⟨by simp [AVal.sh, ih.1], ?_⟩
    simp only [CRel, AVal.size]
    constructor
    ·have := Q3c (cs := cs) (xs := xs) (o := a.sh.size + o') (a := 0) (n := a.sh.size) (by omega) (by omega)
     simp only [List.drop_zero] at this
     rw [this]; exact hc.1
    ·have hb2 := hf.1
     have := Q3M (cs := cs) (xs := xs) (o := a.sh.size + o') (a := a.sh.size) (n := b.sh.size) (by omega) (by omega) (by omega)
     have e1 : ((Q1B cs (a.sh.size + o') xs).drop a.sh.size).take b.sh.size = (Q1B cs (a.sh.size + o') xs).drop a.sh.size :=
      List.take_of_length_le (by rw [List.length_drop, Q2g (by omega)]; omega)
     have e2 : ((cs.drop a.sh.size).take b.sh.size) = cs.drop a.sh.size := List.take_of_length_le (by simp; omega)
     rw [e1, e2] at this
     rw [this, show a.sh.size + o' - a.sh.size = o' from by omega]
     exact ih.2
 | .arr n t ys, cs, i, o, s, x, xs, a', hc, h, hx, hs, he => by
  simp only [AVal.sh, Sh.fieldOff] at h
  by_cases hi : i < n
  ·rw [if_pos hi] at h
   simp only [Option.some.injEq, Prod.mk.injEq] at h
   obtain ⟨h1, h2⟩ := h
   subst h1; subst h2
   simp only [setF] at he
   cases hy : Q2z t x with
   | none => rw [hy] at he; cases he
   | some y =>
    rw [hy] at he
    simp only [Option.bind_some, Option.some.injEq] at he
    subst he
    have hd := (Q33 (m := m) (μ := μ) hy).2 hx
    have hxl := hd.length
    simp only [CRel, DRel] at hc ⊢
    have hin : (i + 1) * t.size ≤ n * t.size := Nat.mul_le_mul_right _ hi
    rw [Nat.add_mul] at hin
    have hlen : i * t.size + xs.length ≤ cs.length := by omega
    refine ⟨rfl, by simp [hc.1], by rw [Q2g hlen]; exact hc.2.1, fun j hj => ?_⟩
    by_cases hji : j = i
    ·subst hji
     have := Q3M (cs := cs) (xs := xs) (o := j * t.size) (a := j * t.size) (n := t.size) (Nat.le_refl _) (by omega) (by omega)
     rw [this, Nat.sub_self, Q4z _ _ (by simp; omega)]
     rw [List.getD_eq_getElem?_getD, List.getElem?_set_self (by omega)]
     exact hd
    ·rw [List.getD_eq_getElem?_getD, List.getElem?_set_ne (Ne.symm hji), ← List.getD_eq_getElem?_getD]
     have hjn : (j + 1) * t.size ≤ n * t.size := Nat.mul_le_mul_right _ hj
     rw [Nat.add_mul] at hjn
     rcases Nat.lt_or_gt_of_ne hji with hlt | hgt
     ·have hm : (j + 1) * t.size ≤ i * t.size := Nat.mul_le_mul_right _ hlt
      rw [Nat.add_mul] at hm
      rw [Q3c (by omega) (by omega)]
      exact hc.2.2 j hj
     ·have hm : (i + 1) * t.size ≤ j * t.size := Nat.mul_le_mul_right _ hgt
      rw [Nat.add_mul] at hm
      rw [Q3v (by omega) (by omega)]
      exact hc.2.2 j hj
  ·rw [if_neg hi] at h; cases h
 | .vec t ys, cs, i, o, s, x, xs, a', hc, h, hx, hs, he => by
  simp only [AVal.sh, Sh.fieldOff] at h
  by_cases hi : i < ys.length
  ·rw [if_pos hi] at h
   simp only [Option.some.injEq, Prod.mk.injEq] at h
   obtain ⟨h1, h2⟩ := h
   subst h1; subst h2
   simp only [setF] at he
   cases hy : Q2z t x with
   | none => rw [hy] at he; cases he
   | some y =>
    rw [hy] at he
    simp only [Option.bind_some, Option.some.injEq] at he
    subst he
    have hd := (Q33 (m := m) (μ := μ) hy).2 hx
    have hxl := hd.length
    simp only [CRel, DRel] at hc ⊢
    have hin : (i + 1) * t.size ≤ ys.length * t.size := Nat.mul_le_mul_right _ hi
    rw [Nat.add_mul] at hin
    have hlen : i * t.size + xs.length ≤ cs.length := by omega
    refine ⟨by simp [AVal.sh], trivial, by rw [Q2g hlen, List.length_set]; exact hc.2.1, fun j hj => ?_⟩
    rw [List.length_set] at hj
    by_cases hji : j = i
    ·subst hji
     have := Q3M (cs := cs) (xs := xs) (o := j * t.size) (a := j * t.size) (n := t.size) (Nat.le_refl _) (by omega) (by omega)
     rw [this, Nat.sub_self, Q4z _ _ (by simp; omega)]
     rw [List.getD_eq_getElem?_getD, List.getElem?_set_self hi]
     exact hd
    ·rw [List.getD_eq_getElem?_getD, List.getElem?_set_ne (Ne.symm hji), ← List.getD_eq_getElem?_getD]
     have hjn : (j + 1) * t.size ≤ ys.length * t.size := Nat.mul_le_mul_right _ hj
     rw [Nat.add_mul] at hjn
     rcases Nat.lt_or_gt_of_ne hji with hlt | hgt
     ·have hm : (j + 1) * t.size ≤ i * t.size := Nat.mul_le_mul_right _ hlt
      rw [Nat.add_mul] at hm
      rw [Q3c (by omega) (by omega)]
      exact hc.2.2 j hj
     ·have hm : (i + 1) * t.size ≤ j * t.size := Nat.mul_le_mul_right _ hgt
      rw [Nat.add_mul] at hm
      rw [Q3v (by omega) (by omega)]
      exact hc.2.2 j hj
  ·rw [if_neg hi] at h; cases h
 | .unit, _, _, _, _, _, _, _, _, h, _, _, _ | .undef, _, _, _, _, _, _, _, _, h, _, _, _ | .int _ _, _, _, _, _, _, _, _, _, h, _, _, _ | .bool _, _, _, _, _, _, _, _, _, h, _, _, _
 | .str _, _, _, _, _, _, _, _, _, h, _, _, _ | .nilp, _, _, _, _, _, _, _, _, h, _, _, _ | .ptr _ _, _, _, _, _, _, _, _, _, h, _, _, _ | .nils, _, _, _, _, _, _, _, _, h, _, _, _
 | .sl _ _ _ _, _, _, _, _, _, _, _, _, h, _, _, _ | .ros _ _, _, _, _, _, _, _, _, _, h, _, _, _ | .rop _ _, _, _, _, _, _, _, _, _, h, _, _, _ | .parr _ _ _ _, _, _, _, _, _, _, _, _, h, _, _, _ | .sfp _ _ _, _, _, _, _, _, _, _, _, h, _, _, _ | .vbs _, _, _, _, _, _, _, _, _, h, _, _, _ | .vsl _, _, _, _, _, _, _, _, _, h, _, _, _ | .fn _ _, _, _, _, _, _, _, _, _, h, _, _, _
 | .tup _, _, _, _, _, _, _, _, _, h, _, _, _ => by
  simp [AVal.sh, Sh.fieldOff] at h
theorem Q4L {m : Mem} {μ : LMap} : ∀ {p : List Nat} {a : AVal} {cs : List Value} {o : Nat} {s : Sh} {x : AVal} {xs : List Value} {a' : AVal}, CRel m μ a cs → a.sh.offP p = some (o, s) →
  CRel m μ x xs → x.sh = s → setP a p x = some a' → a'.sh = a.sh ∧ CRel m μ a' (Q1B cs o xs)
 | [], a, cs, o, s, x, xs, a', hc, h, hx, hs, he => by
  simp only [Sh.offP] at h
  cases h
  simp only [setP, Option.some.injEq] at he
  subst he
  have h1 := hc.length
  have h2 := hx.length
  simp only [AVal.size] at h1 h2
  rw [Q4z _ _ (by rw [h1, h2, hs])]
  exact ⟨hs, hx⟩
 | i :: p, a, cs, o, s, x, xs, a', hc, h, hx, hs, he => by
  simp only [Sh.offP] at h
  cases hf : a.sh.fieldOff i with
  | none => rw [hf] at h; cases h
  | some r =>
   obtain ⟨o1, s1⟩ := r
   rw [hf] at h
   simp only [Option.bind_some] at h
   cases hp : s1.offP p with
   | none => rw [hp] at h; cases h
   | some q =>
    obtain ⟨o2, s2⟩ := q
    rw [hp] at h
    simp only [Option.bind_some, Option.some.injEq, Prod.mk.injEq] at h
    obtain ⟨h1, h2⟩ := h
    subst h1; subst h2
    obtain ⟨hle, c, hcx, hsc, hr⟩ := Q3i hc hf
    subst hsc
    simp only [setP, hcx, Option.bind_some] at he
    cases hc' : setP c p x with
    | none => rw [hc'] at he; cases he
    | some c' =>
     rw [hc'] at he
     simp only [Option.bind_some] at he
     have hg := Q2q hr hp
     obtain ⟨hsh, hrel⟩ := Q4L hr hp hx hs hc'
     have := Q6I hc hf hrel hsh he
     refine ⟨this.1, ?_⟩
     have hcl := hc.length
     have hxl := hx.length
     simp only [AVal.size] at hcl hxl
     rw [hs] at hxl
     have e : Q1B cs o1 (Q1B ((cs.drop o1).take c.sh.size) o2 xs) = Q1B cs (o1 + o2) xs := by
      rw [← show ((Q1B cs (o1 + o2) xs).drop o1).take c.sh.size = Q1B ((cs.drop o1).take c.sh.size) o2 xs from by
       rw [Q3M (by omega) (by omega) (by omega), show o1 + o2 - o1 = o2 from by omega]]
      have hl : (((Q1B cs (o1 + o2) xs).drop o1).take c.sh.size).length = c.sh.size := by
       rw [List.length_take, List.length_drop, Q2g (by omega)]; omega
      rw [Q1B, hl]
      rw [show cs.take o1 = (Q1B cs (o1 + o2) xs).take o1 from by
       have := Q3c (cs := cs) (xs := xs) (o := o1 + o2) (a := 0) (n := o1) (by omega) (by omega)
       simpa using this.symm]
      rw [show cs.drop (o1 + c.sh.size) = (Q1B cs (o1 + o2) xs).drop (o1 + c.sh.size) from (Q3v (by omega) (by omega)).symm]
      rw [List.append_assoc, show List.drop (o1 + c.sh.size) (Q1B cs (o1 + o2) xs) = ((Q1B cs (o1 + o2) xs).drop o1).drop c.sh.size from by rw [List.drop_drop],
       List.take_append_drop, List.take_append_drop]
     rw [e] at this
     exact this.2
end Go.Am
namespace Go.Am
open Go
abbrev Heap := List (Option AVal)
structure Blk (m : Mem) (μ : LMap) (w : World) (i : Nat) (a : AVal) (l : Loc) : Prop where
 loc : μ i = some l
 sh : l.sh = a.sh
 cells : (l.tot = 0 ∧ l.off = 0 ∧ a.sh.size = 0 ∧ CRel m μ a []) ∨
  (0 < l.tot ∧ m l.b = none ∧ ∃ cs E fz, w.heap[l.b]? = some (.cells cs E fz) ∧ cs.size = l.tot ∧ (∀ j, j < l.tot → ¬ (fz.1 ≤ j ∧ j < fz.2)) ∧
  l.off + a.sh.size ≤ l.tot ∧ CRel m μ a ((cs.toList.drop l.off).take a.sh.size))
structure RH (m : Mem) (μ : LMap) (H : Heap) (w : World) : Prop where
 mem : ∀ b cs, m b = some cs → ∃ E fz, w.heap[b]? = some (.cells cs E fz)
 blk : ∀ i a, H[i]? = some (some a) → ∃ l, Blk m μ w i a l
 inj : ∀ i j a b li lj, H[i]? = some (some a) → H[j]? = some (some b) → μ i = some li → μ j = some lj → 0 < li.tot → 0 < lj.tot → li.b = lj.b → i = j
 dom : ∀ i, H.length ≤ i → μ i = none
 typ : ∀ i a l, H[i]? = some (some a) → μ i = some l → 0 < l.tot → ∃ cs fz, w.heap[l.b]? = some (.cells cs l.E fz)
 vb : ∀ i a l, H[i]? = some (some a) → a.isVb = true → μ i = some l → 0 < l.tot → l.E = 5
def Q2P (μ : LMap) (H : Heap) (b : Nat) : Prop := ∃ i a l, H[i]? = some (some a) ∧ μ i = some l ∧ 0 < l.tot ∧ l.b = b
structure Post (m : Mem) (μ : LMap) (H : Heap) (w : World) (m' : Mem) (μ' : LMap) (H' : Heap) (w' : World) : Prop where
 rh : RH m' μ' H' w'
 ml : m.le m'
 μl : μ.le μ'
 os : w'.os = w.os
 tape : w'.tape = w.tape
 output : w'.output = w.output
 size : w.heap.size ≤ w'.heap.size
 keep : ∀ b, b < w.heap.size → ¬ Q2P μ H b → w'.heap[b]? = w.heap[b]?
 grow : ∀ b, Q2P μ' H' b → b < w.heap.size → Q2P μ H b
 mgrow : ∀ b c, m' b = some c → m b = some c ∨ Q2P μ H b ∨ w.heap.size ≤ b
 hol : H.length ≤ H'.length ∧ ∀ i, i < H.length → μ i = none → μ' i = none
theorem Post.refl {m : Mem} {μ : LMap} {H : Heap} {w : World} (h : RH m μ H w) : Post m μ H w m μ H w :=
 ⟨h, Mem.le_refl _, LMap.le_refl _, rfl, rfl, rfl, Nat.le_refl _, fun _ _ _ => rfl, fun _ h _ => h, fun _ _ h => .inl h, ⟨by simp, fun _ _ h => h⟩⟩
theorem Post.trans {m m1 m2 : Mem} {μ μ1 μ2 : LMap} {H H1 H2 : Heap} {w w1 w2 : World} (h : Post m μ H w m1 μ1 H1 w1) (k : Post m1 μ1 H1 w1 m2 μ2 H2 w2) : Post m μ H w m2 μ2 H2 w2 where
 rh := k.rh
 ml := Mem.le_trans h.ml k.ml
 μl := LMap.le_trans h.μl k.μl
 os := k.os.trans h.os
 tape := k.tape.trans h.tape
 output := k.output.trans h.output
 size := Nat.le_trans h.size k.size
 keep := fun b hb ho => (k.keep b (Nat.lt_of_lt_of_le hb h.size) (fun h2 => ho (h.grow b h2 hb))).trans (h.keep b hb ho)
 grow := fun b h2 hb => h.grow b (k.grow b h2 (Nat.lt_of_lt_of_le hb h.size)) hb
 mgrow := fun b c hc => by
  rcases k.mgrow b c hc with h1 | h1 | h1
  ·exact h.mgrow b c h1
  ·by_cases hb : b < w.heap.size
   ·exact .inr (.inl (h.grow b h1 hb))
   ·exact .inr (.inr (by omega))
  ·exact .inr (.inr (Nat.le_trans h.size h1))
 hol := ⟨Nat.le_trans h.hol.1 k.hol.1, fun i hi hn => k.hol.2 i (Nat.lt_of_lt_of_le hi h.hol.1) (h.hol.2 i hi hn)⟩
def Q3D : Value → Bool
 | .agg _ => false
 | .tuple _ => false
 | _ => true
theorem DRel.flat {m : Mem} : ∀ {t : Ty} {x : t.den} {cs : List Value}, DRel m t x cs → ∀ v ∈ cs, Q3D v = true
 | .int _, _, _, h => by simp only [DRel] at h; subst h; simp [Q3D]
 | .bool, _, _, h => by simp only [DRel] at h; subst h; simp [Q3D]
 | .str, _, _, h => by simp only [DRel] at h; subst h; simp [Q3D]
 | .unit, _, _, h => by simp only [DRel] at h; subst h; simp
 | .pair a b, x, cs, h => by
  simp only [DRel] at h
  intro v hv
  rw [← List.take_append_drop a.size cs, List.mem_append] at hv
  rcases hv with hv | hv
  ·exact DRel.flat h.1 v hv
  ·exact DRel.flat h.2 v hv
 | .arr n t, xs, cs, h => by
  simp only [DRel] at h
  intro v hv
  obtain ⟨i, hi, rfl⟩ := List.mem_iff_getElem.1 hv
  rw [h.2.1] at hi
  have hp : 0 < t.size := by
   rcases Nat.eq_zero_or_pos t.size with h0 | h0
   ·rw [h0] at hi; omega
   ·exact h0
  have hq : i / t.size < n := Nat.div_lt_of_lt_mul (by rw [Nat.mul_comm]; exact hi)
  refine DRel.flat (h.2.2 (i / t.size) hq) _ ?_
  have hm := Nat.mod_lt i hp
  have hd : i / t.size * t.size + i % t.size = i := by rw [Nat.mul_comm]; exact Nat.div_add_mod i t.size
  refine List.mem_iff_getElem?.2 ⟨i % t.size, ?_⟩
  rw [List.getElem?_take, if_pos hm, List.getElem?_drop, hd]
  exact List.getElem?_eq_getElem _
 | .sl t, _, _, h => by simp only [DRel] at h; obtain ⟨a, cap, h, _⟩ := h; subst h; simp [Q3D]
theorem CRel.flat {m : Mem} {μ : LMap} : ∀ {a : AVal} {cs : List Value}, CRel m μ a cs → ∀ v ∈ cs, Q3D v = true
 | .undef, _, h => h.elim
 | .int _ _, _, h | .bool _, _, h | .str _, _, h | .nilp, _, h | .nils, _, h => by simp only [CRel] at h; subst h; simp [Q3D]
 | .ptr _ _, _, h => by simp only [CRel] at h; obtain ⟨l, o, s, _, _, h⟩ := h; subst h; simp [Q3D]
 | .sl _ _ _ _, _, h => by simp only [CRel] at h; obtain ⟨l, o, n, t, a, cap, _, _, _, _, h, _⟩ := h; subst h; simp [Q3D]
 | .ros t xs, _, h => DRel.flat (t := .sl t) h
 | .rop _ _, _, h => by simp only [CRel] at h; obtain ⟨ad, c, h, _⟩ := h; subst h; simp [Q3D]
 | .arr n t xs, _, h => DRel.flat (t := .arr n t) h
 | .vec t xs, _, h => DRel.flat (t := .arr xs.length t) h
 | .vsl _, _, h => by simp only [CRel] at h; obtain ⟨l, n, t, a, cap, _, _, _, h, _⟩ := h; subst h; simp [Q3D]
 | .unit, _, h => by simp only [CRel] at h; subst h; simp
 | .pair a b, cs, h => by
  simp only [CRel] at h
  intro v hv
  rw [← List.take_append_drop a.size cs, List.mem_append] at hv
  rcases hv with hv | hv
  ·exact CRel.flat h.1 v hv
  ·exact CRel.flat h.2 v hv
 | .parr _ _ _ _, _, h => by simp only [CRel] at h; obtain ⟨l, o, N, t, _, _, _, h⟩ := h; subst h; simp [Q3D]
 | .vbs _, _, h => by simp only [CRel] at h; obtain ⟨l, n, a, cap, _, _, _, h, _⟩ := h; subst h; simp [Q3D]
 | .sfp _ _ _, _, h => by
  simp only [CRel] at h
  obtain ⟨l, o, s, _, _, _, _, _, _, h | h⟩ := h <;> subst h <;> simp [Q3D]
 | .fn _ _, _, h => by simp only [CRel] at h; obtain ⟨cap, h, _⟩ := h; subst h; simp [Q3D]
 | .tup _, _, h => h.elim
theorem Q3Z (b o j : Nat) : (⟨b, o, none⟩ : Addr).add j = ⟨b, o + j, none⟩ := by
 unfold Addr.add; split
 ·subst_vars; rfl
 ·rfl
theorem Q5V {w : World} {b o : Nat} {cs : Array Value} {E : TypeId} {fz : Nat × Nat} (h : w.heap[b]? = some (.cells cs E fz)) : w.cell? ⟨b, o, none⟩ = cs[o]? := by
 simp [World.cell?, h]
theorem run_bind {α β : Type} (P : Program) (s : Sem α) (f : α → Sem β) (w : World) :
  (s >>= f).run P w = match s.run P w with | .ok a w' => (f a).run P w' | .halt h w' => .halt h w' := by
 show (Sem.bind s f).run P w = _
 induction s generalizing w with
 | pure a => rfl
 | load m a k ih =>
  simp only [Sem.bind, Sem.run]
  split
  ·exact ih _ _
  ·split
   ·exact ih _ _
   ·rfl
 | store m a v k ih =>
  cases v with
  | agg cs => simp only [Sem.bind, Sem.run]
  | tuple cs => simp only [Sem.bind, Sem.run]
  | _ =>
   simp only [Sem.bind, Sem.run]
   split
   ·split
    ·rfl
    ·exact ih _
   ·split
    ·exact ih _
    ·rfl
 | new o k ih => simp only [Sem.bind, Sem.run]; exact ih _ _
 | shape r k ih => simp only [Sem.bind, Sem.run]; exact ih _ _
 | freeze a n k ih => simp only [Sem.bind, Sem.run]; exact ih _
 | frozen a k ih => simp only [Sem.bind, Sem.run]; exact ih _ _
 | getObj r k ih =>
  simp only [Sem.bind, Sem.run]
  split
  ·rfl
  ·exact ih _ _
  ·rfl
 | setObj r o k ih =>
  simp only [Sem.bind, Sem.run]
  split
  ·rfl
  ·exact ih _
  ·rfl
 | choose q k ih =>
  simp only [Sem.bind, Sem.run]
  split
  ·exact ih _ _
  ·exact ih _ _
 | sys c k ih => simp only [Sem.bind, Sem.run]; exact ih _ _
 | program k ih => simp only [Sem.bind, Sem.run]; exact ih _ _
 | mark m k ih => simp only [Sem.bind, Sem.run]; exact ih _
 | halt h => rfl
theorem Q1e {α : Type} (P : Program) (a : α) (w : World) : (pure a : Sem α).run P w = .ok a w := rfl
theorem Q7S {P : Program} {w : World} {a : Addr} {v : Value} (h : w.cell? a = some v) : (load a).run P w = .ok v w := by
 simp only [load, Sem.run, h]
theorem Q7d {P : Program} {w : World} {b : Nat} {cs : Array Value} {E : TypeId} {fz : Nat × Nat} (h : w.heap[b]? = some (.cells cs E fz)) (o : Nat) :
  ∀ (n i : Nat) (acc : Array Value), o + i + n ≤ cs.size →
   (loadCellsFrom ⟨b, o, none⟩ i n acc).run P w = .ok (acc ++ ((cs.toList.drop (o + i)).take n).toArray) w := by
 intro n
 induction n with
 | zero => intro i acc _; simp [loadCellsFrom, Q1e]
 | succ n ih =>
  intro i acc hle
  have hlt : o + i < cs.size := by omega
  have hc : w.cell? ⟨b, o + i, none⟩ = some cs[o + i] := by rw [Q5V h]; exact Array.getElem?_eq_getElem hlt
  simp only [loadCellsFrom, run_bind, Q3Z, Q7S hc]
  rw [ih (i + 1) _ (by omega)]
  congr 1
  apply Array.ext'
  simp only [Array.toList_append, Array.toList_push, List.append_assoc]
  congr 1
  rw [show cs.toList.drop (o + i) = cs[o + i] :: cs.toList.drop (o + (i + 1)) from by
   rw [List.drop_eq_getElem_cons (by simpa using hlt)]; simp [Nat.add_assoc]]
  simp
theorem Q4F {P : Program} {w : World} {b o n : Nat} {cs : Array Value} {E : TypeId} {fz : Nat × Nat} (h : w.heap[b]? = some (.cells cs E fz)) (hle : o + n ≤ cs.size) :
  (loadCells ⟨b, o, none⟩ n).run P w = .ok ((cs.toList.drop o).take n).toArray w := by
 have := Q7d (P := P) h o n 0 #[] (by omega)
 simpa [loadCells] using this
structure Puts (w : World) (b : Nat) (cs' : Array Value) (E : TypeId) (fz : Nat × Nat) (w' : World) : Prop where
 os : w'.os = w.os
 tape : w'.tape = w.tape
 output : w'.output = w.output
 size : w'.heap.size = w.heap.size
 blk : w'.heap[b]? = some (.cells cs' E fz)
 keep : ∀ k, k ≠ b → w'.heap[k]? = w.heap[k]?
theorem Q7g {P : Program} {w : World} {b o : Nat} {cs : Array Value} {E : TypeId} {fz : Nat × Nat} {v : Value} (h : w.heap[b]? = some (.cells cs E fz)) (ho : o < cs.size)
  (hf : ¬ (fz.1 ≤ o ∧ o < fz.2)) (hv : Q3D v = true) : ∃ w', (store ⟨b, o, none⟩ v).run P w = .ok () w' ∧ Puts w b (cs.setIfInBounds o v) E fz w' := by
 have hc : w.cell? ⟨b, o, none⟩ = some cs[o] := by rw [Q5V h]; exact Array.getElem?_eq_getElem ho
 have hfz : w.frozen? ⟨b, o, none⟩ = false := by
  simp only [World.frozen?, h]
  simp only [Bool.and_eq_false_iff, decide_eq_false_iff_not]
  by_cases h1 : fz.1 ≤ o
  ·exact .inr fun h2 => hf ⟨h1, h2⟩
  ·exact .inl h1
 refine ⟨w.setCell ⟨b, o, none⟩ v, ?_, rfl, rfl, rfl, by simp [World.setCell], ?_, ?_⟩
 ·cases v <;> simp only [Q3D] at hv <;> simp_all [store, Sem.run]
 ·simp [World.setCell, Array.getElem?_modify, h]
 ·intro k hk
  simp only [World.setCell, Array.getElem?_modify]
  rw [if_neg (Ne.symm hk)]
theorem Puts.trans {w w1 w2 : World} {b : Nat} {c1 c2 : Array Value} {E E2 : TypeId} {fz fz2 : Nat × Nat} (h : Puts w b c1 E fz w1) (k : Puts w1 b c2 E2 fz2 w2) : Puts w b c2 E2 fz2 w2 :=
 ⟨k.os.trans h.os, k.tape.trans h.tape, k.output.trans h.output, k.size.trans h.size, k.blk, fun i hi => (k.keep i hi).trans (h.keep i hi)⟩
theorem Q8R (cs : List Value) (p : Nat) (v : Value) (vs : List Value) (h : p < cs.length) : Q1B (cs.set p v) (p + 1) vs = Q1B cs p (v :: vs) := by
 unfold Q1B
 rw [List.take_succ_eq_append_getElem (by simpa using h), List.getElem_set_self, List.take_set_of_le (Nat.le_refl _), List.drop_set_of_lt (by omega)]
 simp [Nat.add_assoc, Nat.add_comm 1]
theorem Q4h {P : Program} {b : Nat} {E : TypeId} {fz : Nat × Nat} (o : Nat) : ∀ (vs : List Value) (i : Nat) (w : World) (cs : Array Value), w.heap[b]? = some (.cells cs E fz) →
  o + i + vs.length ≤ cs.size → (∀ j, j < cs.size → ¬ (fz.1 ≤ j ∧ j < fz.2)) → (∀ v ∈ vs, Q3D v = true) →
  ∃ w' cs', (storeCells ⟨b, o, none⟩ vs i).run P w = .ok () w' ∧ Puts w b cs' E fz w' ∧ cs'.toList = Q1B cs.toList (o + i) vs := by
 intro vs
 induction vs with
 | nil =>
  intro i w cs h _ _ _
  refine ⟨w, cs, rfl, ⟨rfl, rfl, rfl, rfl, h, fun _ _ => rfl⟩, ?_⟩
  simp [Q1B]
 | cons v vs ih =>
  intro i w cs h hle hf hv
  simp only [List.length_cons] at hle
  obtain ⟨w1, hr, hp⟩ := Q7g (P := P) (o := o + i) (v := v) h (by omega) (hf _ (by omega)) (hv v (by simp))
  obtain ⟨w2, cs2, hr2, hp2, hc2⟩ := ih (i + 1) w1 _ hp.blk (by simp; omega) (by simpa using hf) (fun x hx => hv x (by simp [hx]))
  refine ⟨w2, cs2, ?_, hp.trans hp2, ?_⟩
  ·simp only [storeCells, run_bind, Q3Z, hr]
   exact hr2
  ·rw [hc2, Array.toList_setIfInBounds, show o + (i + 1) = o + i + 1 from rfl, Q8R _ _ _ _ (by simp; omega)]
theorem Q3d {w : World} {b : Nat} {o : Obj} (h : w.heap[b]? = some o) : b < w.heap.size := (Array.getElem?_eq_some_iff.1 h).1
theorem RH.mem_lt {m : Mem} {μ : LMap} {H : Heap} {w : World} (h : RH m μ H w) {b : Nat} {cs : Array Value} (hb : m b = some cs) : b < w.heap.size := by
 obtain ⟨E, fz, he⟩ := h.mem b cs hb; exact Q3d he
theorem RH.put {m : Mem} {μ : LMap} {H : Heap} {w w' : World} {i : Nat} {a a' : AVal} {l : Loc} {cs cs' : Array Value} {E : TypeId} {fz : Nat × Nat} (h : RH m μ H w) (hi : H[i]? = some (some a))
  (hl : μ i = some l) (h0 : 0 < l.tot) (hc : w.heap[l.b]? = some (.cells cs E fz)) (hp : Puts w l.b cs' E fz w') (hs : a'.sh = a.sh) (hn : cs'.size = cs.size)
  (hr : CRel m μ a' ((cs'.toList.drop l.off).take a'.sh.size)) (hv : a'.isVb = true → a.isVb = true) : Post m μ H w m μ (H.set i (some a')) w' := by
 have hil : i < H.length := (List.getElem?_eq_some_iff.1 hi).1
 obtain ⟨l', hb⟩ := h.blk i a hi
 have hll : l' = l := Option.some.inj (hb.loc.symm.trans hl)
 subst hll
 have look : ∀ {j : Nat} {x : AVal}, (H.set i (some a'))[j]? = some (some x) → (j = i ∧ x = a') ∨ (j ≠ i ∧ H[j]? = some (some x)) := by
  intro j x hj
  by_cases hji : j = i
  ·subst hji; rw [List.getElem?_set_self hil] at hj; exact .inl ⟨rfl, (Option.some.inj (Option.some.inj hj)).symm⟩
  ·rw [List.getElem?_set_ne (Ne.symm hji)] at hj; exact .inr ⟨hji, hj⟩
 have old : ∀ {j : Nat} {x : AVal}, (H.set i (some a'))[j]? = some (some x) → ∃ y, H[j]? = some (some y) := by
  intro j x hj
  rcases look hj with ⟨h1, _⟩ | ⟨_, h1⟩
  ·subst h1; exact ⟨a, hi⟩
  ·exact ⟨x, h1⟩
 obtain ⟨gm, cs0, E0, fz0, g1, g2, g3, g4, g5⟩ : m l'.b = none ∧ ∃ cs E fz, w.heap[l'.b]? = some (.cells cs E fz) ∧ cs.size = l'.tot ∧ (∀ j, j < l'.tot → ¬ (fz.1 ≤ j ∧ j < fz.2)) ∧
  l'.off + a.sh.size ≤ l'.tot ∧ CRel m μ a ((cs.toList.drop l'.off).take a.sh.size) := by
  rcases hb.cells with g | g
  ·omega
  ·exact g.2
 rw [hc] at g1
 cases g1
 refine ⟨⟨?_, ?_, ?_, ?_, ?_, ?_⟩, Mem.le_refl _, LMap.le_refl _, hp.os, hp.tape, hp.output, Nat.le_of_eq hp.size.symm, ?_, ?_, fun _ _ h => .inl h, ⟨by simp, fun _ _ h => h⟩⟩
 ·intro b c hb'
  obtain ⟨E1, fz1, h1⟩ := h.mem b c hb'
  refine ⟨E1, fz1, ?_⟩
  rw [hp.keep b (fun e => by subst e; rw [gm] at hb'; cases hb')]; exact h1
 ·intro j x hj
  rcases look hj with ⟨h1, h2⟩ | ⟨h1, h2⟩
  ·subst h1; subst h2
   exact ⟨l', hl, by rw [hb.sh, hs], .inr ⟨h0, gm, cs', E, fz, hp.blk, by rw [hn]; exact g2, g3, by rw [hs]; exact g4, hr⟩⟩
  ·obtain ⟨lj, hbj⟩ := h.blk j x h2
   refine ⟨lj, hbj.loc, hbj.sh, ?_⟩
   rcases hbj.cells with g | ⟨p0, g⟩
   ·exact .inl g
   ·rw [hp.keep lj.b (fun e => h1 (h.inj j i x a lj l' h2 hi hbj.loc hl p0 h0 e))]
    exact .inr ⟨p0, g⟩
 ·intro j k x y lj lk hj hk hlj hlk p1 p2 he
  obtain ⟨x', hx'⟩ := old hj
  obtain ⟨y', hy'⟩ := old hk
  exact h.inj j k x' y' lj lk hx' hy' hlj hlk p1 p2 he
 ·intro j hj; rw [List.length_set] at hj; exact h.dom j hj
 ·intro j x lj hj hlj hz
  rcases look hj with ⟨h1, h2⟩ | ⟨h1, h2⟩
  ·subst h1; subst h2
   have e : lj = l' := Option.some.inj (hlj.symm.trans hl)
   subst e
   obtain ⟨cs1, fz1, k1⟩ := h.typ j a lj hi hl h0
   rw [hc] at k1
   cases k1
   exact ⟨cs', fz, hp.blk⟩
  ·rw [hp.keep lj.b (fun e => h1 (h.inj j i x a lj l' h2 hi hlj hl hz h0 e))]
   exact h.typ j x lj h2 hlj hz
 ·intro j x lj hj hx hlj hz
  rcases look hj with ⟨h1, h2⟩ | ⟨h1, h2⟩
  ·subst h1; subst h2
   exact h.vb j a lj hi (hv hx) hlj hz
  ·exact h.vb j x lj h2 hx hlj hz
 ·intro b _ ho
  exact hp.keep b (fun e => ho ⟨i, a, l', hi, hl, h0, e.symm⟩)
 ·rintro b ⟨j, x, lj, hj, hlj, p0, he⟩ _
  obtain ⟨x', hx'⟩ := old hj
  exact ⟨j, x', lj, hx', hlj, p0, he⟩
structure Qbs (w : World) (cs : Array Value) (E : TypeId) (fz : Nat × Nat) (w' : World) : Prop where
 os : w'.os = w.os
 tape : w'.tape = w.tape
 output : w'.output = w.output
 size : w'.heap.size = w.heap.size + 1
 new : w'.heap[w.heap.size]? = some (.cells cs E fz)
 old : ∀ j, j < w.heap.size → w'.heap[j]? = w.heap[j]?
theorem Qbs.push (w : World) (cs : Array Value) (E : TypeId) (fz : Nat × Nat) (dr : Nat) : Qbs w cs E fz { w with heap := w.heap.push (.cells cs E fz), drawn := dr } :=
 ⟨rfl, rfl, rfl, by simp, by show (w.heap.push _)[w.heap.size]? = _; rw [Array.getElem?_push, if_pos rfl], fun j hj => by show (w.heap.push _)[j]? = _; rw [Array.getElem?_push, if_neg (by omega)]⟩
theorem RH.grow {m : Mem} {μ : LMap} {H : Heap} {w w' : World} {a : AVal} {cs : Array Value} {E : TypeId} {fz : Nat × Nat} (h : RH m μ H w) (hgr : Qbs w cs E fz w') (hn : a.sh.size ≤ cs.size)
  (hf : ∀ j, j < cs.size → ¬ (fz.1 ≤ j ∧ j < fz.2)) (hr : CRel m μ a (cs.toList.take a.sh.size)) (hv : a.isVb = true → E = 5) :
  Post m μ H w m (fun i => if i = H.length then some ⟨w.heap.size, 0, a.sh, cs.size, E⟩ else μ i) (H ++ [some a]) w' := by
 have hdom : μ H.length = none := h.dom _ (Nat.le_refl _)
 have hμ : μ.le (fun i => if i = H.length then some ⟨w.heap.size, 0, a.sh, cs.size, E⟩ else μ i) := by
  intro i l hl
  show (if i = H.length then _ else μ i) = some l
  rw [if_neg (fun e => by subst e; rw [hdom] at hl; cases hl)]; exact hl
 have hpush := hgr.old
 have look : ∀ {j : Nat} {x : AVal}, (H ++ [some a])[j]? = some (some x) → (j = H.length ∧ x = a) ∨ (j < H.length ∧ H[j]? = some (some x)) := by
  intro j x hj
  rcases Nat.lt_or_ge j H.length with h1 | h1
  ·rw [List.getElem?_append_left h1] at hj; exact .inr ⟨h1, hj⟩
  ·rw [List.getElem?_append_right h1] at hj
   have : j - H.length = 0 := by
    rcases Nat.eq_zero_or_pos (j - H.length) with h0 | h0
    ·exact h0
    ·rw [List.getElem?_eq_none (by simp; omega)] at hj; cases hj
   rw [this] at hj
   exact .inl ⟨by omega, (Option.some.inj (Option.some.inj hj)).symm⟩
 refine ⟨⟨?_, ?_, ?_, ?_, ?_, ?_⟩, Mem.le_refl _, hμ, hgr.os, hgr.tape, hgr.output, by rw [hgr.size]; omega, fun b hb _ => hpush b hb, ?_, fun _ _ h => .inl h, ⟨by simp, fun i hi h => by show (if i = H.length then _ else μ i) = none; rw [if_neg (by omega)]; exact h⟩⟩
 ·intro b c hb
  obtain ⟨E1, fz1, h1⟩ := h.mem b c hb
  exact ⟨E1, fz1, by rw [hpush b (Q3d h1)]; exact h1⟩
 ·intro j x hj
  rcases look hj with ⟨h1, h2⟩ | ⟨h1, h2⟩
  ·subst h1; subst h2
   refine ⟨⟨w.heap.size, 0, x.sh, cs.size, E⟩, by simp, rfl, ?_⟩
   rcases Nat.eq_zero_or_pos cs.size with hz | hz
   ·refine .inl ⟨hz, rfl, by omega, ?_⟩
    have e : cs.toList.take x.sh.size = [] := by rw [show x.sh.size = 0 from by omega]; rfl
    rw [e] at hr; exact hr.mono (Mem.le_refl m) hμ
   refine .inr ⟨hz, ?_, cs, E, fz, ?_, rfl, hf, by simpa using hn, ?_⟩
   ·cases hm : m w.heap.size with
    | none => rfl
    | some c => exact absurd (h.mem_lt hm) (Nat.lt_irrefl _)
   ·exact hgr.new
   ·simpa using hr.mono (Mem.le_refl m) hμ
  ·obtain ⟨l, hb⟩ := h.blk j x h2
   refine ⟨l, hμ _ _ hb.loc, hb.sh, ?_⟩
   rcases hb.cells with ⟨p1, p2, p3, p4⟩ | ⟨p0, gm, c, E1, fz1, g1, g2⟩
   ·exact .inl ⟨p1, p2, p3, p4.mono (Mem.le_refl m) hμ⟩
   refine .inr ⟨p0, gm, c, E1, fz1, ?_, g2.1, g2.2.1, g2.2.2.1, g2.2.2.2.mono (Mem.le_refl m) hμ⟩
   rw [hpush l.b (Q3d g1)]; exact g1
 ·intro j k x y lj lk hj hk hlj hlk q1 q2 he
  rcases look hj with ⟨h1, h2⟩ | ⟨h1, h2⟩
  ·rcases look hk with ⟨h3, h4⟩ | ⟨h3, h4⟩
   ·omega
   ·subst h1
    simp only [if_true, Option.some.injEq] at hlj
    have hlk : μ k = some lk := by simpa [Nat.ne_of_lt h3] using hlk
    subst hlj
    obtain ⟨l, hb⟩ := h.blk k y h4
    rw [hb.loc] at hlk; cases hlk
    rcases hb.cells with g | ⟨_, _, c, E1, fz1, g1, _⟩
    ·omega
    have := Q3d g1
    simp only at he; omega
  ·rcases look hk with ⟨h3, h4⟩ | ⟨h3, h4⟩
   ·subst h3
    simp only [if_true, Option.some.injEq] at hlk
    have hlj : μ j = some lj := by simpa [Nat.ne_of_lt h1] using hlj
    subst hlk
    obtain ⟨l, hb⟩ := h.blk j x h2
    rw [hb.loc] at hlj; cases hlj
    rcases hb.cells with g | ⟨_, _, c, E1, fz1, g1, _⟩
    ·omega
    have := Q3d g1
    simp only at he; omega
   ·have hlj : μ j = some lj := by simpa [Nat.ne_of_lt h1] using hlj
    have hlk : μ k = some lk := by simpa [Nat.ne_of_lt h3] using hlk
    exact h.inj j k x y lj lk h2 h4 hlj hlk q1 q2 he
 ·intro j hj
  simp only [List.length_append, List.length_cons, List.length_nil] at hj
  show (if j = H.length then _ else μ j) = none
  rw [if_neg (by omega)]; exact h.dom j (by omega)
 ·intro j x lj hj hlj hz
  rcases look hj with ⟨h1, h2⟩ | ⟨h1, h2⟩
  ·subst h1
   simp only [if_true, Option.some.injEq] at hlj
   subst hlj
   exact ⟨cs, fz, hgr.new⟩
  ·have hlj : μ j = some lj := by simpa [Nat.ne_of_lt h1] using hlj
   obtain ⟨cs1, fz1, k1⟩ := h.typ j x lj h2 hlj hz
   exact ⟨cs1, fz1, by rw [hpush lj.b (Q3d k1)]; exact k1⟩
 ·intro j x lj hj hx hlj hz
  rcases look hj with ⟨h1, h2⟩ | ⟨h1, h2⟩
  ·subst h1; subst h2
   simp only [if_true, Option.some.injEq] at hlj
   subst hlj
   exact hv hx
  ·have hlj : μ j = some lj := by simpa [Nat.ne_of_lt h1] using hlj
   exact h.vb j x lj h2 hx hlj hz
 ·rintro b ⟨j, x, lj, hj, hlj, q, he⟩ hb
  rcases look hj with ⟨h1, h2⟩ | ⟨h1, h2⟩
  ·subst h1
   simp only [if_true, Option.some.injEq] at hlj
   subst hlj; simp only at he; omega
  ·have hlj : μ j = some lj := by simpa [Nat.ne_of_lt h1] using hlj
   exact ⟨j, x, lj, h2, hlj, q, he⟩
theorem RH.push {m : Mem} {μ : LMap} {H : Heap} {w : World} {a : AVal} {cs : Array Value} {E : TypeId} {fz : Nat × Nat} {dr : Nat} (h : RH m μ H w) (hn : a.sh.size ≤ cs.size)
  (hf : ∀ j, j < cs.size → ¬ (fz.1 ≤ j ∧ j < fz.2)) (hr : CRel m μ a (cs.toList.take a.sh.size)) (hv : a.isVb = true → E = 5) :
  Post m μ H w m (fun i => if i = H.length then some ⟨w.heap.size, 0, a.sh, cs.size, E⟩ else μ i) (H ++ [some a]) { w with heap := w.heap.push (.cells cs E fz), drawn := dr } :=
 h.grow (Qbs.push w cs E fz dr) hn hf hr hv
theorem RH.kill {m : Mem} {μ : LMap} {H : Heap} {w : World} (h : RH m μ H w) (i : Nat) : Post m μ H w m μ (H.set i none) w := by
 have look : ∀ {j : Nat} {x : AVal}, (H.set i none)[j]? = some (some x) → H[j]? = some (some x) := by
  intro j x hj
  by_cases hji : i = j
  ·subst hji
   rw [List.getElem?_set] at hj
   simp only [if_true] at hj
   split at hj <;> cases hj
  ·rwa [List.getElem?_set_ne hji] at hj
 refine ⟨⟨h.mem, fun j x hj => h.blk j x (look hj), fun j k x y lj lk hj hk => h.inj j k x y lj lk (look hj) (look hk), fun j hj => h.dom j (by simpa using hj), fun j x lj hj => h.typ j x lj (look hj), fun j x lj hj => h.vb j x lj (look hj)⟩,
  Mem.le_refl _, LMap.le_refl _, rfl, rfl, rfl, Nat.le_refl _, fun _ _ _ => rfl, ?_, fun _ _ h => .inl h, ⟨by simp, fun _ _ h => h⟩⟩
 rintro b ⟨j, x, lj, hj, hlj, q, he⟩ _
 exact ⟨j, x, lj, look hj, hlj, q, he⟩
theorem Q3V {H : Heap} {i j : Nat} {x : AVal} (hj : (H.set i none)[j]? = some (some x)) : j ≠ i ∧ H[j]? = some (some x) := by
 by_cases hji : i = j
 ·subst hji
  rw [List.getElem?_set] at hj
  simp only [if_true] at hj
  split at hj <;> cases hj
 ·rw [List.getElem?_set_ne hji] at hj
  exact ⟨fun e => hji e.symm, hj⟩
theorem Q4e {H : Heap} {a x : AVal} {j : Nat} (hj : (H ++ [some a])[j]? = some (some x)) : (j = H.length ∧ x = a) ∨ (j < H.length ∧ H[j]? = some (some x)) := by
 rcases Nat.lt_or_ge j H.length with h1 | h1
 ·rw [List.getElem?_append_left h1] at hj; exact .inr ⟨h1, hj⟩
 ·rw [List.getElem?_append_right h1] at hj
  have : j - H.length = 0 := by
   rcases Nat.eq_zero_or_pos (j - H.length) with h0 | h0
   ·exact h0
   ·rw [List.getElem?_eq_none (by simp; omega)] at hj; cases hj
  rw [this] at hj
  exact .inl ⟨by omega, (Option.some.inj (Option.some.inj hj)).symm⟩
theorem RH.move {m : Mem} {μ : LMap} {H : Heap} {w w' : World} {i : Nat} {a a' : AVal} {l : Loc} {cs cs' : Array Value} {E : TypeId} {fz : Nat × Nat} {off' : Nat} (h : RH m μ H w) (hi : H[i]? = some (some a))
  (hl : μ i = some l) (h0 : 0 < l.tot) (hc : w.heap[l.b]? = some (.cells cs E fz)) (hp : Puts w l.b cs' E fz w') (hn : cs'.size = cs.size) (hle : off' + a'.sh.size ≤ l.tot)
  (hr : CRel m μ a' ((cs'.toList.drop off').take a'.sh.size)) (hv : a'.isVb = true → a.isVb = true) :
  Post m μ H w m (fun j => if j = H.length then some ⟨l.b, off', a'.sh, l.tot, l.E⟩ else μ j) (H.set i none ++ [some a']) w' := by
 have hdom : μ H.length = none := h.dom _ (Nat.le_refl _)
 have hμ : μ.le (fun j => if j = H.length then some ⟨l.b, off', a'.sh, l.tot, l.E⟩ else μ j) := by
  intro j l' hl'
  show (if j = H.length then _ else μ j) = some l'
  rw [if_neg (fun e => by subst e; rw [hdom] at hl'; cases hl')]; exact hl'
 obtain ⟨l', hb⟩ := h.blk i a hi
 have hll : l' = l := Option.some.inj (hb.loc.symm.trans hl)
 subst hll
 obtain ⟨gm, cs0, E0, fz0, g1, g2, g3, g4, g5⟩ : m l'.b = none ∧ ∃ cs E fz, w.heap[l'.b]? = some (.cells cs E fz) ∧ cs.size = l'.tot ∧ (∀ j, j < l'.tot → ¬ (fz.1 ≤ j ∧ j < fz.2)) ∧
  l'.off + a.sh.size ≤ l'.tot ∧ CRel m μ a ((cs.toList.drop l'.off).take a.sh.size) := by
  rcases hb.cells with g | g
  ·omega
  ·exact g.2
 rw [hc] at g1
 cases g1
 have look : ∀ {j : Nat} {x : AVal}, (H.set i none ++ [some a'])[j]? = some (some x) → (j = H.length ∧ x = a') ∨ (j < H.length ∧ j ≠ i ∧ H[j]? = some (some x)) := by
  intro j x hj
  rcases Q4e hj with ⟨h1, h2⟩ | ⟨h1, h2⟩
  ·rw [List.length_set] at h1; exact .inl ⟨h1, h2⟩
  ·rw [List.length_set] at h1
   have := Q3V h2
   exact .inr ⟨h1, this.1, this.2⟩
 refine ⟨⟨?_, ?_, ?_, ?_, ?_, ?_⟩, Mem.le_refl _, hμ, hp.os, hp.tape, hp.output, Nat.le_of_eq hp.size.symm, ?_, ?_, fun _ _ h => .inl h, ⟨by simp, fun i hi h => by show (if i = H.length then _ else μ i) = none; rw [if_neg (by omega)]; exact h⟩⟩
 ·intro b c hb'
  obtain ⟨E1, fz1, h1⟩ := h.mem b c hb'
  exact ⟨E1, fz1, by rw [hp.keep b (fun e => by subst e; rw [gm] at hb'; cases hb')]; exact h1⟩
 ·intro j x hj
  rcases look hj with ⟨h1, h2⟩ | ⟨h1, h2, h3⟩
  ·subst h1; subst h2
   exact ⟨⟨l'.b, off', x.sh, l'.tot, l'.E⟩, by simp, rfl, .inr ⟨h0, gm, cs', E, fz, hp.blk, by rw [hn]; exact g2, g3, hle, hr.mono (Mem.le_refl m) hμ⟩⟩
  ·obtain ⟨lj, hbj⟩ := h.blk j x h3
   refine ⟨lj, hμ _ _ hbj.loc, hbj.sh, ?_⟩
   rcases hbj.cells with ⟨p1, p2, p3, p4⟩ | ⟨p0, q1, c, E1, fz1, q2, q3⟩
   ·exact .inl ⟨p1, p2, p3, p4.mono (Mem.le_refl m) hμ⟩
   ·refine .inr ⟨p0, q1, c, E1, fz1, ?_, q3.1, q3.2.1, q3.2.2.1, q3.2.2.2.mono (Mem.le_refl m) hμ⟩
    rw [hp.keep lj.b (fun e => h2 (h.inj j i x a lj l' h3 hi hbj.loc hl p0 h0 e))]
    exact q2
 ·intro j k x y lj lk hj hk hlj hlk z1 z2 he
  have other : ∀ {j : Nat} {x : AVal} {lj : Loc}, j < H.length → j ≠ i → H[j]? = some (some x) → μ j = some lj → 0 < lj.tot → lj.b ≠ l'.b := by
   intro j x lj _ hji hj hlj hz e
   exact hji (h.inj j i x a lj l' hj hi hlj hl hz h0 e)
  rcases look hj with ⟨h1, h2⟩ | ⟨h1, h2, h3⟩
  ·rcases look hk with ⟨h4, h5⟩ | ⟨h4, h5, h6⟩
   ·omega
   ·subst h1
    simp only [if_true, Option.some.injEq] at hlj
    have hlk : μ k = some lk := by simpa [Nat.ne_of_lt h4] using hlk
    subst hlj
    exact absurd he.symm (other h4 h5 h6 hlk z2)
  ·rcases look hk with ⟨h4, h5⟩ | ⟨h4, h5, h6⟩
   ·subst h4
    simp only [if_true, Option.some.injEq] at hlk
    have hlj : μ j = some lj := by simpa [Nat.ne_of_lt h1] using hlj
    subst hlk
    exact absurd he (other h1 h2 h3 hlj z1)
   ·have hlj : μ j = some lj := by simpa [Nat.ne_of_lt h1] using hlj
    have hlk : μ k = some lk := by simpa [Nat.ne_of_lt h4] using hlk
    exact h.inj j k x y lj lk h3 h6 hlj hlk z1 z2 he
 ·intro j hj
  simp only [List.length_append, List.length_set, List.length_cons, List.length_nil] at hj
  show (if j = H.length then _ else μ j) = none
  rw [if_neg (by omega)]; exact h.dom j (by omega)
 ·intro j x lj hj hlj hz
  rcases look hj with ⟨h1, h2⟩ | ⟨h1, h2, h3⟩
  ·subst h1
   simp only [if_true, Option.some.injEq] at hlj
   subst hlj
   obtain ⟨cs1, fz1, k1⟩ := h.typ i a l' hi hl h0
   rw [hc] at k1
   cases k1
   exact ⟨cs', fz, hp.blk⟩
  ·have hlj : μ j = some lj := by simpa [Nat.ne_of_lt h1] using hlj
   rw [hp.keep lj.b (fun e => h2 (h.inj j i x a lj l' h3 hi hlj hl hz h0 e))]
   exact h.typ j x lj h3 hlj hz
 ·intro j x lj hj hx hlj hz
  rcases look hj with ⟨h1, h2⟩ | ⟨h1, h2, h3⟩
  ·subst h1; subst h2
   simp only [if_true, Option.some.injEq] at hlj
   subst hlj
   exact h.vb i a l' hi (hv hx) hl h0
  ·have hlj : μ j = some lj := by simpa [Nat.ne_of_lt h1] using hlj
   exact h.vb j x lj h3 hx hlj hz
 ·intro b _ ho
  exact hp.keep b (fun e => ho ⟨i, a, l', hi, hl, h0, e.symm⟩)
 ·rintro b ⟨j, x, lj, hj, hlj, q, he⟩ _
  rcases look hj with ⟨h1, h2⟩ | ⟨h1, h2, h3⟩
  ·subst h1
   simp only [if_true, Option.some.injEq] at hlj
   subst hlj
   exact ⟨i, a, l', hi, hl, h0, he⟩
  ·have hlj : μ j = some lj := by simpa [Nat.ne_of_lt h1] using hlj
   exact ⟨j, x, lj, h3, hlj, q, he⟩
theorem RH.recast {m : Mem} {μ : LMap} {H : Heap} {w : World} {i : Nat} {a a' : AVal} (h : RH m μ H w) (hi : H[i]? = some (some a)) (hs : a'.sh = a.sh) (hr : ∀ cs, CRel m μ a cs → CRel m μ a' cs) (hv : a'.isVb = true → a.isVb = true) :
  Post m μ H w m μ (H.set i (some a')) w := by
 have hil : i < H.length := (List.getElem?_eq_some_iff.1 hi).1
 have look : ∀ {j : Nat} {x : AVal}, (H.set i (some a'))[j]? = some (some x) → (j = i ∧ x = a') ∨ (j ≠ i ∧ H[j]? = some (some x)) := by
  intro j x hj
  by_cases hji : j = i
  ·subst hji; rw [List.getElem?_set_self hil] at hj; exact .inl ⟨rfl, (Option.some.inj (Option.some.inj hj)).symm⟩
  ·rw [List.getElem?_set_ne (Ne.symm hji)] at hj; exact .inr ⟨hji, hj⟩
 have old : ∀ {j : Nat} {x : AVal}, (H.set i (some a'))[j]? = some (some x) → ∃ y, H[j]? = some (some y) := by
  intro j x hj
  rcases look hj with ⟨h1, _⟩ | ⟨_, h1⟩
  ·subst h1; exact ⟨a, hi⟩
  ·exact ⟨x, h1⟩
 refine ⟨⟨h.mem, fun j x hj => ?_, fun j k x y lj lk hj hk hlj hlk p1 p2 he => ?_, fun j hj => by rw [List.length_set] at hj; exact h.dom j hj, fun j x lj hj hlj hz => ?_, fun j x lj hj hx hlj hz => ?_⟩,
  Mem.le_refl _, LMap.le_refl _, rfl, rfl, rfl, Nat.le_refl _, fun _ _ _ => rfl, ?_, fun _ _ h => .inl h, ⟨by simp, fun _ _ h => h⟩⟩
 ·rcases look hj with ⟨h1, h2⟩ | ⟨_, h1⟩
  ·subst h1; subst h2
   obtain ⟨l, hb⟩ := h.blk j a hi
   refine ⟨l, hb.loc, by rw [hb.sh, hs], ?_⟩
   rw [hs]
   rcases hb.cells with ⟨p1, p2, p3, p4⟩ | ⟨p0, gm, c, E1, fz1, g1, g2, g3, g4, g5⟩
   ·exact .inl ⟨p1, p2, p3, hr _ p4⟩
   ·exact .inr ⟨p0, gm, c, E1, fz1, g1, g2, g3, g4, hr _ g5⟩
  ·exact h.blk j x h1
 ·obtain ⟨x', hx'⟩ := old hj
  obtain ⟨y', hy'⟩ := old hk
  exact h.inj j k x' y' lj lk hx' hy' hlj hlk p1 p2 he
 ·obtain ⟨x', hx'⟩ := old hj
  exact h.typ j x' lj hx' hlj hz
 ·rcases look hj with ⟨h1, h2⟩ | ⟨_, h1⟩
  ·subst h1; subst h2
   exact h.vb j a lj hi (hv hx) hlj hz
  ·exact h.vb j x lj h1 hx hlj hz
 ·rintro b ⟨j, x, lj, hj, hlj, q, he⟩ _
  obtain ⟨x', hx'⟩ := old hj
  exact ⟨j, x', lj, hx', hlj, q, he⟩
theorem RH.phantom {m : Mem} {μ : LMap} {H : Heap} {w : World} {a : AVal} (h : RH m μ H w) (hs : a.sh.size = 0) (hr : CRel m μ a []) (b : Nat) :
  Post m μ H w m (fun j => if j = H.length then some ⟨b, 0, a.sh, 0, 0⟩ else μ j) (H ++ [some a]) w := by
 have hdom : μ H.length = none := h.dom _ (Nat.le_refl _)
 have hμ : μ.le (fun j => if j = H.length then some ⟨b, 0, a.sh, 0, 0⟩ else μ j) := by
  intro j l' hl'
  show (if j = H.length then _ else μ j) = some l'
  rw [if_neg (fun e => by subst e; rw [hdom] at hl'; cases hl')]; exact hl'
 refine ⟨⟨h.mem, ?_, ?_, ?_, ?_, ?_⟩, Mem.le_refl _, hμ, rfl, rfl, rfl, Nat.le_refl _, fun _ _ _ => rfl, ?_, fun _ _ h => .inl h, ⟨by simp, fun i hi h => by show (if i = H.length then _ else μ i) = none; rw [if_neg (by omega)]; exact h⟩⟩
 ·intro j x hj
  rcases Q4e hj with ⟨h1, h2⟩ | ⟨h1, h2⟩
  ·subst h1; subst h2
   exact ⟨⟨b, 0, x.sh, 0, 0⟩, by simp, rfl, .inl ⟨rfl, rfl, hs, hr.mono (Mem.le_refl m) hμ⟩⟩
  ·obtain ⟨lj, hbj⟩ := h.blk j x h2
   refine ⟨lj, hμ _ _ hbj.loc, hbj.sh, ?_⟩
   rcases hbj.cells with ⟨p1, p2, p3, p4⟩ | ⟨p0, q1, c, E1, fz1, q2, q3⟩
   ·exact .inl ⟨p1, p2, p3, p4.mono (Mem.le_refl m) hμ⟩
   ·exact .inr ⟨p0, q1, c, E1, fz1, q2, q3.1, q3.2.1, q3.2.2.1, q3.2.2.2.mono (Mem.le_refl m) hμ⟩
 ·intro j k x y lj lk hj hk hlj hlk z1 z2 he
  rcases Q4e hj with ⟨h1, h2⟩ | ⟨h1, h2⟩
  ·subst h1
   simp only [if_true, Option.some.injEq] at hlj
   subst hlj; simp at z1
  ·rcases Q4e hk with ⟨h4, h5⟩ | ⟨h4, h5⟩
   ·subst h4
    simp only [if_true, Option.some.injEq] at hlk
    subst hlk; simp at z2
   ·have hlj : μ j = some lj := by simpa [Nat.ne_of_lt h1] using hlj
    have hlk : μ k = some lk := by simpa [Nat.ne_of_lt h4] using hlk
    exact h.inj j k x y lj lk h2 h5 hlj hlk z1 z2 he
 ·intro j hj
  simp only [List.length_append, List.length_cons, List.length_nil] at hj
  show (if j = H.length then _ else μ j) = none
  rw [if_neg (by omega)]; exact h.dom j (by omega)
 ·intro j x lj hj hlj hz
  rcases Q4e hj with ⟨h1, h2⟩ | ⟨h1, h2⟩
  ·subst h1
   simp only [if_true, Option.some.injEq] at hlj
   subst hlj; simp at hz
  ·have hlj : μ j = some lj := by simpa [Nat.ne_of_lt h1] using hlj
   exact h.typ j x lj h2 hlj hz
 ·intro j x lj hj hx hlj hz
  rcases Q4e hj with ⟨h1, h2⟩ | ⟨h1, h2⟩
  ·subst h1
   simp only [if_true, Option.some.injEq] at hlj
   subst hlj; simp at hz
  ·have hlj : μ j = some lj := by simpa [Nat.ne_of_lt h1] using hlj
   exact h.vb j x lj h2 hx hlj hz
 ·rintro b' ⟨j, x, lj, hj, hlj, q, he⟩ _
  rcases Q4e hj with ⟨h1, h2⟩ | ⟨h1, h2⟩
  ·subst h1
   simp only [if_true, Option.some.injEq] at hlj
   subst hlj; simp at q
  ·have hlj : μ j = some lj := by simpa [Nat.ne_of_lt h1] using hlj
   exact ⟨j, x, lj, h2, hlj, q, he⟩
theorem RH.drawn {m : Mem} {μ : LMap} {H : Heap} {w : World} (h : RH m μ H w) (n : Nat) : Post m μ H w m μ H { w with drawn := n } :=
 ⟨⟨h.mem, fun i a hi => by obtain ⟨l, b⟩ := h.blk i a hi; exact ⟨l, b.loc, b.sh, b.cells⟩, h.inj, h.dom, h.typ, h.vb⟩, Mem.le_refl _, LMap.le_refl _, rfl, rfl, rfl, Nat.le_refl _, fun _ _ _ => rfl, fun _ h _ => h, fun _ _ h => .inl h, ⟨by simp, fun _ _ h => h⟩⟩
structure RS (m : Mem) (μ : LMap) (sl : List AVal) (a : Act) : Prop where
 size : a.tmps.size = sl.length
 defers : a.defers = []
 rel : ∀ (i : Nat) (x : AVal), sl[i]? = some x → ∃ v, a.tmps[i]? = some v ∧ VRel m μ x v
theorem RS.mono {m m' : Mem} {μ μ' : LMap} (hm : m.le m') (hμ : μ.le μ') {sl : List AVal} {a : Act} (h : RS m μ sl a) : RS m' μ' sl a :=
 ⟨h.size, h.defers, fun i x hx => by obtain ⟨v, h1, h2⟩ := h.rel i x hx; exact ⟨v, h1, h2.mono hm hμ⟩⟩
theorem RS.put {m : Mem} {μ : LMap} {sl : List AVal} {a : Act} (h : RS m μ sl a) {d : Nat} {x : AVal} {v : Value} (hv : VRel m μ x v) : RS m μ (sl.set d x) (a.put (some d) v) := by
 refine ⟨by simp [Act.put, h.size], h.defers, fun i y hy => ?_⟩
 simp only [Act.put]
 by_cases hi : d = i
 ·subst hi
  have hd : d < sl.length := by
   rcases Nat.lt_or_ge d sl.length with h1 | h1
   ·exact h1
   ·rw [List.getElem?_eq_none (by simpa using h1)] at hy; cases hy
  rw [List.getElem?_set_self hd] at hy
  cases hy
  exact ⟨v, by simp [h.size, hd], hv⟩
 ·rw [List.getElem?_set_ne hi] at hy
  obtain ⟨u, h1, h2⟩ := h.rel i y hy
  exact ⟨u, by rw [Array.getElem?_setIfInBounds_ne hi]; exact h1, h2⟩
end Go.Am
namespace Go.Am
open Go
def Q2W (P : Program) (T : TypeId) : Option Bool :=
 match P.underlying T with
 | some (.struct _) => some true
 | some (.array _ _) => some true
 | some _ => some false
 | none => none
def Q20 (P : Program) (T : TypeId) : Option Nat := (P.info? T).map (·.size)
def QbT (g : TypeId → Option Ty) : List Field → Option Ty
 | [] => some .unit
 | f :: fs => (g f.type).bind fun a => (QbT g fs).bind fun b => some (.pair a b)
def tyOf (P : Program) : Nat → TypeId → Option Ty
 | 0, _ => none
 | n + 1, T =>
  match P.underlying T with
  | some .bool => some .bool
  | some (.int k) => some (.int k)
  | some .string => some .str
  | some (.slice e) => (tyOf P n e).bind fun t => some (.sl t)
  | some (.array len e) => (tyOf P n e).bind fun t => some (.arr len t)
  | some (.struct fs) => QbT (tyOf P n) fs.toList
  | _ => none
def Q3q : Ty → List Value
 | .int k => [.int k 0]
 | .bool => [.bool false]
 | .str => [.string ByteArray.empty]
 | .unit => []
 | .pair a b => Q3q a ++ Q3q b
 | .arr n t => (List.replicate n (Q3q t)).flatten
 | .sl _ => [.slice none 0 0]
def beqV : Value → Value → Bool
 | .int k n, .int k' n' => decide (k = k') && decide (n = n')
 | .bool b, .bool b' => b == b'
 | .string s, .string s' => s.size == 0 && s'.size == 0
 | .slice none 0 0, .slice none 0 0 => true
 | .pointer none, .pointer none => true
 | _, _ => false
def beqL : List Value → List Value → Bool
 | [], [] => true
 | a :: l, b :: r => beqV a b && beqL l r
 | _, _ => false
def absL (g : TypeId → List Value → Option AVal) (sz : TypeId → Nat) : List Field → List Value → Option AVal
 | [], [] => some .unit
 | f :: fs, cs => (g f.type (cs.take (sz f.type))).bind fun a => (absL g sz fs (cs.drop (sz f.type))).bind fun b => some (.pair a b)
 | _, _ => none
def absZ (P : Program) : Nat → TypeId → List Value → Option AVal
 | 0, _, _ => none
 | n + 1, T, cs =>
  match P.underlying T with
  | some (.struct fs) => absL (absZ P n) P.cellsOf fs.toList cs
  | some (.array len e) => (tyOf P n e).bind fun t => if beqL cs (Q3q (.arr len t)) = true then some (.arr len t (List.replicate len t.zero)) else none
  | some _ =>
   match cs with
   | [.int k v] => some (.int k v)
   | [.bool b] => some (.bool b)
   | [.string s] => some (.str s)
   | [.pointer none] => some .nilp
   | [.slice none 0 0] => some .nils
   | _ => none
  | none => none
def Q5u (P : Program) (T : TypeId) : Option AVal :=
 match P.info? T with
 | some i => (match i.zero with | some z => absZ P 40 T z.cells.toList | none => none)
 | none => none
def Q8I (i : TypeInfo) (t : Ty) : Bool :=
 match i.zero with
 | some z => beqL z.cells.toList (Q3q t)
 | none => false
def Q8x (i : TypeInfo) (t : Ty) : Bool :=
 match i.zero with
 | some z => z.cells.size == t.size
 | none => false
def vbOK (t : Ty) (e : TypeId) : Bool := match t with | .int .u8 => e == 5 | _ => true
def Q99 (P : Program) (E : TypeId) : Option Ty := (tyOf P 40 E).bind fun t => if vbOK t E then some t else none
inductive Eff where
 | pure | read (ids : List Nat) | push (n : Nat) (ids : List Nat) | touch (n : Nat) (ids : List Nat) | wr (id : Nat) | mut
structure Res where
 vc : Bool
 v : AVal
 H : Heap
 e : Eff
structure St where
 sl : List AVal
 H : Heap
def putA (sl : List AVal) (d : Option Nat) (v : AVal) : List AVal :=
 match d with
 | some d => sl.set d v
 | none => sl
def absC : Value → AVal
 | .int k n => .int k n
 | .bool b => .bool b
 | .string s => .str s
 | .pointer none => .nilp
 | .slice none 0 0 => .nils
 | _ => .undef
def Q17 (sl : List AVal) : Operand → AVal
 | .tmp t => sl.getD t .undef
 | .const v => absC v
 | .func f => .fn f .unit
 | .global _ => .undef
def Q2K : AVal → Bool
 | .undef => false
 | .tup _ => false
 | .vec _ _ => false
 | .pair a b => Q2K a && Q2K b
 | _ => true
def bytesOf (xs : List Int) : ByteArray := ⟨(xs.map fun n => UInt8.ofNat n.toNat).toArray⟩
def Qq (s : ByteArray) : List Int := s.data.toList.map fun b => (b.toNat : Int)
def Q1v (s : ByteArray) (i : Nat) : Int := ((s.data.toList.getD i 0).toNat : Int)
def Q2Y (s t : ByteArray) : Bool := s.toList == t.toList
def Qdy (s t : ByteArray) : Bool := Op.bytesLess s.toList t.toList
def Q12 (op : BinOp) (k : IntKind) (x y : Int) : Int :=
 let a := BitVec.ofInt k.bits x
 let b := BitVec.ofInt k.bits y
 match op with
 | .and => k.wrap (a &&& b).toNat
 | .or => k.wrap (a ||| b).toNat
 | .xor => k.wrap (a ^^^ b).toNat
 | .andNot => k.wrap (a &&& ~~~b).toNat
 | _ => 0
def Q2w (k : IntKind) (x y : Int) : Int := k.wrap (x * 2 ^ (min y.toNat k.bits))
def Q2c (k : IntKind) (x y : Int) : Int := x.fdiv (2 ^ (min y.toNat k.bits))
def binI (op : BinOp) (k : IntKind) (a b : Int) : Option (Bool × AVal) :=
 match op with
 | .add => some (true, .int k (k.wrap (a + b)))
 | .sub => some (true, .int k (k.wrap (a - b)))
 | .mul => some (true, .int k (k.wrap (a * b)))
 | .quo => some (!decide (b = 0), .int k (k.wrap (a.tdiv b)))
 | .rem => some (!decide (b = 0), .int k (a.tmod b))
 | .and => some (true, .int k (Q12 .and k a b))
 | .or => some (true, .int k (Q12 .or k a b))
 | .xor => some (true, .int k (Q12 .xor k a b))
 | .andNot => some (true, .int k (Q12 .andNot k a b))
 | .eql => some (true, .bool (a == b))
 | .neq => some (true, .bool (a != b))
 | .lss => some (true, .bool (decide (a < b)))
 | .leq => some (true, .bool (decide (a ≤ b)))
 | .gtr => some (true, .bool (decide (a > b)))
 | .geq => some (true, .bool (decide (a ≥ b)))
 | _ => none
def binS (op : BinOp) (x y : ByteArray) : Option (Bool × AVal) :=
 match op with
 | .add => some (Nat.ble (x.size + y.size) 9223372036854775807, .str (x ++ y))
 | .eql => some (true, .bool (Q2Y x y))
 | .neq => some (true, .bool (!Q2Y x y))
 | .lss => some (true, .bool (Qdy x y))
 | .leq => some (true, .bool (Qdy x y || Q2Y x y))
 | .gtr => some (true, .bool (!(Qdy x y || Q2Y x y)))
 | .geq => some (true, .bool (!Qdy x y))
 | _ => none
def eqD : (t : Ty) → t.den → t.den → Option Bool
 | .int _, a, b => some (a == b)
 | .bool, a, b => some (a == b)
 | .str, a, b => some (Q2Y a b)
 | .unit, _, _ => some true
 | .pair a b, x, y => (eqD a x.1 y.1).bind fun p => (eqD b x.2 y.2).bind fun q => some (p && q)
 | .arr _ (.int _), xs, ys => some (decide ((xs : List Int) = ys))
 | _, _, _ => none
def eqA : AVal → AVal → Option Bool
 | .int k a, .int k' b => if k = k' then some (a == b) else none
 | .bool a, .bool b => some (a == b)
 | .str a, .str b => some (Q2Y a b)
 | .unit, .unit => some true
 | .pair a b, .pair c d => (eqA a c).bind fun p => (eqA b d).bind fun q => some (p && q)
 | .arr n (.int k) xs, .arr n' (.int k') ys => if n = n' then if k = k' then some (decide ((xs : List Int) = ys)) else none else none
 | _, _ => none
def Qbq (g : TypeId → AVal → Bool) (sz : TypeId → Nat) : Nat → List Field → AVal → Bool
 | _, [], .unit => true
 | off, f :: fs, .pair a b => f.name != "_" && f.offset == off && sz f.type == a.size && g f.type a && Qbq g sz (off + a.size) fs b
 | _, _, _ => false
def eqTy (P : Program) : Nat → TypeId → AVal → Bool
 | 0, _, _ => false
 | n + 1, T, a =>
  match P.underlying T, a with
  | some .bool, .bool _ => true
  | some (.int k), .int k' _ => decide (k = k')
  | some .string, .str _ => true
  | some (.struct fs), a => a.isAgg && !P.stoodInHeld T && Qbq (eqTy P n) P.cellsOf 0 fs.toList a
  | some (.array len e), .arr n' (.int k) _ => len == n' && (match P.underlying e with | some (.int k') => decide (k = k') | _ => false) && Q20 P e == some 1
  | _, _ => false
def binA (P : Program) (op : BinOp) (T : TypeId) (x y : AVal) : Option (Bool × AVal) :=
 match x, y with
 | .int k a, .int k' b =>
  match op with
  | .shl => some (decide (0 ≤ b), .int k (Q2w k a b))
  | .shr => some (decide (0 ≤ b), .int k (Q2c k a b))
  | op => if k = k' then binI op k a b else none
 | .str a, .str b => binS op a b
 | .bool a, .bool b =>
  match op, P.underlying T with
  | .eql, some .bool => some (true, .bool (a == b))
  | .neq, some .bool => some (true, .bool (!(a == b)))
  | _, _ => none
 | .nilp, .nilp => (match op, P.underlying T with | .eql, some (.pointer _) => some (true, .bool true) | .neq, some (.pointer _) => some (true, .bool false) | _, _ => none)
 | .ros _ xs, .nils => (match op, P.underlying T with | .eql, some (.slice _) => some (Nat.ble 1 xs.length, .bool false) | .neq, some (.slice _) => some (Nat.ble 1 xs.length, .bool true) | _, _ => none)
 | .ptr _ _, .nilp => (match op, P.underlying T with | .eql, some (.pointer _) => some (true, .bool false) | .neq, some (.pointer _) => some (true, .bool true) | _, _ => none)
 | .rop _ _, .nilp => (match op, P.underlying T with | .eql, some (.pointer _) => some (true, .bool false) | .neq, some (.pointer _) => some (true, .bool true) | _, _ => none)
 | a, b =>
  if a.isAgg && b.isAgg && decide (a.sh = b.sh) && Q2K a && Q2K b && !P.eqGuardType P.depth T && eqTy P 40 T a then
   match op with
   | .eql => (eqA a b).bind fun r => some (true, .bool r)
   | .neq => (eqA a b).bind fun r => some (true, .bool (!r))
   | _ => none
  else none
def notI (k : IntKind) (n : Int) : Int := Q12 .xor k (if k.signed then -1 else k.max) n
def unA (op : UnOp) (x : AVal) : Option AVal :=
 match op, x with
 | .neg, .int k n => some (.int k (k.wrap (0 - n)))
 | .xor, .int k n => some (.int k (notI k n))
 | .not, .bool b => some (.bool (!b))
 | _, _ => none
def Q3Y (H : Heap) : AVal → Option ((t : Ty) × List t.den × List Nat)
 | .ros t xs => some ⟨t, xs, []⟩
 | .vsl id => (match H[id]? with | some (some (.vec t xs)) => some ⟨t, xs, [id]⟩ | _ => none)
 | .sl id p off len =>
  match H[id]? with
  | some (some c) => (match getP c p with | some (.arr _ t xs) => some ⟨t, (xs.drop off).take len, [id]⟩ | some (.vec t xs) => some ⟨t, (xs.drop off).take len, [id]⟩ | _ => none)
  | _ => none
 | _ => none
def Q2X (H : Heap) (id : Nat) (p : List Nat) : Option AVal :=
 match H[id]? with
 | some (some c) => getP c p
 | _ => none
def Qdk : Option AVal → Option Ty
 | some (.arr _ t _) => some t
 | some (.vec t _) => some t
 | _ => none
def fitT (P : Program) (T : TypeId) (x : AVal) : Bool := Q2W P T == some x.isAgg && Q20 P T == some x.size
def pure1 (H : Heap) (v : AVal) : Option Res := some ⟨true, v, H, .pure⟩
def Qau (P : Program) (H : Heap) (T : TypeId) (a : AVal) : Option Res :=
  match a with
  | .ptr id p => (Q2X H id p).bind fun x => if fitT P T x then some ⟨true, x, H, .read [id]⟩ else none
  | .rop t x => if fitT P T (toA t x) then some ⟨true, toA t x, H, .pure⟩ else none
  | .parr id p off n =>
    (match Q2X H id p with
     | some (.arr _ t xs) => if fitT P T (.arr n t ((xs.drop off).take n)) then some ⟨true, .arr n t ((xs.drop off).take n), H, .read [id]⟩ else none
     | some (.vec t xs) => if fitT P T (.arr n t ((xs.drop off).take n)) then some ⟨true, .arr n t ((xs.drop off).take n), H, .read [id]⟩ else none
     | _ => none)
  | _ => none
def Q7B (P : Program) (H : Heap) (T : TypeId) (a x : AVal) : Option Res :=
 match a with
 | .ptr id p =>
  match H[id]? with
  | some (some c) => (getP c p).bind fun old => if Q2K x && decide (old.sh = x.sh) && Q20 P T == some x.size then (setP c p x).bind fun c' => some ⟨true, .undef, H.set id (some c'), .wr id⟩ else none
  | _ => none
 | _ => none
def Q53 (P : Program) (T : TypeId) (z : AVal) : List (Nat × AVal) → Option AVal
  | [] => some z
  | (i, x) :: rest =>
    match P.underlying T with
    | some (.struct fs) =>
      (match fs[i]?, z.sh.fieldOff i with
       | some f, some (o, s) => if f.offset == o && Q20 P f.type == some s.size && Q2K x && decide (x.sh = s) then (setF z i x).bind fun z' => Q53 P T z' rest else none
       | _, _ => none)
    | some (.array len e) =>
      (match z with
       | .arr n t _ => if i < n ∧ n = len then if Q20 P e == some t.size && Q2K x && decide (x.sh = t.sh) then (setF z i x).bind fun z' => Q53 P T z' rest else none else none
       | _ => none)
    | _ => none
def Q9D (P : Program) (T : TypeId) : Bool :=
 match P.underlying T with
 | some (.struct fs) => fs.toList.all fun f => (Q20 P f.type).isSome
 | some (.array _ e) => (Q20 P e).isSome
 | _ => false
def Q37 (size : Nat) (z : AVal) : List (Nat × AVal) → Option AVal
  | [] => some z
  | (i, x) :: rest =>
    (match z with
     | .vec t xs => if i < xs.length then if size == t.size && Q2K x && decide (x.sh = t.sh) then (setF z i x).bind fun z' => Q37 size z' rest else none else none
     | _ => none)
def Q3x (o : Option AVal) (d : Int) : Option Int :=
 match o with
 | none => some d
 | some (.int _ n) => some n
 | _ => none
def Q7w (P : Program) (H : Heap) (T : TypeId) (x : AVal) (lo hi : Option AVal) (mx : Bool) : Option Res :=
  if mx then none else
  match x with
  | .str s =>
    (match P.underlying T, Q3x lo 0, Q3x hi s.size with
     | some .string, some l, some h => some ⟨decide (0 ≤ l ∧ l ≤ h ∧ h ≤ s.size), .str (s.extract l.toNat h.toNat), H, .pure⟩
     | _, _, _ => none)
  | .ros t xs =>
    (match P.underlying T, Q3x lo 0, Q3x hi xs.length with
     | some (.slice e), some l, some h => if Q20 P e == some t.size then some ⟨decide (0 ≤ l ∧ l ≤ h ∧ h ≤ xs.length), .ros t ((xs.take h.toNat).drop l.toNat), H, .pure⟩ else none
     | _, _, _ => none)
  | .sl id p off len =>
    (match P.underlying T, Q3x lo 0, Q3x hi len, Qdk (Q2X H id p) with
     | some (.slice e), some l, some h, some t => if Q20 P e == some t.size then some ⟨decide (0 ≤ l ∧ l ≤ h ∧ h ≤ len), .sl id p (off + l.toNat) (h - l).toNat, H, .read [id]⟩ else none
     | _, _, _, _ => none)
  | .vsl id =>
    (match H[id]? with
     | some (some (.vec t xs)) =>
       (match P.underlying T, Q3x lo 0, Q3x hi xs.length with
        | some (.slice e), some l, some h => if Q20 P e == some t.size then some ⟨decide (0 ≤ l ∧ l ≤ h ∧ h ≤ xs.length), .sl id [] l.toNat (h - l).toNat, H, .read [id]⟩ else none
        | _, _, _ => none)
     | _ => none)
  | .nils =>
    (match P.underlying T, Q3x lo 0, Q3x hi 0 with
     | some (.slice e), some l, some h => if (Q20 P e).isSome then some ⟨decide (l = 0 ∧ h = 0), .nils, H, .pure⟩ else none
     | _, _, _ => none)
  | .ptr id p =>
    (match Q2X H id p with
     | some (.arr n t _) =>
       (match P.underlying T with
        | some (.array n' e) =>
          (match Q3x lo 0, Q3x hi n with
           | some l, some h => if n' == n && Q20 P e == some t.size then some ⟨decide (0 ≤ l ∧ l ≤ h ∧ h ≤ n), .sl id p l.toNat (h - l).toNat, H, .read [id]⟩ else none
           | _, _ => none)
        | _ => none)
     | _ => none)
  | .rop (.arr n t) xs =>
    (match P.underlying T with
     | some (.array n' e) =>
       (match Q3x lo 0, Q3x hi n with
        | some l, some h => if n' == n && Q20 P e == some t.size then some ⟨decide (0 ≤ l ∧ l ≤ h ∧ h ≤ n), .ros t (((xs : List t.den).take h.toNat).drop l.toNat), H, .pure⟩ else none
        | _, _ => none)
     | _ => none)
  | _ => none
def Q7K : (t : Ty) → t.den → Nat → Option ((t' : Ty) × t'.den)
 | .pair a _, x, 0 => some ⟨a, x.1⟩
 | .pair _ b, x, i + 1 => Q7K b x.2 i
 | _, _, _ => none
def Q4d (P : Program) (H : Heap) (S : TypeId) (a : AVal) (f : Nat) : Option Res :=
  match P.underlying S with
  | some (.struct fs) =>
    (match fs[f]? with
     | some fd =>
       (match a with
        | .ptr id p =>
          (match (Q2X H id p).bind fun c => c.sh.fieldOff f with
           | some (o, s) => if fd.offset == o && Q20 P fd.type == some s.size && s.size != 0 then some ⟨true, .ptr id (p ++ [f]), H, .read [id]⟩ else none
           | none => none)
        | .rop t x =>
          (match t.sh.fieldOff f, Q7K t x f with
           | some (o, s), some ⟨t', y⟩ => if fd.offset == o && Q20 P fd.type == some s.size && s.size != 0 then some ⟨true, .rop t' y, H, .pure⟩ else none
           | _, _ => none)
        | _ => none)
     | none => none)
  | _ => none
def Q6U (P : Program) (H : Heap) (S : TypeId) (a : AVal) (f : Nat) : Option Res :=
  match P.underlying S with
  | some (.struct fs) =>
    (match fs[f]?, a.sh.fieldOff f, Q8E a f with
     | some fd, some (o, s), some x => if a.isAgg && fd.offset == o && Q20 P fd.type == some s.size && Q2W P fd.type == some x.isAgg && Q2K a then some ⟨true, x, H, .pure⟩ else none
     | _, _, _ => none)
  | _ => none
def Q4c (P : Program) (H : Heap) (T : TypeId) (x i : AVal) : Option Res :=
  match i with
  | .int _ i =>
    match P.underlying T with
    | some (.array len e) =>
      (match x with
       | .ptr id p =>
         (match Q2X H id p with
          | some (.arr n t _) => if n == len && Q20 P e == some t.size then some ⟨decide (0 ≤ i ∧ i < len), .ptr id (p ++ [i.toNat]), H, .read [id]⟩ else none
          | _ => none)
       | .rop (.arr n t) xs => if n == len && Q20 P e == some t.size then some ⟨decide (0 ≤ i ∧ i < len), .rop t ((xs : List t.den).getD i.toNat t.zero), H, .pure⟩ else none
       | _ => none)
    | some (.slice e) =>
      (match x with
       | .sl id p off len =>
         (match Qdk (Q2X H id p) with
          | some t => if Q20 P e == some t.size then some ⟨decide (0 ≤ i ∧ i < len), .ptr id (p ++ [off + i.toNat]), H, .read [id]⟩ else none
          | _ => none)
       | .vsl id =>
         (match H[id]? with
          | some (some (.vec t xs)) => if Q20 P e == some t.size then some ⟨decide (0 ≤ i ∧ i < xs.length), .ptr id [i.toNat], H, .read [id]⟩ else none
          | _ => none)
       | .ros t xs => if Q20 P e == some t.size then some ⟨decide (0 ≤ i ∧ i < xs.length), .rop t (xs.getD i.toNat t.zero), H, .pure⟩ else none
       | _ => none)
    | _ => none
  | _ => none
def Q8A (P : Program) (H : Heap) (T : TypeId) (x i : AVal) : Option Res :=
  match i with
  | .int _ i =>
    (match P.underlying T, x with
     | some (.array len e), .arr n t xs => if n == len && Q20 P e == some t.size && Q2W P e == some (toA t t.zero).isAgg then some ⟨decide (0 ≤ i ∧ i < len), toA t (xs.getD i.toNat t.zero), H, .pure⟩ else none
     | some .string, .str s => some ⟨decide (0 ≤ i ∧ i < s.size), .int .u8 (Q1v s i.toNat), H, .pure⟩
     | _, _ => none)
  | _ => none
def nthA : AVal → Nat → Option AVal
 | .pair a _, 0 => some a
 | .pair _ b, i + 1 => nthA b i
 | _, _ => none
def Q5q (P : Program) (H : Heap) (src dst : TypeId) (x : AVal) : Option Res :=
  match P.underlying src, P.underlying dst with
  | some ts, some (.int k) => (match x with | .int _ n => pure1 H (.int k (k.wrap n)) | _ => match ts with | _ => none)
  | some .string, some .string => (match x with | .str s => pure1 H (.str s) | _ => none)
  | some (.slice e), some .string =>
    (match P.underlying e, x with
     | some (.int .u8), .nils => pure1 H (.str ByteArray.empty)
     | some (.int .u8), x =>
       (match Q3Y H x with
        | some ⟨.int .u8, xs, ids⟩ => some ⟨true, .str (bytesOf xs), H, if ids.isEmpty then .pure else .read ids⟩
        | _ => none)
     | _, _ => none)
  | some .string, some (.slice e) =>
    (match P.underlying e, x with
     | some (.int .u8), .str s => if e == 5 then some ⟨true, .vsl H.length, H ++ [some (.vec (.int .u8) (Qq s))], .push H.length []⟩ else none
     | _, _ => none)
  | _, _ => none
def Q3N (P : Program) (H : Heap) (T : TypeId) (l c : AVal) : Option Res :=
  match P.underlying T, l, c with
  | some (.slice e), .int _ l, .int _ c =>
    (match Q99 P e, P.info? e with
     | some t, some i => if i.size == t.size && i.bytes != 0 && Q8I i t then
         some ⟨decide (0 ≤ l ∧ l ≤ c) && Nat.ble (c.toNat * i.bytes) 140737488355328, .vsl H.length, H ++ [some (.vec t (List.replicate l.toNat t.zero))], .push H.length []⟩ else none
     | _, _ => none)
  | _, _, _ => none
def lenA (P : Program) (H : Heap) (T : TypeId) (x : AVal) : Option Res :=
 match P.underlying T, x with
 | some .string, .str s => pure1 H (.int .i64 s.size)
 | some (.slice _), .ros _ xs => pure1 H (.int .i64 xs.length)
 | some (.slice _), .sl _ _ _ len => pure1 H (.int .i64 len)
 | some (.slice _), .vsl id => (match H[id]? with | some (some (.vec _ xs)) => some ⟨true, .int .i64 xs.length, H, .read [id]⟩ | _ => none)
 | some (.slice _), .vbs id => (match H[id]? with | some (some (.vec _ xs)) => some ⟨true, .int .i64 xs.length, H, .read [id]⟩ | _ => none)
 | some (.slice _), .nils => pure1 H (.int .i64 0)
 | some (.array n _), _ => pure1 H (.int .i64 n)
 | some (.pointer a), _ => (match P.underlying a with | some (.array n _) => pure1 H (.int .i64 n) | _ => none)
 | _, _ => none
def Q3j (H : Heap) (t : Ty) (x : AVal) : Option (List t.den × List Nat) :=
 match x with
 | .nils => some ([], [])
 | .str s => (match t with | .int .u8 => some (Qq s, []) | _ => none)
 | x =>
  match Q3Y H x with
  | some ⟨t', xs, ids⟩ => if h : t' = t then some (h ▸ xs, ids) else none
  | none => none
def Q5Q (P : Program) (H : Heap) (S : TypeId) (X : Option TypeId) (s x : AVal) : Option Res :=
  match P.underlying S, X.bind P.underlying with
  | some (.slice _), some (.int _) => none
  | some (.slice e), some _ =>
    (match P.info? e, Q99 P e with
     | some i, some t =>
       if i.size == t.size && i.bytes != 0 && Q8x i t then
         (Q3j H t x).bind fun (ys, ids) =>
           match s with
           | .nils => some ⟨Nat.ble (ys.length * i.bytes) 140737488355328, .vsl H.length, H ++ [some (.vec t ys)], .push H.length ids⟩
           | .vsl id =>
             (match H[id]? with
              | some (some (.vec t' xs)) => if h : t' = t then
                  some ⟨Nat.ble ((xs.length + ys.length) * i.bytes) 140737488355328, .vsl H.length, H.set id none ++ [some (.vec t ((h ▸ xs : List t.den) ++ ys))], .touch H.length [id]⟩ else none
              | _ => none)
           | .vbs id =>
             (match H[id]? with
              | some (some (.vec t' xs)) => if h : t' = t then
                  some ⟨Nat.ble ((xs.length + ys.length) * i.bytes) 140737488355328, .vbs H.length, H.set id none ++ [some (.vec t ((h ▸ xs : List t.den) ++ ys))], .touch H.length [id]⟩ else none
              | _ => none)
           | .sl id [] off len =>
             (match H[id]? with
              | some (some (.vec t' xs)) => if h : t' = t then
                  some ⟨Nat.ble ((len + ys.length) * i.bytes) 140737488355328, .vsl H.length, H.set id none ++ [some (.vec t (((h ▸ xs : List t.den).drop off).take len ++ ys))], .touch H.length [id]⟩ else none
              | _ => none)
           | _ => none
       else none
     | _, _ => none)
  | _, _ => none
def Q2C {α : Type} (xs : List α) (off : Nat) (ys : List α) (n : Nat) : List α := xs.take off ++ ys.take n ++ xs.drop (off + n)
def QbK (P : Program) (H : Heap) (D : TypeId) (d x : AVal) : Option Res :=
  match P.underlying D with
  | some (.slice e) =>
    (match d with
     | .nils => none
     | .sl id p off len =>
       (match H[id]? with
        | some (some c) =>
          (match getP c p with
           | some (.arr n t xs) =>
             if Q20 P e == some t.size then
               (Q3j H t x).bind fun (ys, _) =>
                 (setP c p (.arr n t (Q2C xs off ys (min ys.length len)))).bind fun c' => some ⟨true, .int .i64 (min ys.length len : Nat), H.set id (some c'), .touch H.length [id]⟩
             else none
           | some (.vec t xs) =>
             if Q20 P e == some t.size && p.isEmpty then
               (Q3j H t x).bind fun (ys, _) => some ⟨true, .int .i64 (min ys.length len : Nat), H.set id (some (.vec t (Q2C xs off ys (min ys.length len)))), .touch H.length [id]⟩
             else none
           | _ => none)
        | _ => none)
     | .vsl id =>
       (match H[id]? with
        | some (some (.vec t xs)) =>
          if Q20 P e == some t.size then
            (Q3j H t x).bind fun (ys, _) => some ⟨true, .int .i64 (min ys.length xs.length : Nat), H.set id (some (.vec t (Q2C xs 0 ys (min ys.length xs.length)))), .touch H.length [id]⟩
          else none
        | _ => none)
     | _ => none)
  | _ => none
def Q6M (P : Program) (H : Heap) (arr : TypeId) (x : AVal) : Option Res :=
  match P.underlying arr, x with
     | some (.array n _), .ros t xs => if n = 0 then none else some ⟨decide (n ≤ xs.length), .rop (.arr n t) (xs.take n), H, .pure⟩
     | some (.array n _), .vsl id =>
       (match H[id]? with | some (some (.vec _ xs)) => if n = 0 then none else some ⟨decide (n ≤ xs.length), .parr id [] 0 n, H, .read [id]⟩ | _ => none)
     | some (.array n _), .sl id p off len => if n = 0 then none else some ⟨decide (n ≤ len), .parr id p off n, H, .pure⟩
     | _, _ => none
def QbO (P : Program) : Nat → TypeId → List (List Nat)
  | 0, _ => []
  | n + 1, T =>
    match P.info? T with
    | some i =>
      if i.str == "strings.Builder" then [[]] else
        (match P.underlying T with
         | some (.struct fs) => (fs.toList.zipIdx.map fun f => (QbO P n f.1.type).map (f.2 :: ·)).flatten
         | _ => [])
    | none => []
def Qa9 (n : Nat) (T : TypeId) (a : AVal) (p : List Nat) : Option AVal :=
 match a.sh.offP p, getP a p with
 | some _, some (.pair .nilp (.pair .nils r)) => setP a p (.pair (.sfp n p T) (.pair (.vbs (n + 1)) r))
 | _, _ => none
def dryA : AVal → Bool
 | .ptr _ _ => false
 | .sl _ _ _ _ => false
 | .vsl _ => false
 | .parr _ _ _ _ => false
 | .sfp _ _ _ => false
 | .vbs _ => false
 | .pair a b => dryA a && dryA b
 | .fn _ c => dryA c
 | .tup a => dryA a
 | _ => true
def allocA (P : Program) (H : Heap) (T : TypeId) (z : AVal) : Res :=
  match cond (z.sh.size == 0) [] (QbO P 3 T) with
  | [p] =>
    (match Qa9 H.length T z p with
     | some z' => ⟨true, .ptr H.length [], H ++ [some z', some (.vec (.int .u8) [])], .touch H.length []⟩
     | none => ⟨true, .ptr H.length [], H ++ [some z], .touch H.length []⟩)
  | _ => ⟨true, .ptr H.length [], H ++ [some z], cond (dryA z) (.push H.length []) (.touch H.length [])⟩
def Q63 (P : Program) (sl : List AVal) (H : Heap) (o : Oper) : Option Res :=
  match o.op with
  | .move x => pure1 H (Q17 sl x)
  | .assign x => pure1 H (Q17 sl x)
  | .pick c a b => (match Q17 sl c with | .bool t => pure1 H (cond t (Q17 sl a) (Q17 sl b)) | _ => none)
  | .alloc T => (Q5u P T).bind fun z => some (allocA P H T z)
  | .box T x => if Q2K (Q17 sl x) then some (allocA P H T (Q17 sl x)) else none
  | .build T parts => (Q5u P T).bind fun z => if Q9D P T then (Q53 P T z (parts.toList.map fun p => (p.1, Q17 sl p.2))).bind fun v => pure1 H v else none
  | .buildSlice T len parts =>
    (match P.underlying T with
     | some (.slice e) =>
       (match Q99 P e, P.info? e with
        | some t, some i =>
          if i.size == t.size && Q8I i t && t.size != 0 && decide (len * t.size ≤ 16777216) then
            (Q37 t.size (.vec t (List.replicate len t.zero)) (parts.toList.map fun p => (p.1, Q17 sl p.2))).bind fun c => some ⟨true, .vsl H.length, H ++ [some c], .push H.length []⟩ else none
        | _, _ => none)
     | _ => none)
  | .load T a => Qau P H T (Q17 sl a)
  | .store T a x => Q7B P H T (Q17 sl a) (Q17 sl x)
  | .nilCheck x => (match Q17 sl x with | .ptr i p => pure1 H (.ptr i p) | .rop t y => pure1 H (.rop t y) | .fn f c => pure1 H (.fn f c) | _ => none)
  | .binOp op T x y _ => (binA P op T (Q17 sl x) (Q17 sl y)).bind fun r => some ⟨r.1, r.2, H, .pure⟩
  | .unOp op _ x => (unA op (Q17 sl x)).bind fun v => pure1 H v
  | .convert src dst x => Q5q P H src dst (Q17 sl x)
  | .sliceToArrayPointer arr x =>
    Q6M P H arr (Q17 sl x)
  | .makeFunc (.func f) first caps => if first.isEmpty && caps.toList.all (fun x => Q2K (Q17 sl x) && !(Q17 sl x).isAgg) then pure1 H (.fn f (caps.toList.foldr (fun x r => .pair (Q17 sl x) r) .unit)) else none
  | .makeSlice T l c => Q3N P H T (Q17 sl l) (Q17 sl c)
  | .slice T x lo hi mx => Q7w P H T (Q17 sl x) (lo.map (Q17 sl)) (hi.map (Q17 sl)) mx.isSome
  | .fieldAddr S x f => Q4d P H S (Q17 sl x) f
  | .field S x f => Q6U P H S (Q17 sl x) f
  | .indexAddr T x i => Q4c P H T (Q17 sl x) (Q17 sl i)
  | .index T x i => Q8A P H T (Q17 sl x) (Q17 sl i)
  | .extract t i => (match Q17 sl t with | .tup s => (nthA s i).bind fun v => pure1 H v | _ => none)
  | .call { callee := .builtin b, args, argTypes } =>
    (match b, argTypes.toList, args.toList with
     | .len, T :: _, x :: _ => lenA P H T (Q17 sl x)
     | .append, S :: X :: _, s :: x :: _ => Q5Q P H S (some X) (Q17 sl s) (Q17 sl x)
     | .copy, D :: _, d :: x :: _ => QbK P H D (Q17 sl d) (Q17 sl x)
     | .min, _, [x, y] => (match Q17 sl x, Q17 sl y with | .int k a, .int k' b => if k = k' then pure1 H (.int k (if b < a then b else a)) else none | _, _ => none)
     | .max, _, [x, y] => (match Q17 sl x, Q17 sl y with | .int k a, .int k' b => if k = k' then pure1 H (.int k (if b > a then b else a)) else none | _, _ => none)
     | _, _, _ => none)
  | _ => none
structure QT where
 f : {ρ : Type} → List AVal → Heap → (AVal → Heap → Eff → Option ρ) → Option ρ
structure Ctx where
 P : Program
 Γ : Nat → QT
def Qdw : AVal → List AVal
 | .pair a b => a :: Qdw b
 | _ => []
def Q6i : AVal → Bool
 | .pair a b => !a.isAgg && Q6i b
 | .unit => true
 | _ => false
def evOp {ρ : Type} (C : Ctx) (o : Oper) (st : St) (k : St → Eff → Option ρ) : Option ρ :=
  match o.op with
  | .call { callee := .value f, args, argTypes := _ } =>
    (match Q17 st.sl f with
     | .fn i caps => cond (Q6i caps) ((C.Γ i).f (args.toList.map (Q17 st.sl) ++ Qdw caps) st.H fun v H' e => k ⟨putA st.sl o.dst v, H'⟩ e) none
     | _ => none)
  | _ =>
    match Q63 C.P st.sl st.H o with
    | some r => cond r.vc (k ⟨putA st.sl o.dst r.v, r.H⟩ r.e) none
    | none => none
def ltB (n : Nat) : List Nat → Bool
 | [] => true
 | i :: l => Nat.blt i n && ltB n l
def Eff.norm (n : Nat) : Eff → Eff
 | .read ids => cond (ltB n ids) (.read ids) .mut
 | .push m ids => cond (ltB n ids) (.push m ids) .mut
 | e => e
def Q4k {ρ : Type} (C : Ctx) (ops : Array Oper) : List Oper → St → List Eff → (St → List Eff → Option ρ) → Option ρ
  | [], st, es, k => k st es
  | o :: rest, st, es, k =>
    match o.guard with
    | none => evOp C o st fun st' e => Q4k C ops rest st' (e.norm st.H.length :: es) k
    | some (j, want) =>
      match ((ops[j]?).bind (·.dst)) with
      | none => none
      | some d =>
        match st.sl.getD d .undef with
        | .bool b =>
          (match want with
           | true => cond b (evOp C o ⟨st.sl.set d (.bool true), st.H⟩ fun st' e => Q4k C ops rest st' (e.norm st.H.length :: es) k)
                            (Q4k C ops rest ⟨putA (st.sl.set d (.bool false)) o.dst (.tup .unit), st.H⟩ (.pure :: es) k)
           | false => cond b (Q4k C ops rest ⟨putA (st.sl.set d (.bool true)) o.dst (.tup .unit), st.H⟩ (.pure :: es) k)
                             (evOp C o ⟨st.sl.set d (.bool false), st.H⟩ fun st' e => Q4k C ops rest st' (e.norm st.H.length :: es) k))
        | .tup .unit => Q4k C ops rest ⟨putA st.sl o.dst (.tup .unit), st.H⟩ (.pure :: es) k
        | _ => none
def inB (i : Nat) : List Nat → Bool
 | [] => false
 | j :: l => cond (Nat.beq i j) true (inB i l)
def Q2h : Eff → Eff → Bool
 | .pure, _ => true
 | _, .pure => true
 | .read _, .read _ => true
 | .read ids, .push n _ => !inB n ids
 | .push n _, .read ids => !inB n ids
 | .push n ids, .push n' ids' => !inB n ids' && !inB n' ids
 | .push n ids, .wr id => !Nat.beq n id && !inB id ids
 | .wr id, .push n ids => !Nat.beq n id && !inB id ids
 | .wr a, .wr b => !Nat.beq a b
 | .read ids, .wr id => !inB id ids
 | .wr id, .read ids => !inB id ids
 | .read ids, .touch n ts => ids.all fun i => decide (i < n) && !ts.contains i
 | .touch n ts, .read ids => ids.all fun i => decide (i < n) && !ts.contains i
 | _, _ => false
def Qcy (acc : List Nat) (es : List Edge) : Nat :=
 es.foldl (fun s e => if Region.binds .any e = true then (s ||| 2 ^ e.on) ||| acc.getD e.on 0 else s) 0
def befL : List Oper → List Nat → List Nat
 | [], acc => acc
 | o :: os, acc => befL os (acc ++ [Qcy acc o.after.toList])
def Q8u (ops : Array Oper) (b : Nat) (o' : Oper) (e' : Eff) : Nat → List Oper → List Eff → Bool
 | i, o :: os, e :: es => (b.testBit i || (o.apart ops o' && Q2h e e')) && Q8u ops b o' e' (i + 1) os es
 | _, _, _ => true
def Q6u (ops : Array Oper) (seen : List Oper) (seenE : List Eff) : Nat → List Nat → List Oper → List Eff → Bool
 | j, b :: bs, o :: os, e :: es => o.after.toList.all (fun x => !Region.binds .any x || decide (x.on < j)) && Q8u ops b o e 0 seen seenE && Q6u ops (seen ++ [o]) (seenE ++ [e]) (j + 1) bs os es
 | _, [], [], [] => true
 | _, _, _, _ => false
def Qdr {ρ : Type} (C : Ctx) (ops : Array Oper) (draw : Bool) (st : St) (k : St → Option ρ) : Option ρ :=
 Q4k C ops ops.toList st [] fun st' es => cond (!draw || Q6u ops [] [] 0 (befL ops.toList []) ops.toList es.reverse) (k st') none
inductive Q32 where
 | slot (i : Nat)
 | blk (id : Nat) (p : List Nat)
def idsA : AVal → List Nat
 | .ptr i _ => [i]
 | .sl i _ _ _ => [i]
 | .vsl i => [i]
 | .parr i _ _ _ => [i]
 | .sfp i _ _ => [i]
 | .vbs i => [i]
 | .pair a b => idsA a ++ idsA b
 | .fn _ c => idsA c
 | .tup a => idsA a
 | _ => []
def Q9Y : AVal → List Nat
 | .ptr i _ => [i]
 | .parr i _ _ _ => [i]
 | .sfp i _ _ => [i]
 | .pair a b => Q9Y a ++ Q9Y b
 | .fn _ c => Q9Y c
 | .tup a => Q9Y a
 | _ => []
def Q9u (H : Heap) : Nat → List Nat → List Nat → List Nat
 | 0, seen, _ => seen
 | n + 1, seen, l =>
  match l with
  | [] => seen
  | i :: rest =>
   if seen.contains i then Q9u H n seen rest else
    match H[i]? with
    | some (some a) => Q9u H n (seen ++ [i]) (idsA a ++ rest)
    | _ => Q9u H n seen rest
def idsL : List AVal → List Nat
 | [] => []
 | a :: l => idsA a ++ idsL l
def QfI : List AVal → List Nat
 | [] => []
 | a :: l => Q9Y a ++ QfI l
def QfS (H : Heap) : List Nat → List Nat
 | [] => []
 | i :: l => (match H[i]? with | some (some a) => Q9Y a | _ => []) ++ QfS H l
def Qd4 (ps : List Nat) (b : Bool) : List Nat → List Nat
 | [] => []
 | i :: l => cond (inB i ps == b) (i :: Qd4 ps b l) (Qd4 ps b l)
def Q74 : List Nat → Bool
 | [] => true
 | a :: l => !inB a l && Q74 l
inductive Q2l where
 | mask (keep : List Nat)
 | drop (id : Nat)
 | renum (keep : List Nat)
 | freeze (at_ : Q32)
 | rebase (at_ : Q32)
 | own (at_ : Q32) (t : Ty)
 | auto (np : Nat)
def Q77 (keep : List Nat) : Nat → List AVal → List AVal
 | _, [] => []
 | i, x :: xs => (if keep.contains i then x else .undef) :: Q77 keep (i + 1) xs
def Q30 (i : Nat) : Nat → List Nat → Option Nat
 | _, [] => none
 | k, j :: l => if i = j then some k else Q30 i (k + 1) l
def renA (keep : List Nat) : AVal → Option AVal
 | .ptr id p => (Q30 id 0 keep).bind fun i => some (.ptr i p)
 | .sl id p off len => (Q30 id 0 keep).bind fun i => some (.sl i p off len)
 | .vsl id => (Q30 id 0 keep).bind fun i => some (.vsl i)
 | .parr id p off n => (Q30 id 0 keep).bind fun i => some (.parr i p off n)
 | .sfp id p T => (Q30 id 0 keep).bind fun i => some (.sfp i p T)
 | .vbs id => (Q30 id 0 keep).bind fun i => some (.vbs i)
 | .pair a b => (renA keep a).bind fun a' => (renA keep b).bind fun b' => some (.pair a' b')
 | .fn f c => (renA keep c).bind fun c' => some (.fn f c')
 | .tup a => (renA keep a).bind fun a' => some (.tup a')
 | .undef => some .undef
 | .int k n => some (.int k n)
 | .bool b => some (.bool b)
 | .str s => some (.str s)
 | .nilp => some .nilp
 | .nils => some .nils
 | .ros t xs => some (.ros t xs)
 | .rop t x => some (.rop t x)
 | .arr n t xs => some (.arr n t xs)
 | .vec t xs => some (.vec t xs)
 | .unit => some .unit
def frzA (H : Heap) : AVal → Option (AVal × List Nat)
 | .vsl id => (match H[id]? with | some (some (.vec t xs)) => cond (t.size == 0) none (some (.ros t xs, [id])) | _ => none)
 | .sl id p off len => (match Q3Y H (.sl id p off len) with | some ⟨t, xs, _⟩ => cond (t.size == 0) none (some (.ros t xs, [id])) | none => none)
 | .pair a b => (frzA H a).bind fun x => (frzA H b).bind fun y => some (.pair x.1 y.1, x.2 ++ y.2)
 | .tup a => (frzA H a).bind fun x => some (.tup x.1, x.2)
 | .nils => some (.nils, [])
 | .undef => some (.undef, [])
 | .int k n => some (.int k n, [])
 | .bool b => some (.bool b, [])
 | .str s => some (.str s, [])
 | .ros t xs => some (.ros t xs, [])
 | .rop t x => some (.rop t x, [])
 | .arr n t xs => some (.arr n t xs, [])
 | .unit => some (.unit, [])
 | .nilp => some (.nilp, [])
 | .ptr i p => some (.ptr i p, [])
 | .sfp i p T => some (.sfp i p T, [])
 | _ => none
def Q1p : List Nat → Heap → Heap
 | [], H => H
 | i :: l, H => Q1p l (H.set i none)
def Q32.get (st : St) : Q32 → Option AVal
 | .slot i => some (st.sl.getD i .undef)
 | .blk id p => Q2X st.H id p
def Q32.set (st : St) (v : AVal) : Q32 → Option St
 | .slot i => some ⟨st.sl.set i v, st.H⟩
 | .blk id p =>
  match st.H[id]? with
  | some (some c) => (match c.sh.offP p with
   | some _ => (setP c p v).bind fun c' => if decide (c'.sh = c.sh) then some ⟨st.sl, st.H.set id (some c')⟩ else none
   | none => none)
  | _ => none
def Q2l.run0 (g : Q2l) (st : St) : Option St :=
  match g with
  | .mask keep => some ⟨Q77 keep 0 st.sl, st.H⟩
  | .drop id => some ⟨st.sl, st.H.set id none⟩
  | .renum keep =>
    some ⟨st.sl.map fun a => (renA keep a).getD .undef, keep.map fun i => (st.H.getD i none).bind (renA keep)⟩
  | .freeze pl => (pl.get st).bind fun a => (frzA st.H a).bind fun r => (pl.set st r.1).map fun st' => ⟨st'.sl, Q1p r.2 st'.H⟩
  | .rebase pl =>
    match pl.get st with
    | some (.sl id [] off len) =>
      (match st.H[id]? with
       | some (some (.vec t xs)) => (pl.set st (.vsl st.H.length)).map fun st' => ⟨st'.sl, st'.H.set id none ++ [some (.vec t ((xs.drop off).take len))]⟩
       | _ => none)
    | _ => none
  | .own pl t =>
    match pl.get st with
    | some .nils => (pl.set st (.vsl st.H.length)).map fun st' => ⟨st'.sl, st'.H ++ [some (.vec t [])]⟩
    | _ => none
  | .auto _ => none
def QcN (i : Nat) : List Nat → Nat
 | [] => 0
 | j :: l => cond (Nat.beq i j) (QcN i l + 1) (QcN i l)
def idsH : Heap → List Nat
 | [] => []
 | none :: l => idsH l
 | some a :: l => idsA a ++ idsH l
def QfO (np : Nat) (st : St) (id : Nat) : Bool :=
 Nat.ble np id && Nat.beq (QcN id (idsL st.sl ++ idsH st.H)) 1 && (match st.H[id]? with | some (some (.vec _ _)) => true | _ => false)
def Qcs : List (List Nat × Nat) → List (List Nat × Nat)
 | [] => []
 | (j :: p, i) :: l => ((j + 1) :: p, i) :: Qcs l
 | ([], _) :: l => Qcs l
def pre0 : List (List Nat × Nat) → List (List Nat × Nat)
 | [] => []
 | (p, i) :: l => (0 :: p, i) :: pre0 l
def QcK : AVal → List (List Nat × Nat)
 | .sl i [] _ _ => [([], i)]
 | .pair x y => pre0 (QcK x) ++ Qcs (QcK y)
 | _ => []
def QcY (np : Nat) (st : St) : Nat → List AVal → Option Q32
 | _, [] => none
 | i, .sl id [] _ _ :: l => cond (QfO np st id) (some (.slot i)) (QcY np st (i + 1) l)
 | i, _ :: l => QcY np st (i + 1) l
def Qeg (np : Nat) (st : St) (i : Nat) : List (List Nat × Nat) → Option Q32
 | [] => none
 | (p, id) :: l => cond (QfO np st id) (some (.blk i p)) (Qeg np st i l)
def QcT (np : Nat) (st : St) : Nat → Heap → Option Q32
 | _, [] => none
 | i, none :: l => QcT np st (i + 1) l
 | i, some a :: l => match Qeg np st i (QcK a) with | some pl => some pl | none => QcT np st (i + 1) l
def Q6X (np : Nat) (st : St) : List Nat := Q9u st.H 400 (List.range np) (idsH (st.H.take np) ++ idsL st.sl)
def QaJ (keep : List Nat) : Nat → Bool
 | 0 => true
 | n + 1 => QaJ keep n && (match keep[n]? with | some i => Nat.beq i n | none => false)
def Q4T (np : Nat) : Nat → St → Option St
 | 0, _ => none
 | n + 1, st =>
  match QcY np st 0 st.sl with
  | some pl => (Q2l.run0 (.rebase pl) st).bind (Q4T np n)
  | none =>
   match QcT np st 0 st.H with
   | some pl => (Q2l.run0 (.rebase pl) st).bind (Q4T np n)
   | none => cond (Q74 (Q6X np st) && QaJ (Q6X np st) np) (Q2l.run0 (.renum (Q6X np st)) st) none
def Q2l.run (g : Q2l) (st : St) : Option St :=
 match g with
 | .auto np => Q4T np 60 st
 | g => g.run0 st
def Q3Q : List Q2l → St → Option St
 | [], st => some st
 | g :: gs, st => (g.run st).bind (Q3Q gs)
structure Qao where
 f : {ρ : Type} → St → (Exit → St → Option ρ) → Option ρ
inductive Ann : Type 1 where
 | nil
 | node (pre : List Q2l) (sem : Option Qao) (a b : Ann)
def Ann.pre : Ann → List Q2l
 | .nil => []
 | .node p _ _ _ => p
def Ann.sem : Ann → Option Qao
 | .nil => none
 | .node _ s _ _ => s
def Ann.l : Ann → Ann
 | .nil => .nil
 | .node _ _ a _ => a
def Ann.r : Ann → Ann
 | .nil => .nil
 | .node _ _ _ b => b
def evC {ρ : Type} (C : Ctx) : Code → Ann → St → (Exit → St → Option ρ) → Option ρ
 | c, ann, st0, k =>
  match Q3Q ann.pre st0 with
  | none => none
  | some st =>
  match ann.sem with
  | some s => s.f st k
  | none =>
   match c with
   | .skip => k .normal st
   | .region _ ops draw => Qdr C ops draw st (k .normal)
   | .seq a b => evC C a ann.l st fun e st' => (match e with | .normal => evC C b ann.r st' k | e => k e st')
   | .cond x t e => (match Q17 st.sl x with | .bool b => cond b (evC C t ann.l st k) (evC C e ann.r st k) | _ => none)
   | .block id body => evC C body ann.l st fun e st' => (match e with | .exit i => cond (i == id) (k .normal st') (k (.exit i) st') | e => k e st')
   | .exit id => k (.exit id) st
   | .ret => k .ret st
   | _ => none
end Go.Am
