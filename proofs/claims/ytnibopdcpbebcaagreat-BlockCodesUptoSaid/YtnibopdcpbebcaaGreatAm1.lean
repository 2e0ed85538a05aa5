/- A part of a proof: a machine of abstract values that tells what functions of the program compute, and the plain facts on them. -/
import Derived.Test.YtnibopdcpbebcaaGreatAm0
import Derived.Laws.StructEq
import Derived.Laws.Pointers
import Derived.Laws.Append
set_option linter.unusedVariables false
set_option linter.unusedSimpArgs false
set_option linter.unnecessarySimpa false
set_option linter.unusedSectionVars false
namespace Go.Am
open Go
def Qdj (fr : Nat → AVal) : Prop := (fr = fun n => .ptr n []) ∨ fr = fun n => .vsl n
def Q1j (g : Heap → Option Res) (H : Heap) : Prop :=
 ∀ r, g H = some r → match r.e with
  | .pure => r.H = H ∧ ∀ H2, g H2 = some ⟨r.vc, r.v, H2, .pure⟩
  | .read ids => r.H = H ∧ ∀ H2 : Heap, (∀ i, i ∈ ids → H2[i]? = H[i]?) → g H2 = some ⟨r.vc, r.v, H2, .read ids⟩
  | .push n ids => n = H.length ∧ ∃ b fr, Qdj fr ∧ dryA b = true ∧ r.v = fr n ∧ r.H = H ++ [some b] ∧
    ∀ H2 : Heap, (∀ i, i ∈ ids → H2[i]? = H[i]?) → g H2 = some ⟨r.vc, fr H2.length, H2 ++ [some b], .push H2.length ids⟩
  | .touch n ts => ∀ i, i < n → i ∉ ts → r.H[i]? = H[i]?
  | .wr id => id < H.length ∧ ∃ c', r.H = H.set id (some c') ∧ ∀ H2 : Heap, H2[id]? = H[id]? → g H2 = some ⟨r.vc, r.v, H2.set id (some c'), .wr id⟩
  | .mut => True
theorem Q1j.none {H : Heap} : Q1j (fun _ => none) H := fun r h => by cases h
theorem Q1j.pure1 {H : Heap} (v : AVal) : Q1j (fun H => pure1 H v) H := fun r h => by
 simp only [Go.Am.pure1, Option.some.injEq] at h; subst h; exact ⟨rfl, fun _ => rfl⟩
theorem Q1j.pur {H : Heap} (b : Bool) (v : AVal) : Q1j (fun H => some ⟨b, v, H, .pure⟩) H := fun r h => by
 simp only [Option.some.injEq] at h; subst h; exact ⟨rfl, fun _ => rfl⟩
theorem Q1j.bind {H : Heap} {α : Type} (o : Option α) {g : α → Heap → Option Res} (h : ∀ x, Q1j (g x) H) : Q1j (fun H => o.bind fun x => g x H) H := by
 cases o with
 | none => exact Q1j.none
 | some x => exact h x
theorem Q1j.ite {H : Heap} {p : Prop} [Decidable p] {g : Heap → Option Res} (h : Q1j g H) : Q1j (fun H => if p then g H else Option.none) H := by
 by_cases hp : p
 ·simpa [hp] using h
 ·simpa [hp] using Q1j.none (H := H)
theorem Q1j.at {H : Heap} {id : Nat} {f : Option (Option AVal) → Option (Bool × AVal)} : Q1j (fun H => (f H[id]?).bind fun r => some ⟨r.1, r.2, H, .read [id]⟩) H := fun r h => by
 cases hf : f H[id]? with
 | none => simp [hf] at h
 | some x =>
  simp only [hf, Option.bind_some, Option.some.injEq] at h
  subst h
  exact ⟨rfl, fun H2 h2 => by simp [h2 id (by simp), hf]⟩
theorem Q1j.at' {H : Heap} {id : Nat} {g : Heap → Option Res} (f : Option (Option AVal) → Option (Bool × AVal)) (h : ∀ H : Heap, g H = (f H[id]?).bind fun r => some ⟨r.1, r.2, H, .read [id]⟩) : Q1j g H := by
 have : g = fun H => (f H[id]?).bind fun r => some ⟨r.1, r.2, H, .read [id]⟩ := funext h
 rw [this]; exact Q1j.at
theorem Q5W {H : Heap} {x : AVal} {t : Ty} {xs : List t.den} {ids : List Nat} (h : Q3Y H x = some ⟨t, xs, ids⟩) :
  ∀ H2 : Heap, (∀ i, i ∈ ids → H2[i]? = H[i]?) → Q3Y H2 x = some ⟨t, xs, ids⟩ := by
 intro H2 h2
 unfold Q3Y at h ⊢
 split at h
 ·exact h
 ·rename_i id
  split at h
  ·rename_i t' xs' heq
   simp only [Option.some.injEq] at h
   cases h
   rw [h2 id (by simp), heq]
  ·cases h
 ·rename_i id p off len
  have hid : ids = [id] := by
   split at h
   ·split at h
    ·cases h; rfl
    ·cases h; rfl
    ·cases h
   ·cases h
  subst hid
  rw [h2 id (by simp)]; exact h
 ·cases h
theorem Q3u {H H2 : Heap} {id : Nat} (h : H2[id]? = H[id]?) (p : List Nat) : Q2X H2 id p = Q2X H id p := by
 unfold Q2X; rw [h]
theorem QbB (P : Program) (H : Heap) (T : TypeId) (a : AVal) : Q1j (fun H => Qau P H T a) H := by
 intro r h
 dsimp only at h ⊢
 unfold Qau at h ⊢
 cases a <;> dsimp only at h ⊢ <;> (try cases h; done)
 case ptr id p =>
  cases hc : Q2X H id p with
  | none => simp [hc] at h
  | some x =>
   simp only [hc, Option.bind_some] at h
   split at h
   ·rename_i hf
    cases h
    exact ⟨rfl, fun H2 h2 => by simp only [Q3u (h2 id (by simp)), hc, Option.bind_some, hf, if_true]⟩
   ·cases h
 case rop t x =>
  split at h
  ·rename_i hf; cases h; exact ⟨rfl, fun H2 => by simp [hf]⟩
  ·cases h
 case parr id p off n =>
  split at h <;> (try cases h; done)
  all_goals
   rename_i hc
   split at h
   ·rename_i hf
    cases h
    exact ⟨rfl, fun H2 h2 => by simp only [Q3u (h2 id (by simp)), hc, hf, if_true]⟩
   ·cases h
theorem QaA (P : Program) (H : Heap) (T : TypeId) (x : AVal) (lo hi : Option AVal) (mx : Bool) : Q1j (fun H => Q7w P H T x lo hi mx) H := by
 intro r h
 dsimp only at h ⊢
 unfold Q7w at h ⊢
 split at h
 ·cases h
 rename_i hm
 simp only [hm, Bool.false_eq_true, if_false]
 split at h <;> (try cases h; done)
 all_goals (repeat' (split at h <;> (try cases h; done)))
 all_goals cases h
 all_goals refine ⟨rfl, fun H2 => ?_⟩
 all_goals (try intro h2)
 all_goals (try (have e := h2 _ (List.mem_singleton.2 rfl)))
 all_goals (try rw [Q3u e])
 all_goals (try rw [e])
 all_goals simp only [*, if_true]
theorem Q7F (P : Program) (H : Heap) (S : TypeId) (a : AVal) (f : Nat) : Q1j (fun H => Q4d P H S a f) H := by
 intro r h
 dsimp only at h ⊢
 unfold Q4d at h ⊢
 all_goals (repeat' (split at h <;> (try cases h; done)))
 all_goals cases h
 all_goals refine ⟨rfl, fun H2 => ?_⟩
 all_goals (try intro h2)
 all_goals (try (have e := h2 _ (List.mem_singleton.2 rfl)))
 all_goals (try rw [Q3u e])
 all_goals (try rw [e])
 all_goals (try simp only [*, if_true, if_false])
theorem Qb9 (P : Program) (H : Heap) (S : TypeId) (a : AVal) (f : Nat) : Q1j (fun H => Q6U P H S a f) H := by
 intro r h
 dsimp only at h ⊢
 unfold Q6U at h ⊢
 all_goals (repeat' (split at h <;> (try cases h; done)))
 all_goals cases h
 all_goals refine ⟨rfl, fun H2 => ?_⟩
 all_goals (try intro h2)
 all_goals (try (have e := h2 _ (List.mem_singleton.2 rfl)))
 all_goals (try rw [Q3u e])
 all_goals (try rw [e])
 all_goals (try simp only [*, if_true, if_false])
theorem Q7k (P : Program) (H : Heap) (T : TypeId) (x i : AVal) : Q1j (fun H => Q4c P H T x i) H := by
 intro r h
 dsimp only at h ⊢
 unfold Q4c at h ⊢
 all_goals (repeat' (split at h <;> (try cases h; done)))
 all_goals cases h
 all_goals refine ⟨rfl, fun H2 => ?_⟩
 all_goals (try intro h2)
 all_goals (try (have e := h2 _ (List.mem_singleton.2 rfl)))
 all_goals (try rw [Q3u e])
 all_goals (try rw [e])
 all_goals (try simp only [*, if_true, if_false])
theorem QaM (P : Program) (H : Heap) (T : TypeId) (x i : AVal) : Q1j (fun H => Q8A P H T x i) H := by
 intro r h
 dsimp only at h ⊢
 unfold Q8A at h ⊢
 all_goals (repeat' (split at h <;> (try cases h; done)))
 all_goals cases h
 all_goals refine ⟨rfl, fun H2 => ?_⟩
 all_goals (try intro h2)
 all_goals (try (have e := h2 _ (List.mem_singleton.2 rfl)))
 all_goals (try rw [Q3u e])
 all_goals (try rw [e])
 all_goals (try simp only [*, if_true, if_false])
theorem Q9O (P : Program) (H : Heap) (arr : TypeId) (x : AVal) : Q1j (fun H => Q6M P H arr x) H := by
 intro r h
 dsimp only at h ⊢
 unfold Q6M at h ⊢
 all_goals (repeat' (split at h <;> (try cases h; done)))
 all_goals cases h
 all_goals refine ⟨rfl, fun H2 => ?_⟩
 all_goals (try intro h2)
 all_goals (try (have e := h2 _ (List.mem_singleton.2 rfl)))
 all_goals (try rw [Q3u e])
 all_goals (try rw [e])
 all_goals (try simp only [*, if_true, if_false])
theorem QcZ (P : Program) (H : Heap) (T : TypeId) (x : AVal) : Q1j (fun H => lenA P H T x) H := by
 intro r h
 dsimp only at h ⊢
 unfold lenA Go.Am.pure1 at h ⊢
 all_goals (repeat' (split at h <;> (try cases h; done)))
 all_goals cases h
 all_goals refine ⟨rfl, fun H2 => ?_⟩
 all_goals (try intro h2)
 all_goals (try (have e := h2 _ (List.mem_singleton.2 rfl)))
 all_goals (try rw [Q3u e])
 all_goals (try rw [e])
 all_goals (try simp only [*, if_true, if_false])
theorem Q7O (P : Program) (H : Heap) (T : TypeId) (l c : AVal) : Q1j (fun H => Q3N P H T l c) H := by
 intro r h
 dsimp only at h ⊢
 unfold Q3N at h
 all_goals (repeat' (split at h <;> (try cases h; done)))
 all_goals cases h
 exact ⟨rfl, _, _, .inr rfl, rfl, rfl, rfl, fun H2 _ => by unfold Q3N; simp only [*, if_true, if_false]⟩
theorem Q8L (P : Program) (H : Heap) (src dst : TypeId) (x : AVal) : Q1j (fun H => Q5q P H src dst x) H := by
 intro r h
 dsimp only at h ⊢
 unfold Q5q Go.Am.pure1 at h ⊢
 split at h
 ·split at h
  ·cases h; exact ⟨rfl, fun H2 => by simp only [*]⟩
  ·split at h <;> cases h
 ·split at h
  ·cases h; exact ⟨rfl, fun H2 => by simp only [*]⟩
  ·cases h
 ·rename_i e h1 h2
  split at h
  ·rename_i h3
   cases h; exact ⟨rfl, fun H2 => by simp only [*]⟩
  ·rename_i y h3 h4
   split at h
   ·rename_i xs ids hv
    cases h
    dsimp only
    cases ids with
    | nil =>
     refine ⟨rfl, fun H2 => ?_⟩
     rw [Q5W hv H2 (by simp)]; rfl
    | cons i l =>
     refine ⟨rfl, fun H2 h5 => ?_⟩
     rw [Q5W hv H2 h5]; rfl
   ·cases h
  ·cases h
 ·split at h
  ·split at h
   ·cases h; exact ⟨rfl, _, _, .inr rfl, rfl, rfl, rfl, fun H2 _ => by simp only [*, if_true]⟩
   ·cases h
  ·cases h
 ·cases h
theorem Q5Z {H : Heap} {id : Nat} {x : Option AVal} : ∀ i, i < H.length → i ∉ [id] → (H.set id x)[i]? = H[i]? := fun i _ hi => by
 rw [List.getElem?_set_ne]
 intro e; exact hi (by simp [e])
theorem Q7p {H : Heap} {id : Nat} {x : Option AVal} {l : Heap} : ∀ i, i < H.length → i ∉ [id] → (H.set id x ++ l)[i]? = H[i]? := fun i h hi => by
 rw [List.getElem?_append_left (by simpa using h)]
 exact Q5Z i h hi
theorem Qcj {H : Heap} {t : Ty} {x : AVal} {ys : List t.den} {ids : List Nat} (h : Q3j H t x = some (ys, ids)) :
  ∀ H2 : Heap, (∀ i, i ∈ ids → H2[i]? = H[i]?) → Q3j H2 t x = some (ys, ids) := by
 intro H2 h2
 unfold Q3j at h ⊢
 split at h
 ·exact h
 ·exact h
 ·split at h
  ·rename_i t' xs ids' hv
   split at h
   ·rename_i ht
    simp only [Option.some.injEq, Prod.mk.injEq] at h
    obtain ⟨rfl, rfl⟩ := h
    rw [Q5W hv H2 h2]
    simp only [ht, dif_pos]
   ·cases h
  ·cases h
theorem Q9P (P : Program) (H : Heap) (S : TypeId) (X : Option TypeId) (s x : AVal) : Q1j (fun H => Q5Q P H S X s x) H := by
 intro r h
 dsimp only at h ⊢
 unfold Q5Q at h
 split at h
 ·cases h
 ·split at h
  ·split at h
   ·obtain ⟨⟨ys, ids⟩, h1, h2⟩ := Option.bind_eq_some_iff.1 h
    dsimp only at h2
    split at h2
    ·cases h2
     refine ⟨rfl, _, _, .inr rfl, rfl, rfl, rfl, fun H2 hi => ?_⟩
     have h3 := Qcj h1 H2 hi
     unfold Q5Q
     simp only [*, if_true, Option.bind_some]
    ·split at h2
     ·split at h2
      ·cases h2; exact Q7p
      ·cases h2
     ·cases h2
    ·split at h2
     ·split at h2
      ·cases h2; exact Q7p
      ·cases h2
     ·cases h2
    ·split at h2
     ·split at h2
      ·cases h2; exact Q7p
      ·cases h2
     ·cases h2
    ·cases h2
   ·cases h
  ·cases h
 ·cases h
theorem QbU (P : Program) (H : Heap) (D : TypeId) (d x : AVal) : Q1j (fun H => QbK P H D d x) H := by
 intro r h
 dsimp only at h ⊢
 unfold QbK at h
 split at h
 ·split at h
  ·cases h
  ·split at h
   ·split at h
    ·split at h
     ·obtain ⟨⟨ys, ids⟩, h1, h2⟩ := Option.bind_eq_some_iff.1 h
      obtain ⟨c', h3, h4⟩ := Option.bind_eq_some_iff.1 h2
      cases h4; exact Q5Z
     ·cases h
    ·split at h
     ·obtain ⟨⟨ys, ids⟩, h1, h2⟩ := Option.bind_eq_some_iff.1 h
      cases h2; exact Q5Z
     ·cases h
    ·cases h
   ·cases h
  ·split at h
   ·split at h
    ·obtain ⟨⟨ys, ids⟩, h1, h2⟩ := Option.bind_eq_some_iff.1 h
     cases h2; exact Q5Z
    ·cases h
   ·cases h
  ·cases h
 ·cases h
theorem Qba (P : Program) (H : Heap) (T : TypeId) (a x : AVal) : Q1j (fun H => Q7B P H T a x) H := by
 intro r h
 dsimp only at h ⊢
 unfold Q7B at h
 split at h
 ·split at h
  ·obtain ⟨c', h3, h4⟩ := Option.bind_eq_some_iff.1 h
   split at h4
   ·rename_i c hc hok
    obtain ⟨c', h5, h6⟩ := Option.bind_eq_some_iff.1 h4
    cases h6
    refine ⟨(List.getElem?_eq_some_iff.1 hc).1, c', rfl, fun H2 h2 => ?_⟩
    unfold Q7B
    dsimp only
    rw [h2, hc]
    dsimp only
    rw [h3, Option.bind_some, if_pos hok, h5]
    rfl
   ·cases h4
  ·cases h
 ·cases h
theorem Q68 (P : Program) (H : Heap) (T : TypeId) (z : AVal) : Q1j (fun H => some (allocA P H T z)) H := by
 intro r h
 simp only [Option.some.injEq] at h
 unfold allocA at h
 split at h
 ·split at h
  ·subst h; exact fun i hi _ => List.getElem?_append_left hi
  ·subst h; exact fun i hi _ => List.getElem?_append_left hi
 ·rename_i hb
  cases hd : dryA z with
  | false => rw [hd] at h; subst h; exact fun i hi _ => List.getElem?_append_left hi
  | true =>
   rw [hd] at h
   subst h
   refine ⟨rfl, z, _, .inl rfl, hd, rfl, rfl, fun H2 _ => ?_⟩
   unfold allocA
   split
   ·rename_i p hp; exact absurd hp (hb p)
   ·rw [hd]; rfl
theorem Q8a {size : Nat} : ∀ {l : List (Nat × AVal)} {z z' : AVal}, (∃ t xs, z = .vec t xs) → Q37 size z l = some z' → dryA z' = true
 | [], z, z', ⟨t, xs, hz⟩, h => by simp only [Q37, Option.some.injEq] at h; subst h; subst hz; rfl
 | (i, x) :: rest, z, z', ⟨t, xs, hz⟩, h => by
  subst hz
  simp only [Q37] at h
  split at h
  ·split at h
   ·obtain ⟨y, h1, h2⟩ := Option.bind_eq_some_iff.1 h
    refine Q8a ?_ h2
    simp only [setF] at h1
    obtain ⟨u, _, h3⟩ := Option.bind_eq_some_iff.1 h1
    cases h3
    exact ⟨_, _, rfl⟩
   ·cases h
  ·cases h
theorem Qb6 (P : Program) (sl : List AVal) (H : Heap) (o : Oper) : Q1j (fun H => Q63 P sl H o) H := by
 obtain ⟨dst, op, type, pos, after, guard⟩ := o
 simp only [Q63]
 cases op <;> (try exact Q1j.none)
 case move x => exact Q1j.pure1 _
 case assign x => exact Q1j.pure1 _
 case pick c a b => dsimp only; cases Q17 sl c <;> first | exact Q1j.none | exact Q1j.pure1 _
 case alloc T =>
  exact Q1j.bind _ fun z => Q68 P H T z
 case box T x =>
  exact Q1j.ite (Q68 P H T _)
 case build T ps => exact Q1j.bind _ fun z => Q1j.ite (Q1j.bind _ fun v => Q1j.pure1 _)
 case buildSlice T len ps =>
  intro r h
  dsimp only at h
  split at h
  ·split at h
   ·split at h
    ·rename_i hok
     obtain ⟨z, h1, h2⟩ := Option.bind_eq_some_iff.1 h
     cases h2
     refine ⟨rfl, z, _, .inr rfl, Q8a ⟨_, _, rfl⟩ h1, rfl, rfl, fun H2 _ => ?_⟩
     simp only [*, if_true, Option.bind_some]
    ·cases h
   ·cases h
  ·cases h
 case load T a => exact QbB P H T _
 case store T a x => exact Qba P H T _ _
 case nilCheck x => dsimp only; cases Q17 sl x <;> first | exact Q1j.none | exact Q1j.pure1 _
 case binOp op T x y f => exact Q1j.bind _ fun r => Q1j.pur _ _
 case unOp op f x => exact Q1j.bind _ fun v => Q1j.pure1 _
 case convert a b x => exact Q8L P H _ _ _
 case sliceToArrayPointer a x => exact Q9O P H _ _
 case makeFunc f first caps =>
  cases f <;> first | exact Q1j.none | (dsimp only; exact Q1j.ite (Q1j.pure1 _))
 case makeSlice T l c => exact Q7O P H _ _ _
 case slice T x lo hi mx => exact QaA P H _ _ _ _ _
 case fieldAddr S x f => exact Q7F P H _ _ _
 case field S x f => exact Qb9 P H _ _ _
 case indexAddr T x i => exact Q7k P H _ _ _
 case index T x i => exact QaM P H _ _ _
 case extract t i => dsimp only; cases Q17 sl t <;> first | exact Q1j.none | exact Q1j.bind _ fun v => Q1j.pure1 _
 case call c =>
  obtain ⟨callee, args, argTypes⟩ := c
  cases callee <;> (try exact Q1j.none)
  rename_i b
  cases b <;> (try exact Q1j.none)
  case append =>
   dsimp only
   cases argTypes.toList with
   | nil => exact Q1j.none
   | cons S l => cases l with
    | nil => exact Q1j.none
    | cons X l2 => cases args.toList with
     | nil => exact Q1j.none
     | cons s l3 => cases l3 with
      | nil => exact Q1j.none
      | cons x l4 => exact Q9P P H _ _ _ _
  case len =>
   dsimp only
   cases argTypes.toList with
   | nil => exact Q1j.none
   | cons S l => cases args.toList with
     | nil => exact Q1j.none
     | cons s l3 => exact QcZ P H _ _
  case copy =>
   dsimp only
   cases argTypes.toList with
   | nil => exact Q1j.none
   | cons S l => cases args.toList with
     | nil => exact Q1j.none
     | cons s l3 => cases l3 with
      | nil => exact Q1j.none
      | cons x l4 => exact QbU P H _ _ _
  case min =>
   dsimp only
   split <;> (try exact Q1j.none)
   all_goals (try simp_all; done)
   cases Q17 sl _ <;> cases Q17 sl _ <;> first | exact Q1j.none | exact Q1j.ite (Q1j.pure1 _)
  case max =>
   dsimp only
   split <;> (try exact Q1j.none)
   all_goals (try simp_all; done)
   cases Q17 sl _ <;> cases Q17 sl _ <;> first | exact Q1j.none | exact Q1j.ite (Q1j.pure1 _)
end Go.Am
namespace Go.Am
open Go
theorem Q5C (P : Program) (w : World) : program.run P w = .ok P w := rfl
theorem QV {P : Program} {T : TypeId} {d : TypeDesc} (h : P.underlying T = some d) (w : World) : (underlying T).run P w = .ok d w := by
 simp only [underlying, run_bind, Q5C, h]; rfl
theorem Q45 {P : Program} {T : TypeId} {i : TypeInfo} (h : P.info? T = some i) (w : World) : (typeInfo T).run P w = .ok i w := by
 simp only [typeInfo, run_bind, Q5C, h]; rfl
theorem Q1E {P : Program} {T : TypeId} {n : Nat} (h : Q20 P T = some n) (w : World) : (sizeOf T).run P w = .ok n w := by
 unfold Q20 at h
 cases hi : P.info? T with
 | none => rw [hi] at h; cases h
 | some i =>
  rw [hi] at h
  simp only [Option.map_some, Option.some.injEq] at h
  subst h
  simp only [sizeOf, run_bind, Q45 hi]; rfl
theorem Q47 {P : Program} {T : TypeId} {b : Bool} (h : Q2W P T = some b) (w : World) : (isAgg T).run P w = .ok b w := by
 unfold Q2W at h
 cases hu : P.underlying T with
 | none => rw [hu] at h; cases h
 | some d =>
  rw [hu] at h
  simp only [isAgg, run_bind, QV hu]
  cases d <;> simp only [Option.some.injEq] at h <;> subst h <;> rfl
theorem Q2T {P : Program} {T : TypeId} {i : TypeInfo} {z : Value} (h : P.info? T = some i) (hz : i.zero = some z) (w : World) : (zeroValue T).run P w = .ok z w := by
 simp only [zeroValue, run_bind, Q45 h, hz]; rfl
theorem QfK {P : Program} {T : TypeId} {d : TypeDesc} (h : P.underlying T = some d) : ∃ b, Q2W P T = some b := by
 unfold Q2W; rw [h]; cases d <;> exact ⟨_, rfl⟩
theorem Q5N {a : AVal} (h : a.isAgg = false) : a.sh = .leaf := by
 cases a <;> first | rfl | cases h
theorem CRel.one {m : Mem} {μ : LMap} {a : AVal} {cs : List Value} (h : CRel m μ a cs) (ha : a.isAgg = false) : ∃ v, cs = [v] := by
 have := h.length
 rw [AVal.size, Q5N ha] at this
 match cs, this with
 | [v], _ => exact ⟨v, rfl⟩
theorem CRel.isTup {m : Mem} {μ : LMap} {a : AVal} {cs : List Value} (h : CRel m μ a cs) : ∀ s, a ≠ .tup s := by
 intro s e; subst e; exact h
theorem CRel.isUndef {m : Mem} {μ : LMap} {a : AVal} {cs : List Value} (h : CRel m μ a cs) : a ≠ .undef := by
 intro e; subst e; exact h
theorem Q5o {m : Mem} {μ : LMap} {a : AVal} {cs : Array Value} (h : CRel m μ a cs.toList) (ha : a.isAgg = true) : VRel m μ a (.agg cs) := by
 cases a <;> first | (cases ha; done) | exact ⟨cs, rfl, h⟩
theorem Q4m {m : Mem} {μ : LMap} {a : AVal} {v : Value} (h : CRel m μ a [v]) (ha : a.isAgg = false) : VRel m μ a v := by
 cases a <;> first | (cases ha; done) | exact h | exact h.elim
theorem Q44 {m : Mem} {μ : LMap} {a : AVal} {v : Value} (h : VRel m μ a v) (ho : Q2K a = true) : CRel m μ a v.cells.toList := by
 cases ha : a.isAgg with
 | true =>
  have : ∃ cs, v = .agg cs ∧ CRel m μ a cs.toList := by
   cases a <;> first | (cases ha; done) | exact h
  obtain ⟨cs, rfl, hc⟩ := this
  exact hc
 | false =>
  have hc : CRel m μ a [v] := by
   cases a <;> first | (cases ha; done) | (cases ho; done) | exact h
  have := hc.flat v (by simp)
  cases v <;> first | exact hc | (cases this; done)
theorem VRel.agg {m : Mem} {μ : LMap} {a : AVal} {v : Value} (h : VRel m μ a v) (ha : a.isAgg = true) : ∃ cs, v = .agg cs ∧ CRel m μ a cs.toList := by
 cases a <;> first | (cases ha; done) | exact h
theorem VRel.one {m : Mem} {μ : LMap} {a : AVal} {v : Value} (h : VRel m μ a v) (ha : a.isAgg = false) (ho : Q2K a = true) : CRel m μ a [v] := by
 cases a <;> first | (cases ha; done) | (cases ho; done) | exact h
theorem Q1i {m : Mem} {μ : LMap} {sl : List AVal} {a : Act} (h : RS m μ sl a) (x : Operand) : VRel m μ (Q17 sl x) (a.eval x) := by
 cases x with
 | tmp t =>
  simp only [Q17, Act.eval]
  rcases Nat.lt_or_ge t sl.length with ht | ht
  ·obtain ⟨v, hv, hr⟩ := h.rel t _ (List.getElem?_eq_getElem ht)
   rw [List.getD_eq_getElem?_getD, List.getElem?_eq_getElem ht]
   rw [Array.getD_eq_getD_getElem?, hv]
   exact hr
  ·rw [List.getD_eq_getElem?_getD, List.getElem?_eq_none ht]
   trivial
 | const v =>
  simp only [Q17, Act.eval]
  unfold absC
  split <;> first | exact rfl | trivial
 | global g => trivial
 | func f => exact ⟨#[], rfl, rfl⟩
theorem VRel.isBool {m : Mem} {μ : LMap} {b : Bool} {v : Value} (h : VRel m μ (.bool b) v) : v = .bool b := (List.cons.inj (h.one rfl rfl)).1
theorem VRel.isInt {m : Mem} {μ : LMap} {k : IntKind} {n : Int} {v : Value} (h : VRel m μ (.int k n) v) : v = .int k n := (List.cons.inj (h.one rfl rfl)).1
def Qg5 (nx : Next) (v : Value) : Prop := nx = .value v ∨ (nx = .skip ∧ v = undef)
def Does (P : Program) (m : Mem) (μ : LMap) (H : Heap) (w : World) (s : Sem Next) (x : AVal) (H' : Heap) : Prop :=
 ∃ nx v w' μ', s.run P w = .ok nx w' ∧ Qg5 nx v ∧ VRel m μ' x v ∧ Post m μ H w m μ' H' w'
theorem Does.val {P : Program} {m : Mem} {μ : LMap} {H : Heap} {w : World} {s : Sem Value} {x : AVal} {v : Value} (rh : RH m μ H w) (hr : s.run P w = .ok v w) (hx : VRel m μ x v) :
  Does P m μ H w (do pure (.value (← s))) x H :=
 ⟨.value v, v, w, μ, by simp only [run_bind, hr]; rfl, .inl rfl, hx, .refl rh⟩
theorem Does.pureV {P : Program} {m : Mem} {μ : LMap} {H : Heap} {w : World} {x : AVal} {v : Value} (rh : RH m μ H w) (hx : VRel m μ x v) :
  Does P m μ H w (pure (.value v)) x H :=
 ⟨.value v, v, w, μ, rfl, .inl rfl, hx, .refl rh⟩
theorem Qfi : ∀ {a b : Value}, beqV a b = true → a = b := by
 intro a b h
 unfold beqV at h
 split at h
 ·simp only [Bool.and_eq_true, decide_eq_true_eq] at h
  rw [h.1, h.2]
 ·rw [beq_iff_eq] at h; rw [h]
 ·simp only [Bool.and_eq_true, beq_iff_eq] at h
  rename_i s s'
  have e1 : s = ByteArray.empty := by simpa using h.1
  have e2 : s' = ByteArray.empty := by simpa using h.2
  rw [e1, e2]
 ·rfl
 ·rfl
 ·cases h
theorem QaQ : ∀ {l r : List Value}, beqL l r = true → l = r
 | [], [], _ => rfl
 | a :: l, b :: r, h => by
  simp only [beqL, Bool.and_eq_true] at h
  rw [Qfi h.1, QaQ h.2]
 | [], _ :: _, h | _ :: _, [], h => by simp [beqL] at h
theorem Q5l {α : Type} (n i : Nat) (z d : α) (h : i < n) : (List.replicate n z).getD i d = z := by
 rw [List.getD_eq_getElem?_getD, List.getElem?_replicate, if_pos h]; rfl
theorem Q2M (t : List Value) (s : Nat) (hs : t.length = s) : ∀ (n i : Nat), i < n → (((List.replicate n t).flatten).drop (i * s)).take s = t
 | 0, _, h => absurd h (Nat.not_lt_zero _)
 | n + 1, 0, _ => by
  simp only [List.replicate_succ, List.flatten_cons, Nat.zero_mul, List.drop_zero]
  rw [List.take_append_of_le_length (by omega), ← hs, List.take_length]
 | n + 1, i + 1, h => by
  simp only [List.replicate_succ, List.flatten_cons]
  rw [Nat.add_mul, Nat.one_mul, Nat.add_comm, ← List.drop_drop, List.drop_append_of_le_length (by omega), ← hs, List.drop_length, List.nil_append, hs]
  exact Q2M t s hs n i (by omega)
theorem Q2U (m : Mem) : ∀ (t : Ty), DRel m t t.zero (Q3q t)
 | .int _ => rfl
 | .bool => rfl
 | .str => rfl
 | .unit => rfl
 | .pair a b => by
  have ha := Q2U m a
  have hb := Q2U m b
  have hl := ha.length
  refine ⟨?_, ?_⟩
  ·simp only [Q3q, Ty.zero]; rw [List.take_append_of_le_length (by omega), ← hl, List.take_length]; exact ha
  ·simp only [Q3q, Ty.zero]; rw [List.drop_append_of_le_length (by omega), ← hl, List.drop_length]; exact hb
 | .arr n t => by
  have ht := Q2U m t
  have hl := ht.length
  refine ⟨by simp [Ty.zero], by simp [Q3q, hl, List.length_flatten], fun i hi => ?_⟩
  simp only [Q3q, Ty.zero]
  rw [Q2M _ _ hl n i hi, Q5l _ _ _ _ hi]
  exact ht
 | .sl _ => ⟨none, 0, rfl, Nat.le_refl _, fun i hi => absurd hi (Nat.not_lt_zero i)⟩
theorem Q94 {m : Mem} {μ : LMap} {g : TypeId → List Value → Option AVal} {sz : TypeId → Nat} (hg : ∀ T cs a, g T cs = some a → CRel m μ a cs) :
  ∀ (fs : List Field) (cs : List Value) (a : AVal), absL g sz fs cs = some a → CRel m μ a cs ∧ a.isAgg = true
 | [], [], a, h => by simp only [absL, Option.some.injEq] at h; subst h; exact ⟨rfl, rfl⟩
 | [], _ :: _, a, h => by simp [absL] at h
 | f :: fs, cs, a, h => by
  simp only [absL] at h
  cases h1 : g f.type (cs.take (sz f.type)) with
  | none => rw [h1] at h; cases h
  | some x =>
   rw [h1] at h
   simp only [Option.bind_some] at h
   cases h2 : absL g sz fs (cs.drop (sz f.type)) with
   | none => rw [h2] at h; cases h
   | some y =>
    rw [h2] at h
    simp only [Option.bind_some, Option.some.injEq] at h
    subst h
    refine ⟨?_, rfl⟩
    have hx := hg _ _ _ h1
    have hy := (Q94 hg fs _ _ h2).1
    have hl := hx.length
    simp only [List.length_take] at hl
    simp only [CRel]
    rcases Nat.lt_or_ge cs.length (sz f.type) with hlt | hge
    ·rw [Nat.min_eq_right (by omega)] at hl
     rw [List.take_of_length_le (by omega)] at hx
     rw [List.drop_eq_nil_of_le (by omega)] at hy
     rw [List.take_of_length_le (by omega), List.drop_eq_nil_of_le (by omega)]
     exact ⟨hx, hy⟩
    ·rw [Nat.min_eq_left hge] at hl
     rw [← hl]; exact ⟨hx, hy⟩
theorem Q95 {m : Mem} {μ : LMap} {P : Program} : ∀ (n : Nat) (T : TypeId) (cs : List Value) (a : AVal), absZ P n T cs = some a → CRel m μ a cs
 | 0, _, _, _, h => by simp [absZ] at h
 | n + 1, T, cs, a, h => by
  simp only [absZ] at h
  split at h
  ·exact (Q94 (fun T cs a => Q95 n T cs a) _ _ _ h).1
  ·rename_i len e _
   cases ht : tyOf P n e with
   | none => rw [ht] at h; cases h
   | some t =>
    rw [ht] at h
    simp only [Option.bind_some] at h
    split at h
    ·rename_i hb
     cases h
     rw [QaQ hb]
     exact Q2U m (.arr len t)
    ·cases h
  ·split at h <;> first | (cases h; done) | (cases h; exact rfl)
  ·cases h
theorem Q7x {m : Mem} {μ : LMap} {P : Program} {T : TypeId} {a : AVal} (h : Q5u P T = some a) :
  ∃ i z, P.info? T = some i ∧ i.zero = some z ∧ CRel m μ a z.cells.toList := by
 unfold Q5u at h
 cases hi : P.info? T with
 | none => rw [hi] at h; cases h
 | some i =>
  rw [hi] at h
  simp only at h
  cases hz : i.zero with
  | none => rw [hz] at h; cases h
  | some z =>
   rw [hz] at h
   exact ⟨i, z, rfl, hz, Q95 _ _ _ _ h⟩
theorem Q7A {t : Ty} (xs ys : List t.den) : (AVal.vec t xs).isVb = (AVal.vec t ys).isVb := by
 cases t with
 | int k => cases k <;> rfl
 | _ => rfl
theorem QaU {a x a' : AVal} {i : Nat} (h : setF a i x = some a') : a'.isVb = a.isVb := by
 cases a with
 | pair a b =>
  cases i with
  | zero => simp only [setF, Option.some.injEq] at h; subst h; rfl
  | succ i => simp only [setF, Option.bind_eq_some_iff, Option.some.injEq] at h; obtain ⟨y, _, h⟩ := h; subst h; rfl
 | arr n t xs => simp only [setF, Option.bind_eq_some_iff, Option.some.injEq] at h; obtain ⟨y, _, h⟩ := h; subst h; rfl
 | vec t xs => simp only [setF, Option.bind_eq_some_iff, Option.some.injEq] at h; obtain ⟨y, _, h⟩ := h; subst h; exact Q7A _ _
 | _ => simp [setF] at h
theorem Q6O {c x c' : AVal} : ∀ {p : List Nat}, setP c p x = some c' → x.isVb = false → c'.isVb = true → c.isVb = true
 | [], h, hx, hv => by
  simp only [setP, Option.some.injEq] at h
  subst h
  rw [hx] at hv; cases hv
 | i :: p, h, _, hv => by
  simp only [setP, Option.bind_eq_some_iff] at h
  obtain ⟨y, _, z, _, h⟩ := h
  rw [← QaU h]; exact hv
theorem Qf2 {c x y c' : AVal} {p : List Nat} (hg : getP c p = some y) (h : setP c p x = some c') (hx : x.isVb = y.isVb) : c'.isVb = true → c.isVb = true := by
 cases p with
 | nil =>
  simp only [setP, Option.some.injEq] at h
  simp only [getP, Option.some.injEq] at hg
  subst h; subst hg
  rw [hx]; exact id
 | cons i p =>
  simp only [setP, Option.bind_eq_some_iff] at h
  obtain ⟨y, _, z, _, h⟩ := h
  rw [← QaU h]; exact id
theorem Qa2 {a : AVal} (h : Q2K a = true) : a.isVb = false := by
 cases a <;> first | rfl | (cases h; done)
theorem Q7v {P : Program} {e : TypeId} {t : Ty} {xs : List t.den} (h : Q99 P e = some t) (hv : (AVal.vec t xs).isVb = true) : e = 5 := by
 unfold Q99 at h
 obtain ⟨t', _, h⟩ := Option.bind_eq_some_iff.1 h
 split at h
 ·rename_i hok
  cases h
  cases t with
  | int k => cases k <;> first | (cases hv; done) | simpa [vbOK] using hok
  | _ => cases hv
 ·cases h
theorem Qfz {P : Program} : ∀ {n : Nat} {T : TypeId} {cs : List Value} {a : AVal}, absZ P n T cs = some a → a.isVb = false
 | 0, _, _, _, h => by simp [absZ] at h
 | n + 1, T, cs, a, h => by
  simp only [absZ] at h
  split at h
  ·rename_i fs _
   cases hf : fs.toList with
   | nil =>
    rw [hf] at h
    cases cs with
    | nil => simp only [absL, Option.some.injEq] at h; subst h; rfl
    | cons _ _ => simp [absL] at h
   | cons f l =>
    rw [hf] at h
    simp only [absL, Option.bind_eq_some_iff, Option.some.injEq] at h
    obtain ⟨x, _, y, _, h⟩ := h
    subst h; rfl
  ·obtain ⟨t, _, h⟩ := Option.bind_eq_some_iff.1 h
   split at h
   ·cases h; rfl
   ·cases h
  ·split at h <;> first | (cases h; rfl) | (cases h; done)
  ·cases h
theorem Qef {P : Program} {T : TypeId} {a : AVal} (h : Q5u P T = some a) : a.isVb = false := by
 unfold Q5u at h
 split at h
 ·split at h
  ·exact Qfz h
  ·cases h
 ·cases h
theorem Q97 {P : Program} (T : TypeId) (v : Value) (w : World) : (newVar T v).run P w = .ok ⟨w.heap.size, 0, none⟩ { w with heap := w.heap.push (.cells v.cells T) } := rfl
theorem Q4f {P : Program} (T : TypeId) (cs : Array Value) (w : World) : (newRow T cs).run P w = .ok ⟨w.heap.size, 0, none⟩ { w with heap := w.heap.push (.cells cs T) } := rfl
theorem Does.newVar {P : Program} {m : Mem} {μ : LMap} {H : Heap} {w : World} {x : AVal} {v : Value} (T : TypeId) (rh : RH m μ H w) (hx : CRel m μ x v.cells.toList) (hv : x.isVb = false) :
  Does P m μ H w (do pure (.value (← (do pure (.pointer (some (← Go.newVar T v))) : Sem Value)))) (.ptr H.length []) (H ++ [some x]) := by
 have hl := hx.length
 simp only [AVal.size] at hl
 have hp := rh.push (a := x) (cs := v.cells) (E := T) (fz := (0, 0)) (dr := w.drawn) (by simpa using Nat.le_of_eq hl.symm) (fun j _ h => by omega) (by rw [← hl, List.take_length]; exact hx) (fun h => by rw [hv] at h; cases h)
 refine ⟨.value (.pointer (some ⟨w.heap.size, 0, none⟩)), .pointer (some ⟨w.heap.size, 0, none⟩), _, _, ?_, .inl rfl, ?_, hp⟩
 ·simp only [run_bind, Q97]; rfl
 ·exact ⟨_, 0, x.sh, by simp; rfl, rfl, rfl⟩
theorem QbA (cs : List Value) (o n : Nat) : Q1B cs o ((cs.drop o).take n) = cs := by
 unfold Q1B
 rw [List.length_take, List.length_drop]
 apply List.ext_getElem?
 intro i
 simp only [List.append_assoc]
 by_cases h1 : i < o
 ·by_cases h2 : i < cs.length
  ·rw [List.getElem?_append_left (by simp; omega), List.getElem?_take, if_pos h1]
  ·rw [List.getElem?_eq_none (by simp; omega), List.getElem?_eq_none (by omega)]
 ·by_cases h3 : o ≤ cs.length
  ·rw [List.getElem?_append_right (by simp; omega), List.length_take, Nat.min_eq_left h3]
   by_cases h2 : i - o < min n (cs.length - o)
   ·rw [List.getElem?_append_left (by simp; omega), List.getElem?_take, if_pos (by omega), List.getElem?_drop, show o + (i - o) = i by omega]
   ·rw [List.getElem?_append_right (by simp; omega), List.length_take, List.length_drop, List.getElem?_drop]
    congr 1
    omega
  ·rw [List.getElem?_eq_none (by simp; omega), List.getElem?_eq_none (by omega)]
theorem QdI {m : Mem} {μ : LMap} {n : Nat} {T : TypeId} {l l2 : Loc} (hl : μ n = some l) (hE : l.E = T) (h0 : l.off = 0) (ht : l.tot = l.sh.size) (hp : 0 < l.tot) (hl2 : μ (n + 1) = some l2) (hs2 : l2.sh = .arr 0 (.int .u8)) {a a' : AVal} (hs : l.sh = a.sh) {p : List Nat} (h : Qa9 n T a p = some a') {cs : List Value} (hc : CRel m μ a cs) :
  a'.sh = a.sh ∧ CRel m μ a' cs := by
 unfold Qa9 at h
 split at h
 ·rename_i os r ho hg
  obtain ⟨o, s⟩ := os
  obtain ⟨hle, x, hx, hxs, hxr⟩ := Q2q hc ho
  rw [hg] at hx
  cases hx
  have h2 : CRel m μ (.pair (.sfp n p T) (.pair (.vbs (n + 1)) r)) ((cs.drop o).take s.size) := by
   simp only [CRel, AVal.size, AVal.sh, Sh.size] at hxr ⊢
   exact ⟨⟨l, o, s, hl, hE, h0, ht, hp, by rw [hs]; exact ho, .inl hxr.1⟩, ⟨l2, 0, none, 0, hl2, hs2, Nat.le_refl _, hxr.2.1, .inr ⟨rfl, rfl⟩⟩, hxr.2.2⟩
  have h3 : (AVal.pair (.sfp n p T) (.pair (.vbs (n + 1)) r)).sh = s := hxs
  have := Q4L hc ho h2 h3 h
  rw [QbA] at this
  exact this
 ·cases h
theorem QeD {n : Nat} {T : TypeId} {a a' : AVal} {p : List Nat} (h : Qa9 n T a p = some a') : a'.isVb = true → a.isVb = true := by
 unfold Qa9 at h
 split at h
 ·exact Q6O h rfl
 ·cases h
theorem Qe9 {m : Mem} {μ μ1 μ2 : LMap} {H : Heap} {w w1 : World} {x z' : AVal} {p : List Nat} {T : TypeId} {l : Loc} {cs : List Value} (hp : Post m μ H w m μ1 (H ++ [some x]) w1)
  (hp2 : Post m μ1 (H ++ [some x]) w1 m μ2 (H ++ [some x] ++ [some (.vec (.int .u8) [])]) w1) (hl : μ1 H.length = some l) (hE : l.E = T) (h0 : l.off = 0) (ht : l.tot = l.sh.size) (hpos : 0 < l.tot) (hs : l.sh = x.sh) (hx : CRel m μ x cs) (hz' : Qa9 H.length T x p = some z') :
  Post m μ H w m μ2 (H ++ [some z', some (.vec (.int .u8) [])]) w1 ∧ μ2 H.length = some l := by
 have hi : (H ++ [some x] ++ [some (AVal.vec (.int .u8) [])])[H.length]? = some (some x) := by
  rw [List.getElem?_append_left (by simp), List.getElem?_append_right (Nat.le_refl _)]; simp
 have hl1 := hp2.μl _ _ hl
 obtain ⟨l2, hb2⟩ := hp2.rh.blk (H.length + 1) (.vec (.int .u8) []) (by rw [List.getElem?_append_right (by simp)]; simp)
 have hm : ∀ cs, CRel m μ2 x cs → z'.sh = x.sh ∧ CRel m μ2 z' cs := fun cs hc => QdI hl1 hE h0 ht hpos hb2.loc hb2.sh hs hz' hc
 have hr := hp2.rh.recast hi (hm _ (hx.mono (Mem.le_refl m) (LMap.le_trans hp.μl hp2.μl))).1 (fun cs hc => (hm cs hc).2) (QeD hz')
 have hset : (H ++ [some x] ++ [some (AVal.vec (.int .u8) [])]).set H.length (some z') = H ++ [some z', some (.vec (.int .u8) [])] := by
  rw [List.append_assoc, List.set_append_right _ _ (Nat.le_refl _), Nat.sub_self]; rfl
 rw [hset] at hr
 exact ⟨(hp.trans hp2).trans hr, hl1⟩
theorem Does.allocA {P : Program} {m : Mem} {μ : LMap} {H : Heap} {w : World} {x : AVal} {v : Value} (T : TypeId) (rh : RH m μ H w) (hx : CRel m μ x v.cells.toList) (hv : x.isVb = false) :
  Does P m μ H w (do pure (.value (← (do pure (.pointer (some (← Go.newVar T v))) : Sem Value)))) (allocA P H T x).v (allocA P H T x).H := by
 unfold Am.allocA
 split
 ·rename_i p hps
  split
  ·rename_i z' hz'
   have hz : x.sh.size ≠ 0 := by
    intro h0
    rw [h0] at hps
    simp at hps
   have hl := hx.length
   simp only [AVal.size] at hl
   have hp := rh.push (a := x) (cs := v.cells) (E := T) (fz := (0, 0)) (dr := w.drawn) (by simpa using Nat.le_of_eq hl.symm) (fun j _ h => by omega) (by rw [← hl, List.take_length]; exact hx) (fun h => by rw [hv] at h; cases h)
   have hsz : v.cells.size = x.sh.size := by simpa using hl
   have hp2 := hp.rh.phantom (a := .vec (.int .u8) []) (by simp [AVal.sh, Sh.size]) (by show DRel m (.arr _ (.int .u8)) _ _; simp [DRel]) 0
   have hlen : (H ++ [some x]).length = H.length + 1 := by simp
   rw [hlen] at hp2
   obtain ⟨hfin, hl1⟩ := Qe9 (l := ⟨w.heap.size, 0, x.sh, v.cells.size, T⟩) hp hp2 (if_pos rfl) rfl rfl hsz (show 0 < v.cells.size by omega) rfl hx hz'
   refine ⟨.value (.pointer (some ⟨w.heap.size, 0, none⟩)), .pointer (some ⟨w.heap.size, 0, none⟩), _, _, ?_, .inl rfl, ?_, hfin⟩
   ·simp only [run_bind, Q97]; rfl
   ·exact ⟨⟨w.heap.size, 0, x.sh, v.cells.size, T⟩, 0, x.sh, hl1, rfl, rfl⟩
  ·exact Does.newVar T rh hx hv
 ·exact Does.newVar T rh hx hv
theorem Qaj {P : Program} {T : TypeId} {x : AVal} (h : fitT P T x = true) : Q2W P T = some x.isAgg ∧ Q20 P T = some x.size := by
 simp only [fitT, Bool.and_eq_true, beq_iff_eq] at h; exact h
theorem Q5p {P : Program} {m : Mem} {μ : LMap} {w : World} {T : TypeId} {x : AVal} {b o : Nat} {cs : Array Value} {E : TypeId} {fz : Nat × Nat} (hT : fitT P T x = true)
  (hb : w.heap[b]? = some (.cells cs E fz)) (hle : o + x.size ≤ cs.size) (hx : CRel m μ x ((cs.toList.drop o).take x.size)) :
  ∃ v, (loadVar T ⟨b, o, none⟩).run P w = .ok v w ∧ VRel m μ x v := by
 obtain ⟨h1, h2⟩ := Qaj hT
 cases ha : x.isAgg with
 | true =>
  rw [ha] at h1
  refine ⟨.agg ((cs.toList.drop o).take x.size).toArray, ?_, Q5o (by simpa using hx) ha⟩
  simp only [loadVar, run_bind, Q47 h1, Q1E h2, if_true, Q4F hb hle]; rfl
 | false =>
  rw [ha] at h1
  obtain ⟨v, hv⟩ := hx.one ha
  have hs : x.size = 1 := by rw [AVal.size, Q5N ha]; rfl
  rw [hs] at hv hle
  refine ⟨v, ?_, Q4m (by rw [← hv, ← hs]; exact hx) ha⟩
  have hc : w.cell? ⟨b, o, none⟩ = some v := by
   rw [Q5V hb]
   have := congrArg (·[0]?) hv
   simpa [List.getElem?_take, List.getElem?_drop] using this
  simp only [loadVar, run_bind, Q47 h1]
  exact Q7S hc
theorem Q3e {m : Mem} {μ : LMap} {H : Heap} {w : World} (rh : RH m μ H w) {id : Nat} {c x : AVal} {p : List Nat} {l : Loc} {o : Nat} {s : Sh} (hi : H[id]? = some (some c)) (hg : getP c p = some x)
  (hl : μ id = some l) (ho : l.sh.offP p = some (o, s)) :
  x.sh = s ∧ c.sh = l.sh ∧ o + s.size ≤ l.sh.size ∧ (0 < s.size → 0 < l.tot ∧ m l.b = none ∧ ∃ cs E fz, w.heap[l.b]? = some (.cells cs E fz) ∧ cs.size = l.tot ∧ (∀ j, j < l.tot → ¬ (fz.1 ≤ j ∧ j < fz.2)) ∧ l.off + l.sh.size ≤ cs.size ∧
   CRel m μ c ((cs.toList.drop l.off).take l.sh.size) ∧ CRel m μ x ((cs.toList.drop (l.off + o)).take s.size)) := by
 obtain ⟨l', hb⟩ := rh.blk id c hi
 have : l' = l := Option.some.inj (hb.loc.symm.trans hl)
 subst this
 rw [hb.sh] at ho
 rcases hb.cells with ⟨p1, p2, p3, p4⟩ | ⟨p0, gm, cs, E, fz, g1, g2, g3, g4, g5⟩
 ·obtain ⟨hle, x', hx', hs, hr⟩ := Q2q p4 ho
  rw [hg] at hx'; cases hx'
  exact ⟨hs, hb.sh.symm, by rw [hb.sh]; exact hle, fun h0 => by omega⟩
 ·obtain ⟨hle, x', hx', hs, hr⟩ := Q2q g5 ho
  rw [hg] at hx'; cases hx'
  rw [Q1L _ _ _ _ _ hle] at hr
  refine ⟨hs, hb.sh.symm, by rw [hb.sh]; exact hle, fun _ => ⟨p0, gm, cs, E, fz, g1, g2, g3, by rw [hb.sh, g2]; exact g4, by rw [hb.sh]; exact g5, hr⟩⟩
theorem Q3s {m : Mem} {b o n : Nat} {c : List Value} (h : m.cells b o n = some c) : ∃ cs, m b = some cs ∧ o + n ≤ cs.size ∧ c = (cs.toList.drop o).take n := by
 unfold Mem.cells at h
 cases hm : m b with
 | none => rw [hm] at h; cases h
 | some cs =>
  rw [hm] at h
  simp only at h
  split at h
  ·exact ⟨cs, rfl, ‹_›, (Option.some.inj h).symm⟩
  ·cases h
theorem Q4W {H : Heap} {id : Nat} {p : List Nat} {x : AVal} (h : Q2X H id p = some x) : ∃ c, H[id]? = some (some c) ∧ getP c p = some x := by
 unfold Q2X at h
 split at h
 ·exact ⟨_, ‹_›, h⟩
 ·cases h
theorem QfQ {x : AVal} {T : TypeId} {P : Program} (_ : fitT P T x = true) : x.size = 0 ∨ 0 < x.size := by omega
theorem Q4B {P : Program} {m : Mem} {μ : LMap} {w : World} {T : TypeId} {x : AVal} {a : Addr} (hT : fitT P T x = true) (h0 : x.size = 0) (hx : CRel m μ x []) :
  ∃ v, (loadVar T a).run P w = .ok v w ∧ VRel m μ x v := by
 obtain ⟨h1, h2⟩ := Qaj hT
 cases ha : x.isAgg with
 | true =>
  rw [ha] at h1
  rw [h0] at h2
  refine ⟨.agg #[], ?_, Q5o (by simpa using hx) ha⟩
  simp only [loadVar, run_bind, Q47 h1, Q1E h2, if_true, loadCells, loadCellsFrom]; rfl
 | false => rw [AVal.size, Q5N ha] at h0; cases h0
theorem QcH {m : Mem} {μ : LMap} {H : Heap} {w : World} (rh : RH m μ H w) {id : Nat} {c x : AVal} {p : List Nat} {l : Loc} {o : Nat} {s : Sh} (hi : H[id]? = some (some c)) (hg : getP c p = some x)
  (hl : μ id = some l) (ho : l.sh.offP p = some (o, s)) (h0 : s.size = 0) : CRel m μ x [] := by
 obtain ⟨l', hb⟩ := rh.blk id c hi
 have : l' = l := Option.some.inj (hb.loc.symm.trans hl)
 subst this
 rw [hb.sh] at ho
 have key : ∀ cs, CRel m μ c cs → CRel m μ x [] := by
  intro cs hc
  obtain ⟨hle, x', hx', hs, hr⟩ := Q2q hc ho
  rw [hg] at hx'; cases hx'
  rw [h0] at hr
  simpa using hr
 rcases hb.cells with ⟨p1, p2, p3, p4⟩ | ⟨p0, gm, cs, E, fz, g1, g2, g3, g4, g5⟩
 ·exact key _ p4
 ·exact key _ g5
theorem Q9i {P : Program} {m : Mem} {μ : LMap} {H : Heap} {w : World} {T : TypeId} {a : AVal} {v : Value} {r : Res} (rh : RH m μ H w) (hv : VRel m μ a v) (h : Qau P H T a = some r) :
  r.H = H ∧ ∃ u, (Instr.loadAt T v).run P w = .ok u w ∧ VRel m μ r.v u := by
 cases a <;> simp only [Qau] at h <;> try (cases h; done)
 ·rename_i id p
  cases hc : Q2X H id p with
  | none => rw [hc] at h; cases h
  | some x =>
   rw [hc] at h
   simp only [Option.bind_some] at h
   split at h
   ·rename_i hT
    cases h
    obtain ⟨c, hi, hg⟩ := Q4W hc
    have hv' := hv.one rfl rfl
    obtain ⟨l, o, s, hl, ho, he⟩ := hv'
    cases he
    obtain ⟨hs, _, hle, hpos⟩ := Q3e rh hi hg hl ho
    subst hs
    refine ⟨rfl, ?_⟩
    simp only [Instr.loadAt, run_bind, Instr.sureAddr, Q1e]
    rcases Nat.eq_zero_or_pos x.sh.size with h0 | h0
    ·exact Q4B hT h0 (QcH rh hi hg hl ho h0)
    ·obtain ⟨_, _, cs, E, fz, g1, g2, _, g4, _, g6⟩ := hpos h0
     exact Q5p hT g1 (by rw [AVal.size]; omega) g6
   ·cases h
 ·rename_i t x
  split at h
  ·rename_i hT
   cases h
   obtain ⟨ad, c, he, hsp, hm, hd⟩ := hv.one rfl rfl
   cases he
   obtain ⟨cs, hmb, hle, hcc⟩ := Q3s hm
   obtain ⟨E, fz, hb⟩ := rh.mem _ _ hmb
   refine ⟨rfl, ?_⟩
   simp only [Instr.loadAt, run_bind, Instr.sureAddr, Q1e]
   have : ad = ⟨ad.block, ad.off, none⟩ := by cases ad; simp_all
   rw [this]
   have hsz := Q5s t x
   exact Q5p hT hb (by rw [hsz]; exact hle) (by rw [hsz, ← hcc]; exact Q36.2 hd)
  ·cases h
 ·rename_i id p off n
  have key : ∀ {t : Ty} {xs : List t.den} {y : AVal}, Q2X H id p = some y → (∃ N, y.sh = .arr N t ∧ ∀ cs, CRel m μ y cs → DRel m (.arr N t) xs cs) → fitT P T (.arr n t ((xs.drop off).take n)) = true →
    ∃ u, (Instr.loadAt T v).run P w = .ok u w ∧ VRel m μ (.arr n t ((xs.drop off).take n)) u := by
   intro t xs y hc ⟨N, hsh, hdy⟩ hT
   obtain ⟨c, hi, hg⟩ := Q4W hc
   obtain ⟨l, o, N', t', hl, ho, hle', he⟩ := hv.one rfl rfl
   cases he
   obtain ⟨hs, _, hle, hpos⟩ := Q3e rh hi hg hl ho
   rw [hsh] at hs
   cases hs
   simp only [Instr.loadAt, run_bind, Instr.sureAddr, Q1e]
   have hmul : (off + n) * t.size ≤ N * t.size := Nat.mul_le_mul_right _ hle'
   rw [Nat.add_mul] at hmul
   have harr : ∀ cs, DRel m (.arr N t) xs cs → CRel m μ (.arr n t ((xs.drop off).take n)) ((cs.drop (off * t.size)).take (n * t.size)) := by
    intro cs hd
    simp only [DRel] at hd
    obtain ⟨d1, d2, d3⟩ := hd
    simp only [CRel, DRel]
    refine ⟨by simp [d1]; omega, by simp [d2]; omega, fun i hin => ?_⟩
    have e1 : ((xs.drop off).take n).getD i t.zero = xs.getD (off + i) t.zero := by
     simp only [List.getD_eq_getElem?_getD, List.getElem?_take, if_pos hin, List.getElem?_drop]
    rw [e1]
    have hm : (i + 1) * t.size ≤ n * t.size := Nat.mul_le_mul_right _ hin
    rw [Nat.add_mul] at hm
    rw [Q1L _ _ _ _ _ (by omega), ← Nat.add_mul]
    exact d3 _ (by omega)
   rcases Nat.eq_zero_or_pos (n * t.size) with h0 | h0
   ·refine Q4B hT h0 ?_
    have hlen : (N * t.size) = (N * t.size) := rfl
    obtain ⟨l', hb⟩ := rh.blk id c hi
    have : l' = l := Option.some.inj (hb.loc.symm.trans hl)
    subst this
    rw [hb.sh] at ho
    have fin : ∀ cs, CRel m μ c cs → CRel m μ (.arr n t ((xs.drop off).take n)) [] := by
     intro cs hc'
     obtain ⟨_, x', hx', _, hr⟩ := Q2q hc' ho
     rw [hg] at hx'; cases hx'
     have := harr _ (hdy _ hr)
     rw [h0] at this
     simpa using this
    rcases hb.cells with ⟨_, _, _, p4⟩ | ⟨_, _, _, _, _, _, _, _, _, g5⟩
    ·exact fin _ p4
    ·exact fin _ g5
   ·have hN : 0 < N * t.size := by
     have : n * t.size ≤ N * t.size := Nat.mul_le_mul_right _ (by omega)
     omega
    obtain ⟨_, _, cs, E, fz, g1, g2, _, g4, _, g6⟩ := hpos hN
    have := harr _ (hdy _ g6)
    rw [Q1L _ _ _ _ _ (by simp only [Sh.size]; omega)] at this
    simp only [Sh.size] at hle
    exact Q5p (x := .arr n t ((xs.drop off).take n)) hT g1 (by show l.off + o + off * t.size + n * t.size ≤ cs.size; omega) this
  split at h
  ·rename_i N t xs hc
   split at h
   ·rename_i hT
    cases h
    exact ⟨rfl, key hc ⟨N, rfl, fun cs hc => hc⟩ hT⟩
   ·cases h
  ·rename_i t xs hc
   split at h
   ·rename_i hT
    cases h
    exact ⟨rfl, key hc ⟨xs.length, rfl, fun cs hc => hc⟩ hT⟩
   ·cases h
  ·cases h
theorem QaE {P : Program} {T : TypeId} {v : Value} {n : Nat} (hT : Q20 P T = some n) (hn : v.cells.size = n) (a : Addr) (w : World) :
  (storeVar T a v).run P w = (storeCells a v.cells.toList).run P w := by
 simp only [storeVar, run_bind, Q1E hT, hn, ne_eq, not_true_eq_false, if_false]
theorem Qcb {P : Program} {m : Mem} {μ : LMap} {H : Heap} {w : World} (rh : RH m μ H w) {id : Nat} {c x c' : AVal} {p : List Nat} {l : Loc} {o : Nat} {s : Sh} {cells : List Value} (hi : H[id]? = some (some c))
  (hl : μ id = some l) (ho : l.sh.offP p = some (o, s)) (hx : CRel m μ x cells) (hs : x.sh = s) (hset : setP c p x = some c') (hvx : c'.isVb = true → c.isVb = true) :
  ∃ w', (storeCells ⟨l.b, l.off + o, none⟩ cells).run P w = .ok () w' ∧ Post m μ H w m μ (H.set id (some c')) w' := by
 obtain ⟨l', hb⟩ := rh.blk id c hi
 have : l' = l := Option.some.inj (hb.loc.symm.trans hl)
 subst this
 have hlen := hx.length
 simp only [AVal.size] at hlen
 rw [hb.sh] at ho
 rcases hb.cells with ⟨p1, p2, p3, p4⟩ | ⟨p0, gm, cs, E, fz, g1, g2, g3, g4, g5⟩
 ·-- a block of no cells: nothing is written
  obtain ⟨hle, _⟩ := Q2q p4 ho
  have hnil : cells = [] := List.eq_nil_of_length_eq_zero (by rw [hlen, hs]; omega)
  subst hnil
  obtain ⟨q1, q2⟩ := Q4L p4 ho hx hs hset
  refine ⟨w, rfl, ?_⟩
  have hsp : Q1B ([] : List Value) o [] = [] := by simp [Q1B]
  rw [hsp] at q2
  have hil : id < H.length := (List.getElem?_eq_some_iff.1 hi).1
  have look : ∀ {j : Nat} {y : AVal}, (H.set id (some c'))[j]? = some (some y) → (j = id ∧ y = c') ∨ (j ≠ id ∧ H[j]? = some (some y)) := by
   intro j y hj
   by_cases hji : j = id
   ·subst hji; rw [List.getElem?_set_self hil] at hj; exact .inl ⟨rfl, (Option.some.inj (Option.some.inj hj)).symm⟩
   ·rw [List.getElem?_set_ne (Ne.symm hji)] at hj; exact .inr ⟨hji, hj⟩
  have old : ∀ {j : Nat} {y : AVal}, (H.set id (some c'))[j]? = some (some y) → ∃ z, H[j]? = some (some z) := by
   intro j y hj
   rcases look hj with ⟨h1, _⟩ | ⟨_, h1⟩
   ·subst h1; exact ⟨c, hi⟩
   ·exact ⟨y, h1⟩
  refine ⟨⟨rh.mem, ?_, ?_, ?_, ?_, ?_⟩, Mem.le_refl _, LMap.le_refl _, rfl, rfl, rfl, Nat.le_refl _, fun _ _ _ => rfl, ?_, fun _ _ h => .inl h, ⟨by simp, fun _ _ h => h⟩⟩
  ·intro j y hj
   rcases look hj with ⟨h1, h2⟩ | ⟨_, h1⟩
   ·subst h1; subst h2
    exact ⟨l', hl, by rw [hb.sh, q1], .inl ⟨p1, p2, by rw [q1]; exact p3, q2⟩⟩
   ·exact rh.blk j y h1
  ·intro j k y z lj lk hj hk hlj hlk z1 z2 he
   obtain ⟨y', hy'⟩ := old hj
   obtain ⟨z', hz'⟩ := old hk
   exact rh.inj j k y' z' lj lk hy' hz' hlj hlk z1 z2 he
  ·intro j hj; rw [List.length_set] at hj; exact rh.dom j hj
  ·intro j y lj hj hlj hz
   obtain ⟨y', hy'⟩ := old hj
   exact rh.typ j y' lj hy' hlj hz
  ·intro j y lj hj hy hlj hz
   rcases look hj with ⟨h1, h2⟩ | ⟨_, h1⟩
   ·subst h1; subst h2
    exact rh.vb j c lj hi (hvx hy) hlj hz
   ·exact rh.vb j y lj h1 hy hlj hz
  ·rintro b ⟨j, y, lj, hj, hlj, q, he⟩ _
   obtain ⟨y', hy'⟩ := old hj
   exact ⟨j, y', lj, hy', hlj, q, he⟩
 ·obtain ⟨hle, _⟩ := Q2q g5 ho
  obtain ⟨q1, q2⟩ := Q4L g5 ho hx hs hset
  obtain ⟨w', cs', hr, hp, hcs⟩ := Q4h (P := P) (b := l'.b) (l'.off + o) cells 0 w cs g1 (by rw [hlen, hs]; omega) (by rw [g2]; exact g3) hx.flat
  refine ⟨w', hr, ?_⟩
  have hn : cs'.size = cs.size := by
   rw [← Array.length_toList, hcs, Q2g (by simp; rw [hlen, hs]; omega)]; simp
  refine rh.put hi hl p0 g1 hp q1 hn ?_ hvx
  rw [hcs, q1, Nat.add_zero, Q3M (by omega) (by rw [hlen, hs]; omega) (by simp; omega), show l'.off + o - l'.off = o from by omega]
  exact q2
theorem QbG {P : Program} {m : Mem} {μ : LMap} {H : Heap} {w : World} {T : TypeId} {a x : AVal} {v u : Value} {r : Res} (rh : RH m μ H w) (hv : VRel m μ a v) (hu : VRel m μ x u) (h : Q7B P H T a x = some r) :
  r.v = .undef ∧ ∃ w', (Instr.storeAt T v u).run P w = .ok () w' ∧ Post m μ H w m μ r.H w' := by
 cases a <;> simp only [Q7B] at h <;> try (cases h; done)
 rename_i id p
 split at h
 ·rename_i c hi
  cases hg : getP c p with
  | none => rw [hg] at h; cases h
  | some old =>
   rw [hg] at h
   simp only [Option.bind_some] at h
   split at h
   ·rename_i hok
    simp only [Bool.and_eq_true, decide_eq_true_eq, beq_iff_eq] at hok
    obtain ⟨⟨ok, hsh⟩, hsz⟩ := hok
    cases hset : setP c p x with
    | none => rw [hset] at h; cases h
    | some c' =>
     rw [hset] at h
     simp only [Option.bind_some, Option.some.injEq] at h
     subst h
     obtain ⟨l, o, s, hl, ho, he⟩ := hv.one rfl rfl
     cases he
     obtain ⟨hs, _, _, _⟩ := Q3e rh hi hg hl ho
     have hx := Q44 hu ok
     have hlen := hx.length
     obtain ⟨w', hr, hp⟩ := Qcb (P := P) rh hi hl ho hx (by rw [← hsh, hs]) hset (Q6O hset (Qa2 ok))
     refine ⟨rfl, w', ?_, hp⟩
     simp only [Instr.storeAt, run_bind, Instr.sureAddr, Q1e]
     rw [QaE hsz (by simpa using hlen)]
     exact hr
   ·cases h
 ·cases h
end Go.Am
namespace Go.Am
open Go
theorem Qcf {P : Program} {op : BinOp} {k : IntKind} {a b : Int} {r : Bool × AVal} (w : World) (h : binI op k a b = some r) (hv : r.1 = true) :
  ∃ v, (match op with
   | .add | .sub | .mul => Op.intArith op k a b
   | .quo | .rem => Op.intDiv op k a b
   | .and | .or | .xor | .andNot => Op.intBits op k a b
   | _ => Op.intCmp op a b : Sem Value).run P w = .ok v w ∧ ∀ m μ, VRel m μ r.2 v := by
 cases op <;> simp only [binI] at h <;> first | (cases h; done) | cases h
 all_goals (try (exact ⟨_, rfl, fun _ _ => rfl⟩))
 all_goals
  simp only [Bool.not_eq_true', decide_eq_false_iff_not] at hv
  refine ⟨_, by simp only [Op.intDiv, if_neg hv]; rfl, fun _ _ => rfl⟩
theorem QcD {P : Program} {op : BinOp} {a b : ByteArray} {r : Bool × AVal} (w : World) (h : binS op a b = some r) (hv : r.1 = true) :
  ∃ v, (Op.stringOp op a b).run P w = .ok v w ∧ ∀ m μ, VRel m μ r.2 v := by
 cases op <;> simp only [binS] at h <;> first | (cases h; done) | cases h
 all_goals (try (exact ⟨_, rfl, fun _ _ => rfl⟩))
 simp only [Nat.ble_eq] at hv
 refine ⟨.string (a ++ b), ?_, fun _ _ => rfl⟩
 simp only [Op.stringOp]
 rw [if_neg]
 ·rfl
 ·rw [show IntKind.i64.max = 9223372036854775807 from by decide]; omega
theorem Qe3 {P : Program} {op : UnOp} {x y : AVal} {m : Mem} {μ : LMap} {v : Value} (w : World) (h : unA op x = some y) (hx : VRel m μ x v) :
  ∃ u, (Op.unary op v).run P w = .ok u w ∧ VRel m μ y u := by
 cases x <;> cases op <;> simp only [unA] at h <;> first | (cases h; done) | cases h
 all_goals
  have := hx.one rfl rfl
  cases this
  exact ⟨_, rfl, rfl⟩
theorem Qeb {P : Program} {m : Mem} {μ : LMap} {H : Heap} {w : World} {T : TypeId} {ty : TypeId} {x : AVal} {v : Value} {r : Res} {ats : Array TypeId} {as : Array Value} (rh : RH m μ H w) (hx : VRel m μ x v) (h : lenA P H T x = some r)
  (hT : ats[0]? = some T) (hA : as[0]? = some v) : r.H = H ∧ ∃ u, (Builtin.len_ ats ty as).run P w = .ok u w ∧ VRel m μ r.v u := by
 unfold lenA at h
 split at h
 ·rename_i s hu
  cases h
  have := hx.one rfl rfl; cases this
  exact ⟨rfl, _, by simp only [Builtin.len_, hT, hA, run_bind, QV hu]; rfl, rfl⟩
 ·rename_i e t xs hu
  cases h
  obtain ⟨a, cap, he, _⟩ := hx.one rfl rfl
  cases he
  exact ⟨rfl, _, by simp only [Builtin.len_, hT, hA, run_bind, QV hu]; rfl, rfl⟩
 ·rename_i e id p off len hu
  cases h
  obtain ⟨l, o, n, t, a, cap, _, _, _, _, he, _⟩ := hx.one rfl rfl
  cases he
  exact ⟨rfl, _, by simp only [Builtin.len_, hT, hA, run_bind, QV hu]; rfl, rfl⟩
 ·rename_i e id hu
  split at h
  ·rename_i t xs hi
   cases h
   obtain ⟨l, n, t', a, cap, hl, hs, _, he, _⟩ := hx.one rfl rfl
   cases he
   obtain ⟨l', hb⟩ := rh.blk _ _ hi
   have : l' = l := Option.some.inj (hb.loc.symm.trans hl)
   subst this
   have hsh := hb.sh
   rw [hs] at hsh
   cases hsh
   exact ⟨rfl, _, by simp only [Builtin.len_, hT, hA, run_bind, QV hu]; rfl, rfl⟩
  ·cases h
 ·rename_i e id hu
  split at h
  ·rename_i t xs hi
   cases h
   obtain ⟨l, n, a, cap, hl, hs, _, he, _⟩ := hx.one rfl rfl
   cases he
   obtain ⟨l', hb⟩ := rh.blk _ _ hi
   have : l' = l := Option.some.inj (hb.loc.symm.trans hl)
   subst this
   have hsh := hb.sh
   rw [hs] at hsh
   cases hsh
   exact ⟨rfl, _, by simp only [Builtin.len_, hT, hA, run_bind, QV hu]; rfl, rfl⟩
  ·cases h
 ·rename_i e hu
  cases h
  have := hx.one rfl rfl; cases this
  exact ⟨rfl, _, by simp only [Builtin.len_, hT, hA, run_bind, QV hu]; rfl, rfl⟩
 ·rename_i x n e hu
  cases h
  refine ⟨rfl, .int .i64 n, ?_, rfl⟩
  simp only [Builtin.len_, hT, hA, run_bind, QV hu]
  rfl
 ·rename_i a x hu
  split at h
  ·rename_i n e hu2
   cases h
   refine ⟨rfl, .int .i64 n, ?_, rfl⟩
   simp only [Builtin.len_, hT, hA, run_bind, QV hu]
   cases v <;> simp only [QV hu2] <;> rfl
  ·cases h
 ·cases h
theorem Q5h {m : Mem} {μ : LMap} {H : Heap} {w : World} (rh : RH m μ H w) {id : Nat} {p : List Nat} {x : AVal} {l : Loc} {o : Nat} {s : Sh} (hc : Q2X H id p = some x) (hl : μ id = some l) (ho : l.sh.offP p = some (o, s)) : x.sh = s := by
 obtain ⟨c, hi, hg⟩ := Q4W hc
 exact (Q3e rh hi hg hl ho).1
theorem Q5M : ∀ {s : Sh} {p : List Nat} {o : Nat} {s1 : Sh} (i : Nat) {o2 : Nat} {s2 : Sh}, s.offP p = some (o, s1) → s1.fieldOff i = some (o2, s2) → s.offP (p ++ [i]) = some (o + o2, s2)
 | s, [], o, s1, i, o2, s2, h, h2 => by
  simp only [Sh.offP, Option.some.injEq, Prod.mk.injEq] at h
  obtain ⟨rfl, rfl⟩ := h
  simp [Sh.offP, h2]
 | s, j :: p, o, s1, i, o2, s2, h, h2 => by
  simp only [Sh.offP] at h
  cases hf : s.fieldOff j with
  | none => rw [hf] at h; cases h
  | some r =>
   rw [hf] at h
   simp only [Option.bind_some] at h
   cases hp : r.2.offP p with
   | none => rw [hp] at h; cases h
   | some q =>
    rw [hp] at h
    simp only [Option.bind_some, Option.some.injEq, Prod.mk.injEq] at h
    obtain ⟨rfl, rfl⟩ := h
    have := Q5M (s := r.2) (p := p) i (o := q.1) (s1 := q.2) hp h2
    simp only [List.cons_append, Sh.offP, hf, Option.bind_some, this]
    simp [Nat.add_assoc]
theorem Q8f {P : Program} {S : TypeId} {fs : Array Field} {f : Nat} {fd : Field} {n b o : Nat} (hu : P.underlying S = some (.struct fs)) (hf : fs[f]? = some fd) (hs : Q20 P fd.type = some n) (hn : n ≠ 0) (w : World) :
  (Instr.fieldAt S (.pointer (some ⟨b, o, none⟩)) f).run P w = .ok (.pointer (some ⟨b, o + fd.offset, none⟩)) w := by
 simp only [Instr.fieldAt, run_bind, QV hu, hf, Instr.sureAddr, Q1e, fieldPlace, Q1E hs, hn, if_false, Q3Z]
theorem Q8J {m : Mem} : ∀ {t : Ty} {x : t.den} {f : Nat} {o : Nat} {s : Sh} {t' : Ty} {y : t'.den} {cs : List Value}, DRel m t x cs → t.sh.fieldOff f = some (o, s) → Q7K t x f = some ⟨t', y⟩ →
  t'.sh = s ∧ o + t'.size ≤ t.size ∧ DRel m t' y ((cs.drop o).take t'.size)
 | .pair a b, x, 0, o, s, t', y, cs, hd, hf, h => by
  simp only [Ty.sh, Sh.fieldOff, Option.some.injEq, Prod.mk.injEq] at hf
  obtain ⟨rfl, rfl⟩ := hf
  simp only [Q7K, Option.some.injEq] at h
  cases h
  exact ⟨rfl, by simp [Ty.size], by simpa using hd.1⟩
 | .pair a b, x, f + 1, o, s, t', y, cs, hd, hf, h => by
  simp only [Ty.sh, Sh.fieldOff] at hf
  cases hb : b.sh.fieldOff f with
  | none => rw [hb] at hf; cases hf
  | some r =>
   rw [hb] at hf
   simp only [Option.bind_some, Option.some.injEq, Prod.mk.injEq] at hf
   obtain ⟨rfl, rfl⟩ := hf
   simp only [Q7K] at h
   obtain ⟨h1, h2, h3⟩ := Q8J (o := r.1) (s := r.2) hd.2 hb h
   rw [List.drop_drop] at h3
   refine ⟨h1, by simp only [Ty.size, Ty.sh_size]; omega, by rw [Ty.sh_size]; exact h3⟩
 | .int _, _, _, _, _, _, _, _, _, _, h | .bool, _, _, _, _, _, _, _, _, _, h | .str, _, _, _, _, _, _, _, _, _, h | .unit, _, _, _, _, _, _, _, _, _, h | .arr _ _, _, _, _, _, _, _, _, _, _, h | .sl _, _, _, _, _, _, _, _, _, _, h => by
  simp [Q7K] at h
theorem Q8m {P : Program} {m : Mem} {μ : LMap} {H : Heap} {w : World} {S : TypeId} {a : AVal} {f : Nat} {v : Value} {r : Res} (rh : RH m μ H w) (hv : VRel m μ a v) (h : Q4d P H S a f = some r) :
  r.H = H ∧ ∃ u, (Instr.fieldAt S v f).run P w = .ok u w ∧ VRel m μ r.v u := by
 unfold Q4d at h
 split at h
 ·rename_i fs hu
  split at h
  ·rename_i fd hf
   split at h
   ·rename_i id p
    split at h
    ·rename_i o s hc
     split at h
     ·rename_i hok
      cases h
      simp only [Bool.and_eq_true, beq_iff_eq, bne_iff_ne] at hok
      obtain ⟨⟨h1, h2⟩, h3⟩ := hok
      cases hcc : Q2X H id p with
      | none => rw [hcc] at hc; cases hc
      | some c =>
       rw [hcc] at hc
       simp only [Option.bind_some] at hc
       obtain ⟨l, o', s', hl, ho, he⟩ := hv.one rfl rfl
       cases he
       have hs := Q5h rh hcc hl ho
       rw [hs] at hc
       refine ⟨rfl, _, Q8f hu hf h2 h3 w, ?_⟩
       refine ⟨l, _, _, hl, Q5M f ho hc, ?_⟩
       rw [h1, Nat.add_assoc]
     ·cases h
    ·cases h
   ·rename_i t x
    split at h
    ·rename_i o s t' y hfo hfd
     split at h
     ·rename_i hok
      cases h
      simp only [Bool.and_eq_true, beq_iff_eq, bne_iff_ne] at hok
      obtain ⟨⟨h1, h2⟩, h3⟩ := hok
      obtain ⟨ad, c, he, hsp, hm, hd⟩ := hv.one rfl rfl
      cases he
      obtain ⟨g1, g2, g3⟩ := Q8J hd hfo hfd
      have : ad = ⟨ad.block, ad.off, none⟩ := by cases ad; simp_all
      refine ⟨rfl, _, by rw [this]; exact Q8f hu hf h2 h3 w, ?_⟩
      obtain ⟨cs, hmb, hle, hcc⟩ := Q3s hm
      refine ⟨_, _, rfl, rfl, ?_, g3⟩
      subst hcc
      simp only [Mem.cells, hmb]
      rw [if_pos (by omega), h1, Q1L _ _ _ _ _ g2]
     ·cases h
    ·cases h
   ·cases h
  ·cases h
 ·cases h
theorem Q79 {P : Program} {m : Mem} {μ : LMap} {T : TypeId} {x : AVal} {cs : Array Value} {o : Nat} (w : World) (h1 : Q2W P T = some x.isAgg) (h2 : Q20 P T = some x.size) (hle : o + x.size ≤ cs.size)
  (hx : CRel m μ x ((cs.toList.drop o).take x.size)) : ∃ v, (part T cs o).run P w = .ok v w ∧ VRel m μ x v := by
 cases ha : x.isAgg with
 | true =>
  rw [ha] at h1
  refine ⟨.agg (cs.extract o (o + x.size)), ?_, Q5o (by simpa using hx) ha⟩
  simp only [part, run_bind, Q47 h1, Q1E h2, if_true]; rfl
 | false =>
  rw [ha] at h1
  obtain ⟨v, hv⟩ := hx.one ha
  have hs : x.size = 1 := by rw [AVal.size, Q5N ha]; rfl
  rw [hs] at hv hle
  have hc : cs[o]? = some v := by
   have := congrArg (·[0]?) hv
   simpa [List.getElem?_take, List.getElem?_drop] using this
  refine ⟨v, ?_, Q4m (by rw [← hv, ← hs]; exact hx) ha⟩
  simp only [part, run_bind, Q47 h1, hc]
  rfl
theorem Qca {P : Program} {m : Mem} {μ : LMap} {H : Heap} {w : World} {S : TypeId} {a : AVal} {f : Nat} {v : Value} {r : Res} (hv : VRel m μ a v) (h : Q6U P H S a f = some r) :
  r.H = H ∧ ∃ u, (Instr.field S v f).run P w = .ok u w ∧ VRel m μ r.v u := by
 unfold Q6U at h
 split at h
 ·rename_i fs hu
  split at h
  ·rename_i fd o s x hf hfo hfa
   split at h
   ·rename_i hok
    cases h
    simp only [Bool.and_eq_true, beq_iff_eq] at hok
    obtain ⟨⟨⟨⟨h1, h2⟩, h3⟩, h4⟩, h5⟩ := hok
    obtain ⟨cs, rfl, hc⟩ := hv.agg h1
    obtain ⟨hle, x', hx', hs, hr⟩ := Q3i hc hfo
    rw [hfa] at hx'; cases hx'
    subst hs
    have hl := hc.length
    simp only [AVal.size, Array.length_toList] at hl
    obtain ⟨u, hu1, hu2⟩ := Q79 (P := P) (m := m) (μ := μ) (T := fd.type) (x := x) (cs := cs) (o := fd.offset) w h4 h3 (by rw [h2, AVal.size]; omega) (by rw [h2]; exact hr)
    refine ⟨rfl, u, ?_, hu2⟩
    simp only [Instr.field, run_bind, QV hu, hf, asAgg, Q1e]
    exact hu1
   ·cases h
  ·cases h
 ·cases h
theorem Q9b {x : Option AVal} {t : Ty} (h : Qdk x = some t) : ∃ y n, x = some y ∧ y.sh = .arr n t := by
 unfold Qdk at h
 split at h
 ·cases h; exact ⟨_, _, rfl, rfl⟩
 ·cases h; exact ⟨_, _, rfl, rfl⟩
 ·cases h
theorem Q5D {b o i s : Nat} : (⟨b, o, none⟩ : Addr).add (i * s) = ⟨b, o + i * s, none⟩ := Q3Z _ _ _
theorem Q4V {m : Mem} {μ : LMap} {H : Heap} {w : World} (rh : RH m μ H w) {id : Nat} {t : Ty} {xs : List t.den} {v : Value} (hi : H[id]? = some (some (.vec t xs))) (hv : VRel m μ (.vsl id) v) :
  ∃ l a cap, μ id = some l ∧ l.sh = .arr xs.length t ∧ xs.length ≤ cap ∧ v = .slice a xs.length cap ∧ ((a = some ⟨l.b, l.off, none⟩ ∧ l.off + cap * t.size ≤ l.tot) ∨ cap = 0) := by
 obtain ⟨l, n, t', a, cap, hl, hs, hc, he, ha⟩ := hv.one rfl rfl
 cases he
 obtain ⟨l', hb⟩ := rh.blk _ _ hi
 have : l' = l := Option.some.inj (hb.loc.symm.trans hl)
 subst this
 have hsh := hb.sh
 rw [hs] at hsh
 cases hsh
 exact ⟨_, a, cap, hl, hs, hc, rfl, ha⟩
theorem Q8p {P : Program} {m : Mem} {μ : LMap} {H : Heap} {w : World} {T : TypeId} {x i : AVal} {v vi : Value} {r : Res} (rh : RH m μ H w) (hv : VRel m μ x v) (hi : VRel m μ i vi) (h : Q4c P H T x i = some r) (hvc : r.vc = true) :
  r.H = H ∧ ∃ u, (Instr.indexAt T v vi).run P w = .ok u w ∧ VRel m μ r.v u := by
 cases i <;> simp only [Q4c] at h <;> try (cases h; done)
 rename_i k i
 have := hi.one rfl rfl
 cases this
 split at h
 ·rename_i len e hu
  split at h
  ·rename_i id p
   split at h
   ·rename_i n t xs hc
    split at h
    ·rename_i hok
     cases h
     simp only [Bool.and_eq_true, beq_iff_eq] at hok
     obtain ⟨rfl, h2⟩ := hok
     simp only [decide_eq_true_eq] at hvc
     obtain ⟨l, o, s, hl, ho, he⟩ := hv.one rfl rfl
     cases he
     have hs := Q5h rh hc hl ho
     subst hs
     refine ⟨rfl, .pointer (some ⟨l.b, l.off + o + i.toNat * t.size, none⟩), ?_, ?_⟩
     ·simp only [Instr.indexAt, asIntOf, run_bind, Q1e, QV hu, Instr.sureAddr]
      rw [if_pos hvc]
      simp only [run_bind, Q1E h2, Q1e, Q5D]
     ·refine ⟨l, _, t.sh, hl, Q5M i.toNat ho (o2 := i.toNat * t.size) (s2 := t.sh) ?_, by rw [Nat.add_assoc]⟩
      simp only [AVal.sh, Sh.fieldOff]
      rw [if_pos (by omega)]
    ·cases h
   ·cases h
  ·rename_i n t xs
   split at h
   ·rename_i hok
    cases h
    simp only [Bool.and_eq_true, beq_iff_eq] at hok
    obtain ⟨rfl, h2⟩ := hok
    simp only [decide_eq_true_eq] at hvc
    obtain ⟨ad, c, he, hsp, hm, hd⟩ := hv.one rfl rfl
    cases he
    obtain ⟨cs, hmb, hle, hcc⟩ := Q3s hm
    simp only [DRel] at hd
    obtain ⟨d1, d2, d3⟩ := hd
    have ha : ad = ⟨ad.block, ad.off, none⟩ := by cases ad; simp_all
    have hin : i.toNat < n := by omega
    have hmul : (i.toNat + 1) * t.size ≤ n * t.size := Nat.mul_le_mul_right _ hin
    rw [Nat.add_mul] at hmul
    simp only [Ty.size] at hle hcc
    refine ⟨rfl, .pointer (some ⟨ad.block, ad.off + i.toNat * t.size, none⟩), ?_, ?_⟩
    ·rw [ha]
     simp only [Instr.indexAt, asIntOf, run_bind, Q1e, QV hu, Instr.sureAddr]
     rw [if_pos hvc]
     simp only [run_bind, Q1E h2, Q1e, Q5D]
    ·refine ⟨_, _, rfl, rfl, ?_, d3 _ hin⟩
     subst hcc
     simp only [Mem.cells, hmb]
     rw [if_pos (by omega), Q1L _ _ _ _ _ (by omega)]
   ·cases h
  ·cases h
 ·rename_i e hu
  split at h
  ·rename_i id p off len
   split at h
   ·rename_i t hc
    split at h
    ·rename_i hok
     cases h
     simp only [beq_iff_eq] at hok
     simp only [decide_eq_true_eq] at hvc
     obtain ⟨y, n', hy, hsh⟩ := Q9b hc
     obtain ⟨l, o, n, t', a, cap, hl, ho, hle, hlc, he, ha⟩ := hv.one rfl rfl
     cases he
     have hs := Q5h rh hy hl ho
     rw [hsh] at hs
     cases hs
     have ha' : a = some ⟨l.b, l.off + o + off * t.size, none⟩ := by
      rcases ha with ⟨h1, _⟩ | h1
      ·exact h1
      ·omega
     subst ha'
     refine ⟨rfl, .pointer (some ⟨l.b, l.off + o + off * t.size + i.toNat * t.size, none⟩), ?_, ?_⟩
     ·simp only [Instr.indexAt, asIntOf, run_bind, Q1e, QV hu]
      rw [if_pos hvc]
      simp only [run_bind, Q1E hok, Q1e, Q5D]
     ·refine ⟨l, _, t.sh, hl, Q5M (off + i.toNat) ho (o2 := (off + i.toNat) * t.size) (s2 := t.sh) ?_, by rw [Nat.add_mul]; simp only [Nat.add_assoc]⟩
      simp only [Sh.fieldOff]
      rw [if_pos (by omega)]
    ·cases h
   ·cases h
  ·rename_i id
   split at h
   ·rename_i t xs hc
    split at h
    ·rename_i hok
     cases h
     simp only [beq_iff_eq] at hok
     simp only [decide_eq_true_eq] at hvc
     obtain ⟨l, a, cap, hl, hs, hcap, rfl, ha⟩ := Q4V rh hc hv
     have ha' : a = some ⟨l.b, l.off, none⟩ := by
      rcases ha with ⟨h1, _⟩ | h1
      ·exact h1
      ·omega
     subst ha'
     refine ⟨rfl, .pointer (some ⟨l.b, l.off + i.toNat * t.size, none⟩), ?_, ?_⟩
     ·simp only [Instr.indexAt, asIntOf, run_bind, Q1e, QV hu]
      rw [if_pos hvc]
      simp only [run_bind, Q1E hok, Q1e, Q5D]
     ·refine ⟨l, i.toNat * t.size, t.sh, hl, ?_, rfl⟩
      simp only [Sh.offP, hs, Sh.fieldOff]
      rw [if_pos (by omega)]
      simp
    ·cases h
   ·cases h
  ·rename_i t xs
   split at h
   ·rename_i hok
    cases h
    simp only [beq_iff_eq] at hok
    simp only [decide_eq_true_eq] at hvc
    obtain ⟨a, cap, he, hcap, hd⟩ := hv.one rfl rfl
    cases he
    have hin : i.toNat < xs.length := by omega
    obtain ⟨ad, c, rfl, hsp, hm, hdi⟩ := hd _ hin
    have ha : ad = ⟨ad.block, ad.off, none⟩ := by cases ad; simp_all
    refine ⟨rfl, .pointer (some ⟨ad.block, ad.off + i.toNat * t.size, none⟩), ?_, ?_⟩
    ·rw [ha]
     simp only [Instr.indexAt, asIntOf, run_bind, Q1e, QV hu]
     rw [if_pos hvc]
     simp only [run_bind, Q1E hok, Q1e, Q5D]
    ·exact ⟨_, c, rfl, rfl, hm, hdi⟩
   ·cases h
  ·cases h
 ·cases h
theorem Qbe {P : Program} {m : Mem} {μ : LMap} {H : Heap} {w : World} {T : TypeId} {x i : AVal} {v vi : Value} {r : Res} (hv : VRel m μ x v) (hi : VRel m μ i vi) (h : Q8A P H T x i = some r) (hvc : r.vc = true) :
  r.H = H ∧ ∃ u, (Instr.index T v vi).run P w = .ok u w ∧ VRel m μ r.v u := by
 cases i <;> simp only [Q8A] at h <;> try (cases h; done)
 rename_i k i
 have := hi.one rfl rfl
 cases this
 split at h
 ·rename_i len e n t xs hu
  split at h
  ·rename_i hok
   cases h
   simp only [Bool.and_eq_true, beq_iff_eq] at hok
   obtain ⟨⟨rfl, h2⟩, h3⟩ := hok
   simp only [decide_eq_true_eq] at hvc
   obtain ⟨cs, rfl, hc⟩ := hv.agg rfl
   simp only [CRel, DRel] at hc
   obtain ⟨d1, d2, d3⟩ := hc
   have hin : i.toNat < n := by omega
   have hmul : (i.toNat + 1) * t.size ≤ n * t.size := Nat.mul_le_mul_right _ hin
   rw [Nat.add_mul] at hmul
   simp only [Array.length_toList] at d2
   have hagg : (toA t (xs.getD i.toNat t.zero)).isAgg = (toA t t.zero).isAgg := by cases t <;> rfl
   obtain ⟨u, hu1, hu2⟩ := Q79 (P := P) (m := m) (μ := μ) (T := e) (x := toA t (xs.getD i.toNat t.zero)) (cs := cs) (o := i.toNat * t.size) w (by rw [hagg]; exact h3) (by rw [Q5s]; exact h2)
    (by rw [Q5s]; omega) (by rw [Q5s]; exact Q36.2 (d3 _ hin))
   refine ⟨rfl, u, ?_, hu2⟩
   simp only [Instr.index, asIntOf, run_bind, Q1e, QV hu]
   rw [if_pos hvc]
   simp only [run_bind, Q1E h2]
   exact hu1
  ·cases h
 ·rename_i s hu
  cases h
  simp only [decide_eq_true_eq] at hvc
  have := hv.one rfl rfl
  cases this
  have hin : i.toNat < s.size := by omega
  refine ⟨rfl, .int .u8 (s[i.toNat]'hin).toNat, ?_, ?_⟩
  ·simp only [Instr.index, asIntOf, run_bind, Q1e, QV hu]
   rw [if_pos hvc.1, getElem?_pos s i.toNat hin]
   rfl
  ·show [Value.int .u8 _] = [Value.int .u8 _]
   simp only [Q1v]
   congr 3
   have hd : i.toNat < s.data.toList.length := by simpa using hin
   rw [List.getD_eq_getElem?_getD, List.getElem?_eq_getElem hd]
   rfl
 ·cases h
end Go.Am
namespace Go.Am
open Go
theorem QaK {α : Type} (P : Program) (c : Prop) [Decidable c] (s t : Sem α) (w : World) : (if c then s else t).run P w = if c then s.run P w else t.run P w := by split <;> rfl
theorem QbZ {P : Program} {k : IntKind} {e : TypeId} {xs : List Int} {cs : Array Value} {m : Mem} {n i : Nat} (hu : P.underlying e = some (.int k)) (hd : DRel m (.arr n (.int k)) xs cs.toList) (hi : i < n) (w : World) :
  (part e cs i).run P w = .ok (.int k (xs.getD i 0)) w := by
 simp only [DRel] at hd
 obtain ⟨d1, d2, d3⟩ := hd
 simp only [Ty.size, Nat.mul_one] at d2 d3
 have h := d3 i hi
 have hc : cs[i]? = some (.int k (xs.getD i 0)) := by
  have := congrArg (·[0]?) h
  simpa [List.getElem?_take, List.getElem?_drop, Ty.zero] using this
 have ha : Q2W P e = some false := by unfold Q2W; rw [hu]
 simp only [part, run_bind, Q47 ha, hc]
 rfl
theorem Qcz {P : Program} {k : IntKind} {e : TypeId} {xs ys : List Int} {cs ds : Array Value} {m : Mem} {n : Nat} (d : Nat) (hu : P.underlying e = some (.int k)) (hx : DRel m (.arr n (.int k)) xs cs.toList) (hy : DRel m (.arr n (.int k)) ys ds.toList) (w : World) :
  ∀ (l s : Nat), s + l = n → (∀ j, j < s → xs.getD j 0 = ys.getD j 0) →
   (forIn (List.range' s l) ((none, ()) : Option Bool × Unit) (fun i (_ : Option Bool × Unit) => (do
     let r ← Op.equalIn (d + 1) e (← part e cs (i * 1)) (← part e ds (i * 1))
     if (!r) = true then pure (ForInStep.done (some false, ())) else pure (ForInStep.yield (none, ())) : Sem _))).run P w =
    .ok (if (xs : List Int) = ys then (none, ()) else (some false, ())) w := by
 intro l
 induction l with
 | zero =>
  intro s hs hj
  simp only [List.range'_zero, List.forIn_nil]
  rw [if_pos]
  ·rfl
  ·have h1 : xs.length = n := hx.1
   have h2 : ys.length = n := hy.1
   refine List.ext_getElem (by omega) fun i a b => ?_
   have := hj i (by omega)
   simpa [List.getD_eq_getElem?_getD, List.getElem?_eq_getElem a, List.getElem?_eq_getElem b] using this
 | succ l ih =>
  intro s hs hj
  simp only [List.range'_succ, List.forIn_cons, run_bind, Nat.mul_one, QbZ hu hx (show s < n by omega), QbZ hu hy (show s < n by omega), Go.run_equalIn_int w d e k k _ _ hu]
  by_cases he : xs.getD s 0 = ys.getD s 0
  ·rw [he]
   simp only [beq_self_eq_true, Bool.not_true, Bool.false_eq_true, if_false, Q1e]
   have := ih (s + 1) (by omega) (fun j hjs => by
    rcases Nat.lt_or_eq_of_le (Nat.lt_succ_iff.1 hjs) with h | h
    ·exact hj j h
    ·subst h; exact he)
   simpa using this
  ·have hb : (xs.getD s 0 == ys.getD s 0) = false := by simpa using he
   rw [hb]
   simp only [Bool.not_false, if_true, Q1e]
   rw [if_neg (fun h => he (by rw [h]))]
theorem QdQ {P : Program} {k : IntKind} {t e : TypeId} {xs ys : List Int} {cs ds : Array Value} {m : Mem} {n : Nat} (d : Nat) (ht : P.underlying t = some (.array n e)) (hu : P.underlying e = some (.int k)) (hs : Q20 P e = some 1) (hx : DRel m (.arr n (.int k)) xs cs.toList)
  (hy : DRel m (.arr n (.int k)) ys ds.toList) (w : World) : (Op.equalIn (d + 2) t (.agg cs) (.agg ds)).run P w = .ok (decide ((xs : List Int) = ys)) w := by
 have h := Qcz d hu hx hy w n 0 (by omega) (fun j h => absurd h (Nat.not_lt_zero j))
 rw [Op.equalIn]
 simp only [run_bind, QV ht, Q1E hs]
 rw [Std.Legacy.Range.forIn_eq_forIn_range']
 simp only [Std.Legacy.Range.size, Nat.sub_zero, Nat.add_sub_cancel, Nat.div_one]
 rw [h]
 by_cases he : (xs : List Int) = ys
 ·simp only [he, if_true, decide_true]; rfl
 ·simp only [he, if_false, decide_false]; rfl
theorem Q8d {n : Nat} {t : Ty} {xs : List t.den} {b : AVal} {r : Bool} (h : eqA (.arr n t xs) b = some r) :
  ∃ (k : IntKind) (xs' ys' : List Int), AVal.arr n t xs = .arr n (.int k) xs' ∧ b = .arr n (.int k) ys' ∧ r = decide (xs' = ys') := by
 cases t <;> cases b <;> try (simp [eqA] at h; done)
 rename_i k n' t' ys
 cases t' <;> try (simp [eqA] at h; done)
 rename_i k'
 simp only [eqA] at h
 split at h
 ·split at h
  ·rename_i h1 h2
   subst h1; subst h2
   exact ⟨k, xs, ys, rfl, rfl, (Option.some.inj h).symm⟩
  ·cases h
 ·cases h
theorem Qaz : ∀ {a b : AVal} {r : Bool}, eqA a b = some r → a.sh = b.sh ∧ a.isAgg = b.isAgg
 | .int _ _, b, r, h => by cases b <;> simp [eqA] at h <;> exact ⟨rfl, rfl⟩
 | .bool _, b, r, h => by cases b <;> simp [eqA] at h <;> exact ⟨rfl, rfl⟩
 | .str _, b, r, h => by cases b <;> simp [eqA] at h <;> exact ⟨rfl, rfl⟩
 | .unit, b, r, h => by cases b <;> simp [eqA] at h <;> exact ⟨rfl, rfl⟩
 | .pair a c, b, r, h => by
  cases b <;> simp only [eqA] at h <;> try (cases h; done)
  rename_i b1 b2
  cases h1 : eqA a b1 with
  | none => rw [h1] at h; cases h
  | some p =>
   rw [h1] at h
   simp only [Option.bind_some] at h
   cases h2 : eqA c b2 with
   | none => rw [h2] at h; cases h
   | some q => exact ⟨by simp [AVal.sh, (Qaz h1).1, (Qaz h2).1], rfl⟩
 | .arr n t xs, b, r, h => by
  obtain ⟨k, xs', ys', e1, e2, _⟩ := Q8d h
  rw [e1, e2]; exact ⟨rfl, rfl⟩
 | .undef, b, r, h | .nilp, b, r, h | .ptr _ _, b, r, h | .nils, b, r, h | .sl _ _ _ _, b, r, h | .ros _ _, b, r, h | .rop _ _, b, r, h | .vec _ _, b, r, h | .vsl _, b, r, h | .fn _ _, b, r, h | .tup _, b, r, h | .parr _ _ _ _, b, r, h => by
  simp [eqA] at h
theorem QeS {P : Program} : ∀ {n : Nat} {T : TypeId} {a : AVal}, eqTy P n T a = true → Q2W P T = some a.isAgg ∧ Q20 P T = some (P.cellsOf T)
 | 0, _, _, h => by simp [eqTy] at h
 | n + 1, T, a, h => by
  have hsz : ∀ {d : TypeDesc}, P.underlying T = some d → Q20 P T = some (P.cellsOf T) := by
   intro d hd
   unfold Q20 Program.cellsOf
   cases hi : P.info? T with
   | none => unfold Program.underlying at hd; rw [hi] at hd; cases hd
   | some i => rfl
  simp only [eqTy] at h
  split at h
  ·rename_i hu; exact ⟨by unfold Q2W; rw [hu]; rfl, hsz hu⟩
  ·rename_i hu; exact ⟨by unfold Q2W; rw [hu]; rfl, hsz hu⟩
  ·rename_i hu; exact ⟨by unfold Q2W; rw [hu]; rfl, hsz hu⟩
  ·rename_i hu
   simp only [Bool.and_eq_true] at h
   exact ⟨by unfold Q2W; rw [hu, h.1.1], hsz hu⟩
  ·rename_i hu; exact ⟨by unfold Q2W; rw [hu]; rfl, hsz hu⟩
  ·cases h
theorem Q7a {P : Program} {m : Mem} {μ : LMap} {d : Nat} {g : TypeId → AVal → Bool} (hg : ∀ T a b r x y w, g T a = true → eqA a b = some r → VRel m μ a x → VRel m μ b y → (Op.equalIn d T x y).run P w = .ok r w)
  (hag : ∀ T a, g T a = true → Q2W P T = some a.isAgg ∧ Q20 P T = some (P.cellsOf T)) :
  ∀ (fs : List Field) (off : Nat) (a b : AVal) (r : Bool) (cs ds : Array Value) (w : World), Qbq g P.cellsOf off fs a = true → eqA a b = some r → CRel m μ a (cs.toList.drop off) → CRel m μ b (ds.toList.drop off) →
   off + a.size = cs.size → off + b.size = ds.size → (Op.eqFields d cs ds fs).run P w = .ok r w
 | [], off, a, b, r, cs, ds, w, h, he, _, _, _, _ => by
  cases a <;> simp [Qbq] at h
  cases b <;> simp [eqA] at he
  subst he; rfl
 | f :: fs, off, a, b, r, cs, ds, w, h, he, ha, hb, hla, hlb => by
  cases a <;> simp [Qbq] at h
  rename_i a1 a2
  cases b <;> simp only [eqA] at he <;> try (cases he; done)
  rename_i b1 b2
  obtain ⟨⟨⟨⟨h1, h2⟩, h3⟩, h4⟩, h5⟩ := h
  cases e1 : eqA a1 b1 with
  | none => rw [e1] at he; cases he
  | some p =>
   rw [e1] at he
   simp only [Option.bind_some] at he
   cases e2 : eqA a2 b2 with
   | none => rw [e2] at he; cases he
   | some q =>
    rw [e2] at he
    simp only [Option.bind_some, Option.some.injEq] at he
    subst he
    obtain ⟨s1, s2⟩ := Qaz e1
    simp only [AVal.size, AVal.sh, Sh.size] at hla hlb
    simp only [CRel] at ha hb
    obtain ⟨g1, g2⟩ := hag _ _ h4
    rw [h3] at g2
    have hsz : b1.size = a1.size := by rw [AVal.size, AVal.size, s1]
    obtain ⟨x, hx1, hx2⟩ := Q79 (P := P) (m := m) (μ := μ) (T := f.type) (x := a1) (cs := cs) (o := off) w g1 g2 (by rw [AVal.size]; omega) ha.1
    obtain ⟨y, hy1, hy2⟩ := Q79 (P := P) (m := m) (μ := μ) (T := f.type) (x := b1) (cs := ds) (o := off) w (by rw [← s2]; exact g1) (by rw [hsz]; exact g2) (by rw [AVal.size]; omega) hb.1
    have hr := hg _ _ _ _ _ _ w h4 e1 hx2 hy2
    simp only [Op.eqFields]
    rw [if_pos h1]
    rw [h2]
    simp only [run_bind, hx1, hy1, hr, QaK]
    cases p with
    | false => simp
    | true =>
     simp only [Bool.not_true, Bool.false_eq_true, if_false, Bool.true_and]
     have ha2 := ha.2
     have hb2 := hb.2
     rw [List.drop_drop] at ha2 hb2
     rw [hsz] at hb2
     exact Q7a hg hag fs (off + a1.size) a2 b2 q cs ds w h5 e2 ha2 hb2 (by simp only [AVal.size]; omega) (by simp only [AVal.size] at hsz ⊢; omega)
theorem Qap {P : Program} {m : Mem} {μ : LMap} : ∀ (n d : Nat) (T : TypeId) (a b : AVal) (r : Bool) (x y : Value) (w : World), n + 1 ≤ d → eqTy P n T a = true → eqA a b = some r → VRel m μ a x → VRel m μ b y →
  (Op.equalIn d T x y).run P w = .ok r w
 | 0, _, _, _, _, _, _, _, _, _, h, _, _, _ => by simp [eqTy] at h
 | n + 1, d, T, a, b, r, x, y, w, hd, h, he, hx, hy => by
  obtain ⟨d, rfl⟩ : ∃ e, d = e + 1 := ⟨d - 1, by omega⟩
  simp only [eqTy] at h
  split at h
  ·rename_i hu
   cases b <;> simp [eqA] at he
   have e1 := hx.one rfl rfl
   have e2 := hy.one rfl rfl
   cases e1; cases e2; subst he
   exact Go.run_equalIn_bool w d T _ _ hu
  ·rename_i k k' v hu
   cases b <;> simp [eqA] at he
   have e1 := hx.one rfl rfl
   have e2 := hy.one rfl rfl
   cases e1; cases e2
   obtain ⟨rfl, he⟩ := he
   subst he
   exact Go.run_equalIn_int w d T _ _ _ _ hu
  ·rename_i s hu
   cases b <;> simp [eqA] at he
   have e1 := hx.one rfl rfl
   have e2 := hy.one rfl rfl
   cases e1; cases e2; subst he
   exact Go.run_equalIn_string w d T _ _ hu
  ·rename_i a fs hu
   simp only [Bool.and_eq_true, Bool.not_eq_true'] at h
   obtain ⟨⟨h1, h2⟩, h3⟩ := h
   obtain ⟨s1, s2⟩ := Qaz he
   obtain ⟨cs, rfl, hc⟩ := hx.agg h1
   obtain ⟨ds, rfl, hc2⟩ := hy.agg (by rw [← s2]; exact h1)
   have hfo : P.fieldsOf T = fs := by unfold Program.fieldsOf; rw [hu]
   rw [Go.run_equalIn_struct w d T cs ds (by rw [hfo]; exact hu) h2, hfo]
   have l1 := hc.length
   have l2 := hc2.length
   exact Q7a (m := m) (μ := μ) (g := eqTy P n) (fun T a b r x y w h1 h2 h3 h4 => Qap n d T a b r x y w (by omega) h1 h2 h3 h4) (fun T a h => QeS h) fs.toList 0 _ _ r cs ds w h3 he
    (by simpa using hc) (by simpa using hc2) (by simpa using l1.symm) (by simpa using l2.symm)
  ·rename_i len e n' k xs hu
   simp only [Bool.and_eq_true, beq_iff_eq] at h
   obtain ⟨⟨rfl, h2⟩, h3⟩ := h
   split at h2
   ·rename_i k' hk
    simp only [decide_eq_true_eq] at h2
    subst h2
    obtain ⟨k', xs', ys', e1, rfl, rfl⟩ := Q8d he
    cases e1
    obtain ⟨cs, rfl, hc⟩ := hx.agg rfl
    obtain ⟨ds, rfl, hc2⟩ := hy.agg rfl
    obtain ⟨d, rfl⟩ : ∃ e, d = e + 1 := ⟨d - 1, by omega⟩
    exact QdQ d hu hk h3 hc hc2 w
   ·cases h2
  ·cases h
theorem Q6h {P : Program} {w : World} {op : BinOp} {T : TypeId} {xo yo : Operand} {v u : Value} (h1 : ¬ (v = .nilIface ∧ u = .nilIface)) (h2 : ∀ a b, ¬ (v = .agg a ∧ u = .agg b)) :
  (eqGuard op T xo yo v u).run P w = .ok () w := by
 unfold eqGuard
 generalize (!(op matches .eql | .neq)) = c
 cases c
 ·rw [if_neg (by simp)]
  split
  ·exact absurd ⟨rfl, rfl⟩ h1
  ·exact absurd ⟨rfl, rfl⟩ (h2 _ _)
  ·rfl
 ·rfl
theorem QeJ {P : Program} (w : World) (d : Nat) (t e : TypeId) (a : Option Addr) (l c : Nat) (h : P.underlying t = some (.slice e)) : (Op.equalIn (d + 1) t (.slice a l c) (.slice none 0 0)).run P w = .ok a.isNone w := by
 cases a <;> simp [Op.equalIn, QV h]
theorem QeN {P : Program} (w : World) (t e : TypeId) (a : Option Addr) (l c : Nat) (h : P.underlying t = some (.slice e)) : (Op.equal t (.slice a l c) (.slice none 0 0)).run P w = .ok a.isNone w := QeJ w 9999 t e a l c h
theorem Qfo {P : Program} (w : World) (t e : TypeId) (a : Option Addr) (l c : Nat) (h : P.underlying t = some (.slice e)) : (binOp .eql t (.slice a l c) (.slice none 0 0)).run P w = .ok (.bool a.isNone) w := by
 simp [binOp, QeN w t e a l c h]
theorem Qfb {P : Program} (w : World) (t e : TypeId) (a : Option Addr) (l c : Nat) (h : P.underlying t = some (.slice e)) : (binOp .neq t (.slice a l c) (.slice none 0 0)).run P w = .ok (.bool (!a.isNone)) w := by
 simp [binOp, QeN w t e a l c h]
theorem QdR {P : Program} {m : Mem} {μ : LMap} {w : World} {op : BinOp} {T : TypeId} {x y : AVal} {xo yo : Operand} {v u : Value} {r : Bool × AVal} (hx : VRel m μ x v) (hy : VRel m μ y u) (h : binA P op T x y = some r) (hvc : r.1 = true) :
  ∃ z, (do eqGuard op T xo yo v u; binOp op T v u : Sem Value).run P w = .ok z w ∧ VRel m μ r.2 z := by
 unfold binA at h
 split at h
 ·rename_i k a k' b
  have e1 := hx.one rfl rfl
  have e2 := hy.one rfl rfl
  cases e1; cases e2
  simp only [run_bind, Q6h (v := .int k a) (u := .int k' b) (fun h => by cases h.1) (fun _ _ h => by cases h.1)]
  split at h
  ·cases h
   simp only [decide_eq_true_eq] at hvc
   refine ⟨.int k (Q2w k a b), ?_, rfl⟩
   simp only [binOp, Op.shift]
   rw [if_neg (by omega)]; rfl
  ·cases h
   simp only [decide_eq_true_eq] at hvc
   refine ⟨.int k (Q2c k a b), ?_, rfl⟩
   simp only [binOp, Op.shift]
   rw [if_neg (by omega)]; rfl
  ·split at h
   ·rename_i n1 n2 hk
    subst hk
    obtain ⟨z, hz1, hz2⟩ := Qcf (P := P) w h hvc
    refine ⟨z, ?_, hz2 m μ⟩
    rw [← hz1]
    cases op <;> first | exact absurd rfl n1 | exact absurd rfl n2 | simp [binOp]
   ·cases h
 ·rename_i a b
  have e1 := hx.one rfl rfl
  have e2 := hy.one rfl rfl
  cases e1; cases e2
  simp only [run_bind, Q6h (v := .string a) (u := .string b) (fun h => by cases h.1) (fun _ _ h => by cases h.1)]
  obtain ⟨z, hz1, hz2⟩ := QcD (P := P) w h hvc
  refine ⟨z, ?_, hz2 m μ⟩
  rw [← hz1]
  cases op <;> first | rfl | (simp [binS] at h; done)
 ·rename_i a b
  have e1 := hx.one rfl rfl
  have e2 := hy.one rfl rfl
  cases e1; cases e2
  simp only [run_bind, Q6h (v := .bool a) (u := .bool b) (fun h => by cases h.1) (fun _ _ h => by cases h.1)]
  split at h
  ·rename_i hu
   cases h
   exact ⟨.bool (a == b), by simp only [binOp, run_bind, Go.run_equal_bool w T a b hu]; rfl, rfl⟩
  ·rename_i hu
   cases h
   exact ⟨.bool (!(a == b)), by simp only [binOp, run_bind, Go.run_equal_bool w T a b hu]; rfl, rfl⟩
  ·cases h
 ·have e1 := hx.one rfl rfl
  have e2 := hy.one rfl rfl
  cases e1; cases e2
  simp only [run_bind, Q6h (v := .pointer none) (u := .pointer none) (fun h => by cases h.1) (fun _ _ h => by cases h.1)]
  split at h
  ·rename_i e hu
   cases h
   exact ⟨.bool true, by simp only [binOp, run_bind, Go.run_equal_pointer_nil w T none (by unfold Program.pointee; rw [hu])]; rfl, rfl⟩
  ·rename_i e hu
   cases h
   exact ⟨.bool false, by simp only [binOp, run_bind, Go.run_equal_pointer_nil w T none (by unfold Program.pointee; rw [hu])]; rfl, rfl⟩
  ·cases h
 ·rename_i t xs
  obtain ⟨ad, c, e1, _, hc⟩ := hx.one rfl rfl
  have e2 := hy.one rfl rfl
  cases e1; cases e2
  have key : Nat.ble 1 xs.length = true → ad.isNone = false := by
   intro hne
   obtain ⟨a', _, h1, _⟩ := hc 0 (Nat.le_of_ble_eq_true hne)
   rw [h1]; rfl
  simp only [run_bind, Q6h (v := .slice ad xs.length c) (u := .slice none 0 0) (fun h => by cases h.1) (fun _ _ h => by cases h.1)]
  split at h
  ·rename_i e hu
   cases h
   exact ⟨.bool false, by rw [Qfo w T e ad _ c hu, key hvc], rfl⟩
  ·rename_i e hu
   cases h
   exact ⟨.bool true, by rw [Qfb w T e ad _ c hu, key hvc]; rfl, rfl⟩
  ·cases h
 ·obtain ⟨l, o, s, _, _, e1⟩ := hx.one rfl rfl
  have e2 := hy.one rfl rfl
  cases e1; cases e2
  simp only [run_bind, Q6h (v := .pointer (some ⟨l.b, l.off + o, none⟩)) (u := .pointer none) (fun h => by cases h.1) (fun _ _ h => by cases h.1)]
  split at h
  ·rename_i e hu
   cases h
   exact ⟨.bool false, by simp only [binOp, run_bind, Go.run_equal_pointer_nil w T _ (by unfold Program.pointee; rw [hu])]; rfl, rfl⟩
  ·rename_i e hu
   cases h
   exact ⟨.bool true, by simp only [binOp, run_bind, Go.run_equal_pointer_nil w T _ (by unfold Program.pointee; rw [hu])]; rfl, rfl⟩
  ·cases h
 ·obtain ⟨ad, c, e1, _⟩ := hx.one rfl rfl
  have e2 := hy.one rfl rfl
  cases e1; cases e2
  simp only [run_bind, Q6h (v := .pointer (some ad)) (u := .pointer none) (fun h => by cases h.1) (fun _ _ h => by cases h.1)]
  split at h
  ·rename_i e hu
   cases h
   exact ⟨.bool false, by simp only [binOp, run_bind, Go.run_equal_pointer_nil w T _ (by unfold Program.pointee; rw [hu])]; rfl, rfl⟩
  ·rename_i e hu
   cases h
   exact ⟨.bool true, by simp only [binOp, run_bind, Go.run_equal_pointer_nil w T _ (by unfold Program.pointee; rw [hu])]; rfl, rfl⟩
  ·cases h
 ·split at h
  ·rename_i hok
   simp only [Bool.and_eq_true, Bool.not_eq_true', decide_eq_true_eq] at hok
   obtain ⟨⟨⟨⟨⟨⟨h1, h2⟩, h3⟩, h4⟩, h5⟩, h6⟩, h7⟩ := hok
   obtain ⟨cs, rfl, hc⟩ := hx.agg h1
   obtain ⟨ds, rfl, hc2⟩ := hy.agg h2
   simp only [run_bind, Go.run_eqGuard_agg w op T xo yo cs ds h6]
   have key : ∀ r, eqA x y = some r → (Op.equalIn 10000 T (.agg cs) (.agg ds)).run P w = .ok r w := fun r hr =>
    Qap 40 10000 T x y r _ _ w (by omega) h7 hr hx hy
   split at h
   ·cases he : eqA x y with
    | none => rw [he] at h; cases h
    | some q =>
     rw [he] at h; cases h
     refine ⟨.bool q, ?_, rfl⟩
     rw [Go.run_eql_struct, key q he]; rfl
   ·cases he : eqA x y with
    | none => rw [he] at h; cases h
    | some q =>
     rw [he] at h; cases h
     refine ⟨.bool (!q), ?_, rfl⟩
     rw [Go.run_neq_struct, key q he]; rfl
   ·cases h
  ·cases h
end Go.Am
namespace Go.Am
open Go
def Q7z (m : Mem) (μ : LMap) : Option AVal → Option Value → Prop
 | none, none => True
 | some a, some v => VRel m μ a v
 | _, _ => False
theorem Q3C {P : Program} {k : IntKind} {i : Int} {y : Nat} (code : BoundsCode) (w : World) (h : 0 ≤ i ∧ i ≤ y) : (Instr.sliceBound (.int k i) y code).run P w = .ok i.toNat w := by
 simp only [Instr.sliceBound, run_bind, asIntOf, Q1e]
 rw [if_pos h]; rfl
theorem Q7Z {m : Mem} {μ : LMap} {o : Option AVal} {ov : Option Value} {d n : Int} (h : Q7z m μ o ov) (b : Q3x o d = some n) : (ov = none ∧ n = d) ∨ ∃ k, ov = some (.int k n) := by
 cases o with
 | none =>
  cases ov with
  | some _ => exact h.elim
  | none => simp only [Q3x, Option.some.injEq] at b; exact .inl ⟨rfl, b.symm⟩
 | some a =>
  cases ov with
  | none => exact h.elim
  | some v =>
   cases a <;> simp only [Q3x] at b <;> try (cases b; done)
   cases b
   rename_i k
   have hv : VRel m μ (.int k n) v := h
   have e := hv.one rfl rfl
   cases e
   exact .inr ⟨_, rfl⟩
theorem Q2n {P : Program} {m : Mem} {μ : LMap} {lo hi : Option AVal} {lv hv : Option Value} {l h : Int} {len cap : Nat} (isS : Bool) (w : World) (hlo : Q7z m μ lo lv) (hhi : Q7z m μ hi hv)
  (bl : Q3x lo 0 = some l) (bh : Q3x hi len = some h) (hb : 0 ≤ l ∧ l ≤ h ∧ h ≤ cap) :
  (Instr.sliceBounds isS len cap lv hv none).run P w = .ok (l.toNat, h.toNat, cap) w := by
 rcases Q7Z hlo bl with ⟨rfl, rfl⟩ | ⟨k, rfl⟩ <;> rcases Q7Z hhi bh with ⟨rfl, rfl⟩ | ⟨k', rfl⟩
 ·rfl
 ·simp only [Instr.sliceBounds, run_bind, Q1e, Q3C _ w (show 0 ≤ h ∧ h ≤ (cap : Int) from by omega)]; rfl
 ·simp only [Instr.sliceBounds, run_bind, Q1e, Q3C _ w (show 0 ≤ l ∧ l ≤ (len : Int) from by omega)]; rfl
 ·simp only [Instr.sliceBounds, run_bind, Q1e, Q3C _ w (show 0 ≤ h ∧ h ≤ (cap : Int) from by omega), Q3C _ w (show 0 ≤ l ∧ l ≤ (h.toNat : Int) from by omega)]
theorem QeL {m : Mem} {t : Ty} {xs : List t.den} {a : Option Addr} {cap len' : Nat} (l h : Nat) (hl : l ≤ h) (hh : h ≤ xs.length)
  (hd : ∀ i, i < xs.length → ∃ ad c, a = some ad ∧ ad.spot = none ∧ m.cells ad.block (ad.off + i * t.size) t.size = some c ∧ DRel m t (xs.getD i t.zero) c) (hc : xs.length ≤ cap) (hlen : len' = h - l) (cap' : Nat) (hcap : cap' = cap - l) :
  DRel m (.sl t) ((xs.take h).drop l) [.slice (if cap = l then a else a.map (·.add (l * t.size))) len' cap'] := by
 subst hlen; subst hcap
 refine ⟨if cap = l then a else a.map (·.add (l * t.size)), cap - l, by simp [Nat.min_eq_left hh], by simp [Nat.min_eq_left hh]; omega, fun i hi => ?_⟩
 simp only [List.length_drop, List.length_take, Nat.min_eq_left hh] at hi
 obtain ⟨ad, c, rfl, hsp, hm, hdi⟩ := hd (l + i) (by omega)
 rw [if_neg (by omega)]
 have ha : ad = ⟨ad.block, ad.off, none⟩ := by cases ad; simp_all
 refine ⟨⟨ad.block, ad.off + l * t.size, none⟩, c, ?_, rfl, ?_, ?_⟩
 ·simp only [Option.map_some, Option.some.injEq]
  rw [ha, Q3Z]
 ·show m.cells ad.block (ad.off + l * t.size + i * t.size) t.size = some c
  rw [← hm, Nat.add_mul, Nat.add_assoc]
 ·have e : ((xs.take h).drop l).getD i t.zero = xs.getD (l + i) t.zero := by
   simp only [List.getD_eq_getElem?_getD, List.getElem?_drop, List.getElem?_take]
   rw [if_pos (by omega)]
  rw [e]; exact hdi
theorem QcA {m : Mem} {μ : LMap} {id : Nat} {p : List Nat} {l : Loc} {o n : Nat} {t : Ty} {a : Option Addr} {off len cap lo hi : Nat} (hl : μ id = some l) (ho : l.sh.offP p = some (o, .arr n t)) (hle : off + len ≤ n) (hlc : len ≤ cap)
  (ha : (a = some ⟨l.b, l.off + o + off * t.size, none⟩ ∧ (p = [] → l.off + (off + cap) * t.size ≤ l.tot)) ∨ cap = 0) (h1 : lo ≤ hi) (h2 : hi ≤ len) :
  CRel m μ (.sl id p (off + lo) (hi - lo)) [.slice (if cap = lo then a else a.map (·.add (lo * t.size))) (hi - lo) (cap - lo)] := by
 refine ⟨l, o, n, t, _, cap - lo, hl, ho, by omega, by omega, rfl, ?_⟩
 by_cases hc : cap = lo
 ·exact .inr (by omega)
 ·rw [if_neg hc]
  rcases ha with ⟨rfl, hp⟩ | h0
  ·refine .inl ⟨?_, fun e => ?_⟩
   ·simp only [Option.map_some, Q3Z, Nat.add_mul, Nat.add_assoc]
   ·have := hp e
    rw [show off + lo + (cap - lo) = off + cap from by omega]; exact this
  ·omega
theorem Qbc {P : Program} {m : Mem} {μ : LMap} {H : Heap} {w : World} {T : TypeId} {x : AVal} {lo hi : Option AVal} {v : Value} {lv hv : Option Value} {r : Res} (rh : RH m μ H w) (hx : VRel m μ x v) (hlo : Q7z m μ lo lv) (hhi : Q7z m μ hi hv)
    (h : Q7w P H T x lo hi false = some r) (hvc : r.vc = true) : r.H = H ∧ ∃ u, (Instr.sliceAt T v lv hv none).run P w = .ok u w ∧ VRel m μ r.v u := by
  unfold Q7w at h
  rw [if_neg (by simp)] at h
  cases x <;> simp only at h <;> try (cases h; done)
  · rename_i s
    split at h
    · rename_i l hh hu bl bh
      cases h
      simp only [decide_eq_true_eq] at hvc
      have := hx.one rfl rfl
      cases this
      refine ⟨rfl, .string (s.extract l.toNat hh.toNat), ?_, rfl⟩
      simp only [Instr.sliceAt, run_bind, QV hu, Instr.slice, Option.isSome_none, Bool.false_eq_true, if_false, Q1e]
      rw [Q2n (m := m) (μ := μ) (l := l) (h := hh) false w hlo hhi bl bh (by omega)]
    · cases h
  · rename_i id p
    split at h
    · rename_i n t xs hc
      split at h
      · rename_i n' e hu
        split at h
        · rename_i l hh bl bh
          split at h
          · rename_i hok
            cases h
            simp only [Bool.and_eq_true, beq_iff_eq] at hok
            obtain ⟨rfl, hsz⟩ := hok
            simp only [decide_eq_true_eq] at hvc
            obtain ⟨lc, o, s, hl, ho, he⟩ := hx.one rfl rfl
            cases he
            have hs := Q5h rh hc hl ho
            subst hs
            obtain ⟨c, hi', hg⟩ := Q4W hc
            have hcap : p = [] → lc.off + (0 + n') * t.size ≤ lc.tot := by
              intro e; subst e
              simp only [Sh.offP, Option.some.injEq, Prod.mk.injEq] at ho
              obtain ⟨_, hb⟩ := rh.blk _ _ hi'
              have hll := Option.some.inj (hb.loc.symm.trans hl)
              subst hll
              have hsh := hb.sh
              rw [ho.2] at hsh
              have hz : c.sh.size = n' * t.size := by rw [← hsh]; rfl
              rcases hb.cells with ⟨p1, p2, p3, _⟩ | ⟨_, _, _, _, _, _, _, _, g4, _⟩
              · rw [p1, p2, Nat.zero_add, Nat.zero_add, ← hz, p3]; omega
              · rw [Nat.zero_add, ← hz]; exact g4
            refine ⟨rfl, .slice (some (if n' = l.toNat then ⟨lc.b, lc.off + o, none⟩ else (⟨lc.b, lc.off + o, none⟩ : Addr).add (l.toNat * t.size))) (hh.toNat - l.toNat) (n' - l.toNat), ?_, ?_⟩
            · simp only [Instr.sliceAt, run_bind, QV hu, Instr.sureAddr, Q1e]
              rw [Q2n (m := m) (μ := μ) (l := l) (h := hh) false w hlo hhi bl bh (by omega)]
              simp only [run_bind, Q1E hsz, Q1e]
            · have := QcA (m := m) (lo := l.toNat) (hi := hh.toNat) (off := 0) (len := n') (cap := n') (a := some ⟨lc.b, lc.off + o, none⟩) hl ho (by omega) (by omega) (.inl ⟨by simp, hcap⟩) (by omega) (by omega)
              rw [Nat.zero_add] at this
              have e1 : (hh - l).toNat = hh.toNat - l.toNat := by omega
              rw [e1]
              show CRel m μ _ _
              by_cases hq : n' = l.toNat
              · rw [if_pos hq] at this ⊢; exact this
              · rw [if_neg hq] at this ⊢; exact this
          · cases h
        · cases h
      · cases h
    · cases h
  · -- nils
    split at h
    · rename_i e l hh hu bl bh
      split at h
      · rename_i hs
        cases h
        simp only [decide_eq_true_eq] at hvc
        obtain ⟨rfl, rfl⟩ := hvc
        have := hx.one rfl rfl
        cases this
        obtain ⟨n, hn⟩ := Option.isSome_iff_exists.1 hs
        refine ⟨rfl, .slice none 0 0, ?_, rfl⟩
        simp only [Instr.sliceAt, run_bind, QV hu, Instr.slice]
        rw [Q2n (m := m) (μ := μ) (l := 0) (h := 0) true w hlo hhi bl bh (by omega)]
        simp only [Q1E hn]
        rfl
      · cases h
    · cases h
  · rename_i id p off len
    split at h
    · rename_i e l hh t hu bl bh hc
      split at h
      · rename_i hok
        cases h
        simp only [beq_iff_eq] at hok
        simp only [decide_eq_true_eq] at hvc
        obtain ⟨y, N, hy, hsh⟩ := Q9b hc
        obtain ⟨lc, o, n, t', a, cap, hl, ho, hle, hlc, he, ha⟩ := hx.one rfl rfl
        cases he
        have hs := Q5h rh hy hl ho
        rw [hsh] at hs
        cases hs
        have e1 : (hh - l).toNat = hh.toNat - l.toNat := by omega
        have z := QcA (m := m) (lo := l.toNat) (hi := hh.toNat) hl ho hle hlc ha (by omega) (by omega)
        refine ⟨rfl, _, ?_, by rw [e1]; exact z⟩
        simp only [Instr.sliceAt, run_bind, QV hu, Instr.slice]
        rw [Q2n (m := m) (μ := μ) (l := l) (h := hh) true w hlo hhi bl bh (by omega)]
        simp only [run_bind, Q1E hok, Q1e]
      · cases h
    · cases h
  · rename_i t xs
    split at h
    · rename_i e l hh hu bl bh
      split at h
      · rename_i hok
        cases h
        simp only [beq_iff_eq] at hok
        simp only [decide_eq_true_eq] at hvc
        obtain ⟨a, cap, he, hcap, hd⟩ := hx.one rfl rfl
        cases he
        refine ⟨rfl, .slice (if cap = l.toNat then a else a.map (·.add (l.toNat * t.size))) (hh.toNat - l.toNat) (cap - l.toNat), ?_, ?_⟩
        · simp only [Instr.sliceAt, run_bind, QV hu, Instr.slice]
          rw [Q2n (m := m) (μ := μ) (l := l) (h := hh) true w hlo hhi bl bh (by omega)]
          simp only [run_bind, Q1E hok, Q1e]
        · exact QeL l.toNat hh.toNat (by omega) (by omega) hd hcap rfl _ rfl
      · cases h
    · cases h
  · rename_i t x
    cases t <;> simp only at h <;> try (cases h; done)
    rename_i n t
    split at h
    · rename_i n' e hu
      split at h
      · rename_i l hh bl bh
        split at h
        · rename_i hok
          cases h
          simp only [Bool.and_eq_true, beq_iff_eq] at hok
          obtain ⟨rfl, hsz⟩ := hok
          simp only [decide_eq_true_eq] at hvc
          obtain ⟨ad, c, he, hsp, hm, hd⟩ := hx.one rfl rfl
          cases he
          simp only [DRel] at hd
          obtain ⟨d1, d2, d3⟩ := hd
          obtain ⟨cs, hmb, hle, hcc⟩ := Q3s hm
          have hrow : ∀ i, i < (x : List t.den).length → ∃ ad' c', some ad = some ad' ∧ ad'.spot = none ∧ m.cells ad'.block (ad'.off + i * t.size) t.size = some c' ∧ DRel m t ((x : List t.den).getD i t.zero) c' := by
            intro i hi'
            rw [d1] at hi'
            have hmul : (i + 1) * t.size ≤ n' * t.size := Nat.mul_le_mul_right _ hi'
            rw [Nat.add_mul] at hmul
            simp only [Ty.size] at hle hcc
            refine ⟨ad, _, rfl, hsp, ?_, d3 i hi'⟩
            subst hcc
            simp only [Mem.cells, hmb]
            rw [if_pos (by omega), Q1L _ _ _ _ _ (by omega)]
          refine ⟨rfl, .slice (some (if n' = l.toNat then ad else ad.add (l.toNat * t.size))) (hh.toNat - l.toNat) (n' - l.toNat), ?_, ?_⟩
          · simp only [Instr.sliceAt, run_bind, QV hu, Instr.sureAddr, Q1e]
            rw [Q2n (m := m) (μ := μ) (l := l) (h := hh) false w hlo hhi bl bh (by omega)]
            simp only [run_bind, Q1E hsz, Q1e]
          · have := QeL (m := m) (a := some ad) (cap := n') (len' := hh.toNat - l.toNat) l.toNat hh.toNat (by omega) (by rw [d1]; omega) hrow (by omega) rfl (n' - l.toNat) rfl
            show DRel m (.sl t) _ _
            by_cases hq : n' = l.toNat
            · rw [if_pos hq] at this ⊢; exact this
            · rw [if_neg hq] at this ⊢; exact this
        · cases h
      · cases h
    · cases h
  · rename_i id
    split at h
    · rename_i t xs hc
      split at h
      · rename_i e l hh hu bl bh
        split at h
        · rename_i hok
          cases h
          simp only [beq_iff_eq] at hok
          simp only [decide_eq_true_eq] at hvc
          obtain ⟨lc, a, cap, hl, hs, hcap, rfl, ha⟩ := Q4V rh hc hx
          refine ⟨rfl, .slice (if cap = l.toNat then a else a.map (·.add (l.toNat * t.size))) (hh.toNat - l.toNat) (cap - l.toNat), ?_, ?_⟩
          · simp only [Instr.sliceAt, run_bind, QV hu, Instr.slice]
            rw [Q2n (m := m) (μ := μ) (l := l) (h := hh) true w hlo hhi bl bh (by omega)]
            simp only [run_bind, Q1E hok, Q1e]
          · have := QcA (m := m) (p := []) (lo := l.toNat) (hi := hh.toNat) (off := 0) (len := xs.length) (cap := cap) (a := a) (n := xs.length) (t := t) (o := 0) hl (by simp only [Sh.offP, hs]) (by omega) hcap
              (by rcases ha with ⟨rfl, h2⟩ | h2
                  · exact .inl ⟨by simp, fun _ => by rw [Nat.zero_add]; exact h2⟩
                  · exact .inr h2) (by omega) (by omega)
            rw [Nat.zero_add] at this
            have e1 : (hh - l).toNat = hh.toNat - l.toNat := by omega
            rw [e1]; exact this
        · cases h
      · cases h
    · cases h
end Go.Am
namespace Go.Am
open Go
theorem Q4w {m : Mem} {t : Ty} {xs : List t.den} {cs : List Value} {N off k : Nat} (h : DRel m (.arr N t) xs cs) (hle : off + k ≤ N) : DRel m (.arr k t) ((xs.drop off).take k) ((cs.drop (off * t.size)).take (k * t.size)) := by
 simp only [DRel] at h ⊢
 obtain ⟨d1, d2, d3⟩ := h
 have hmul : (off + k) * t.size ≤ N * t.size := Nat.mul_le_mul_right _ hle
 rw [Nat.add_mul] at hmul
 refine ⟨by simp [d1]; omega, by simp [d2]; omega, fun i hin => ?_⟩
 have e1 : ((xs.drop off).take k).getD i t.zero = xs.getD (off + i) t.zero := by
  simp only [List.getD_eq_getElem?_getD, List.getElem?_take, if_pos hin, List.getElem?_drop]
 rw [e1]
 have hm : (i + 1) * t.size ≤ k * t.size := Nat.mul_le_mul_right _ hin
 rw [Nat.add_mul] at hm
 rw [Q1L _ _ _ _ _ (by omega), ← Nat.add_mul]
 exact d3 _ (by omega)
theorem Q6l {m : Mem} {μ : LMap} {H : Heap} {w : World} (rh : RH m μ H w) {id : Nat} {c x : AVal} {p : List Nat} {l : Loc} {o : Nat} {s : Sh} (hi : H[id]? = some (some c)) (hg : getP c p = some x)
  (hl : μ id = some l) (ho : l.sh.offP p = some (o, s)) : ∃ cs, CRel m μ x cs := by
 obtain ⟨l', hb⟩ := rh.blk id c hi
 have : l' = l := Option.some.inj (hb.loc.symm.trans hl)
 subst this
 rw [hb.sh] at ho
 have key : ∀ cs, CRel m μ c cs → ∃ cs, CRel m μ x cs := by
  intro cs hc
  obtain ⟨_, x', hx', _, hr⟩ := Q2q hc ho
  rw [hg] at hx'; cases hx'
  exact ⟨_, hr⟩
 rcases hb.cells with ⟨_, _, _, p4⟩ | ⟨_, _, _, _, _, _, _, _, _, g5⟩
 ·exact key _ p4
 ·exact key _ g5
theorem Qcl {P : Program} {w : World} (a : Addr) : (loadCells a 0).run P w = .ok #[] w := rfl
theorem Q5K {P : Program} {m : Mem} {μ : LMap} {H : Heap} {w : World} (rh : RH m μ H w) {id : Nat} {c y : AVal} {p : List Nat} {l : Loc} {o N off len cap k : Nat} {t : Ty} {xs : List t.den} {a : Option Addr} (hi : H[id]? = some (some c)) (hg : getP c p = some y)
  (hl : μ id = some l) (ho : l.sh.offP p = some (o, .arr N t)) (hy : ∀ cs, CRel m μ y cs → DRel m (.arr N t) xs cs) (hle : off + len ≤ N) (hlc : len ≤ cap) (ha : a = some ⟨l.b, l.off + o + off * t.size, none⟩ ∨ cap = 0) (hk : k ≤ len) :
  ∃ cells, (Builtin.firstCells t.size k (.slice a len cap)).run P w = .ok cells w ∧ DRel m (.arr k t) ((xs.drop off).take k) cells.toList := by
 obtain ⟨cs0, h0⟩ := Q6l rh hi hg hl ho
 rcases Nat.eq_zero_or_pos (k * t.size) with hz | hz
 ·have := Q4w (k := k) (hy _ h0) (by omega : off + k ≤ N)
  rw [hz] at this
  refine ⟨#[], ?_, by simpa using this⟩
  cases a with
  | none => rfl
  | some ad => simp only [Builtin.firstCells, hz]; rfl
 ·have hk0 : 0 < k := Nat.pos_of_ne_zero (fun e => by subst e; simp at hz)
  have ha' : a = some ⟨l.b, l.off + o + off * t.size, none⟩ := by
   rcases ha with h | h
   ·exact h
   ·omega
  subst ha'
  obtain ⟨hs, _, hle2, hpos⟩ := Q3e rh hi hg hl ho
  have hkN : k * t.size ≤ N * t.size := Nat.mul_le_mul_right _ (by omega)
  have hmul : (off + k) * t.size ≤ N * t.size := Nat.mul_le_mul_right _ (by omega)
  rw [Nat.add_mul] at hmul
  simp only [Sh.size] at hle2 hpos
  obtain ⟨_, _, cs, E, fz, g1, g2, _, g4, _, g6⟩ := hpos (by omega)
  have := Q4w (k := k) (hy _ g6) (by omega : off + k ≤ N)
  rw [Q1L _ _ _ _ _ (by omega)] at this
  refine ⟨((cs.toList.drop (l.off + o + off * t.size)).take (k * t.size)).toArray, ?_, by simpa using this⟩
  simp only [Builtin.firstCells]
  exact Q4F g1 (by omega)
theorem Q9g {P : Program} {m : Mem} {μ : LMap} {H : Heap} {w : World} (rh : RH m μ H w) {x : AVal} {v : Value} {t : Ty} {xs : List t.den} {ids : List Nat} (hx : VRel m μ x v) (h : Q3Y H x = some ⟨t, xs, ids⟩) :
  ∃ a cap, v = .slice a xs.length cap ∧ ∀ k, k ≤ xs.length → ∃ cells, (Builtin.firstCells t.size k v).run P w = .ok cells w ∧ DRel m (.arr k t) (xs.take k) cells.toList := by
 cases x <;> simp only [Q3Y] at h <;> try (cases h; done)
 ·rename_i id p off len
  split at h
  ·rename_i c hi
   split at h
   ·rename_i N t' ys hg
    cases h
    obtain ⟨l, o, n, t', a, cap, hl, ho, hle, hlc, he, ha⟩ := hx.one rfl rfl
    cases he
    obtain ⟨hs, _⟩ := Q3e rh hi hg hl ho
    cases hs
    have hlen : ((ys.drop off).take len).length = len := by
     obtain ⟨cs0, h0⟩ := Q6l rh hi hg hl ho
     have : ys.length = N := h0.1
     simp; omega
    refine ⟨a, cap, by rw [hlen], fun k hk => ?_⟩
    rw [hlen] at hk
    obtain ⟨cells, h1, h2⟩ := Q5K (P := P) (k := k) rh hi hg hl ho (fun cs h => h) hle hlc (ha.imp (fun z => z.1) (fun z => z)) hk
    refine ⟨cells, h1, ?_⟩
    rw [List.take_take, Nat.min_eq_left hk]; exact h2
   ·rename_i t' ys hg
    cases h
    obtain ⟨l, o, n, t', a, cap, hl, ho, hle, hlc, he, ha⟩ := hx.one rfl rfl
    cases he
    obtain ⟨hs, _⟩ := Q3e rh hi hg hl ho
    cases hs
    have hlen : ((ys.drop off).take len).length = len := by simp; omega
    refine ⟨a, cap, by rw [hlen], fun k hk => ?_⟩
    rw [hlen] at hk
    obtain ⟨cells, h1, h2⟩ := Q5K (P := P) (k := k) rh hi hg hl ho (fun cs h => h) hle hlc (ha.imp (fun z => z.1) (fun z => z)) hk
    refine ⟨cells, h1, ?_⟩
    rw [List.take_take, Nat.min_eq_left hk]; exact h2
   ·cases h
  ·cases h
 ·rename_i t' ys
  cases h
  obtain ⟨a, cap, he, hcap, hd⟩ := hx.one rfl rfl
  cases he
  refine ⟨a, cap, rfl, fun k hk => ?_⟩
  rcases Nat.eq_zero_or_pos k with rfl | hk0
  ·refine ⟨#[], ?_, by simp [DRel]⟩
   cases a with
   | none => rfl
   | some ad => simp only [Builtin.firstCells, Nat.zero_mul]; rfl
  ·obtain ⟨ad, c0, rfl, hsp, hm0, _⟩ := hd 0 (by omega)
   obtain ⟨cs, hmb, _, _⟩ := Q3s hm0
   obtain ⟨E, fz, hb⟩ := rh.mem _ _ hmb
   have hadd : ad = ⟨ad.block, ad.off, none⟩ := by cases ad; simp_all
   have each : ∀ i, i < xs.length → ad.off + i * t.size + t.size ≤ cs.size ∧ DRel m t (xs.getD i t.zero) ((cs.toList.drop (ad.off + i * t.size)).take t.size) := by
    intro i hi
    obtain ⟨ad', c, e, _, hm, hdi⟩ := hd i hi
    cases e
    obtain ⟨cs', hmb', hle', hc'⟩ := Q3s hm
    rw [hmb] at hmb'
    cases hmb'
    subst hc'
    exact ⟨hle', hdi⟩
   have hlast := (each (k - 1) (by omega)).1
   have hkk : k * t.size = (k - 1) * t.size + t.size := by
    rw [← Nat.succ_mul]; congr 1; omega
   refine ⟨((cs.toList.drop ad.off).take (k * t.size)).toArray, ?_, ?_⟩
   ·rw [hadd]
    simp only [Builtin.firstCells]
    exact Q4F hb (by omega)
   ·simp only [DRel]
    refine ⟨by simp; omega, by simp; omega, fun i hi => ?_⟩
    have hmi : (i + 1) * t.size ≤ k * t.size := Nat.mul_le_mul_right _ hi
    rw [Nat.add_mul] at hmi
    rw [Q1L _ _ _ _ _ (by omega)]
    have e1 : (xs.take k).getD i t.zero = xs.getD i t.zero := by
     simp only [List.getD_eq_getElem?_getD, List.getElem?_take, if_pos hi]
    rw [e1]
    exact (each i (by omega)).2
 ·rename_i id
  split at h
  ·rename_i t' ys hi
   cases h
   obtain ⟨l, a, cap, hl, hs, hcap, rfl, ha⟩ := Q4V rh hi hx
   refine ⟨a, cap, rfl, fun k hk => ?_⟩
   have ho : l.sh.offP [] = some (0, .arr xs.length t) := by simp only [Sh.offP, hs]
   have ha' : a = some ⟨l.b, l.off + 0 + 0 * t.size, none⟩ ∨ cap = 0 := by
    rcases ha with ⟨h, _⟩ | h
    ·exact .inl (by simpa using h)
    ·exact .inr h
   obtain ⟨cells, h1, h2⟩ := Q5K (P := P) (k := k) (off := 0) (xs := xs) (y := .vec t xs) rh hi rfl hl ho (fun cs h => h) (by omega) hcap ha' hk
   exact ⟨cells, h1, by simpa using h2⟩
  ·cases h
theorem QdG (m : Mem) (s : ByteArray) (k : Nat) (hk : k ≤ s.size) : DRel m (.arr k (.int .u8)) ((Qq s).take k) ((s.extract 0 k).data.map fun b => Value.int .u8 b.toNat).toList := by
 have hlen : (Qq s).length = s.size := by simp [Qq]
 have hx : (s.extract 0 k).data.toList = s.data.toList.take k := by simp [ByteArray.data_extract]
 simp only [DRel, Ty.size, Nat.mul_one]
 refine ⟨by rw [List.length_take, hlen]; omega, by simp [hx]; omega, fun i hi => ?_⟩
 simp only [Array.toList_map, hx]
 have hd : i < s.data.toList.length := by simp; omega
 apply List.ext_getElem?
 intro j
 simp only [List.getElem?_take, List.getElem?_drop, List.getElem?_map]
 rcases Nat.eq_zero_or_pos j with rfl | hj
 ·simp only [Nat.add_zero, if_pos hi, Nat.lt_one_iff, if_true, List.getElem?_eq_getElem hd, Option.map_some]
  simp only [List.getElem?_cons_zero, Option.some.injEq, Value.int.injEq, true_and]
  simp only [Qq, List.getD_eq_getElem?_getD, List.getElem?_take, if_pos hi, List.getElem?_map, List.getElem?_eq_getElem hd, Option.map_some, Option.getD_some]
 ·rw [if_neg (by omega)]
  simp; omega
theorem Q3m {P : Program} {m : Mem} {μ : LMap} {H : Heap} {w : World} (rh : RH m μ H w) {x : AVal} {v : Value} {t : Ty} {ys : List t.den} {ids : List Nat} (hx : VRel m μ x v) (h : Q3j H t x = some (ys, ids)) :
  (Builtin.lenOf v).run P w = .ok ys.length w ∧ ∀ k, k ≤ ys.length → ∃ cells, (Builtin.firstCells t.size k v).run P w = .ok cells w ∧ DRel m (.arr k t) (ys.take k) cells.toList := by
 have viaView : ∀ {q : Option ((t : Ty) × List t.den × List Nat)}, Q3Y H x = q → (match q with | some ⟨t', xs, ids⟩ => if h : t' = t then some ((h ▸ xs : List t.den), ids) else none | none => none) = some (ys, ids) →
   (Builtin.lenOf v).run P w = .ok ys.length w ∧ ∀ k, k ≤ ys.length → ∃ cells, (Builtin.firstCells t.size k v).run P w = .ok cells w ∧ DRel m (.arr k t) (ys.take k) cells.toList := by
  intro q hq hh
  cases q with
  | none => cases hh
  | some z =>
   obtain ⟨t', xs, ids'⟩ := z
   simp only at hh
   split at hh
   ·rename_i ht
    subst ht
    cases hh
    obtain ⟨a, cap, rfl, hc⟩ := Q9g (P := P) rh hx hq
    exact ⟨rfl, hc⟩
   ·cases hh
 cases x <;> first | exact viaView rfl h | skip
 ·rename_i s
  simp only [Q3j] at h
  split at h
  rotate_left
  ·cases h
  cases h
  have := hx.one rfl rfl
  cases this
  have hlen : (Qq s).length = s.size := by simp [Qq]
  rw [hlen]
  refine ⟨rfl, fun k hk => ⟨_, rfl, QdG m s k hk⟩⟩
 ·cases h
  have := hx.one rfl rfl
  cases this
  refine ⟨rfl, fun k hk => ⟨#[], rfl, ?_⟩⟩
  have : k = 0 := by simpa using hk
  subst this
  simp [DRel]
end Go.Am
