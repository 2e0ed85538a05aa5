/- A part of a proof: a machine of abstract values that tells what functions of the program compute, and the plain facts on them. -/
import Derived.Test.YtkcoljbmhmbmbaaGreatAm6
import Derived.Shelf.Strings.Builder1
import Derived.Shelf.SlMaps.Clone
import Derived.Test.YtkcoljbmhmbmbaaGreatAm7
set_option linter.unusedVariables false
set_option linter.unusedSimpArgs false
set_option linter.unnecessarySimpa false
set_option linter.unusedSectionVars false
namespace Go.Am
open Go Go.Shelf
def Q3d : AVal → Option (Nat × List Nat × TypeId)
 | .sfp id p T => some (id, p, T)
 | .pair a _ => Q3d a
 | _ => none
theorem Q56 {m : Mem} {μ : LMap} {id : Nat} {p : List Nat} {T : TypeId} : ∀ {c : AVal} {cs : List Value}, Q3d c = some (id, p, T) → CRel m μ c cs →
  ∃ v rest, cs = v :: rest ∧ CRel m μ (.sfp id p T) [v] ∧ ∀ v', CRel m μ (.sfp id p T) [v'] → CRel m μ c (v' :: rest)
 | .sfp id' p' T', cs, h, hc => by
  simp only [Q3d, Option.some.injEq, Prod.mk.injEq] at h
  obtain ⟨rfl, rfl, rfl⟩ := h
  obtain ⟨v, rfl⟩ := hc.one rfl
  exact ⟨v, [], rfl, hc, fun v' h => h⟩
 | .pair a b, cs, h, hc => by
  simp only [Q3d] at h
  simp only [CRel] at hc
  obtain ⟨v, rest, h1, h2, h3⟩ := Q56 h hc.1
  cases cs with
  | nil => simp at h1
  | cons v0 cs =>
   have hl := hc.1.length
   have hpos : 0 < a.size := by
    rw [← hl, h1]; simp
   obtain ⟨n, hn⟩ : ∃ n, a.size = n + 1 := ⟨a.size - 1, by omega⟩
   rw [hn, List.take_succ_cons] at h1
   obtain ⟨rfl, rfl⟩ := List.cons.inj h1
   refine ⟨v0, cs, rfl, h2, fun v' hv' => ?_⟩
   simp only [CRel]
   rw [hn, List.take_succ_cons, List.drop_succ_cons]
   have h4 := hc.2
   rw [hn, List.drop_succ_cons] at h4
   exact ⟨h3 v' hv', h4⟩
 | .undef, _, h, _ | .int _ _, _, h, _ | .bool _, _, h, _ | .str _, _, h, _ | .nilp, _, h, _ | .ptr _ _, _, h, _ | .nils, _, h, _ | .sl _ _ _ _, _, h, _ | .ros _ _, _, h, _ | .rop _ _, _, h, _
 | .arr _ _ _, _, h, _ | .vec _ _, _, h, _ | .vsl _, _, h, _ | .vbs _, _, h, _ | .unit, _, h, _ | .parr _ _ _ _, _, h, _ | .fn _ _, _, h, _ | .tup _, _, h, _ => by simp [Q3d] at h
open Go.RowKit Go.Proofs in
set_option maxHeartbeats 1000000 in
set_option maxRecDepth 100000 in
theorem Qcu {P : Program} {ρ : Ren} (L : Lays.n240 P ρ) (X : Builder.X72 P ρ) (b : Nat) (w : World) {T : TypeId} {n : Nat} (h0 : w.cell? ⟨b, 0, none⟩ = some (.pointer none)) (hsh : w.shape? b = some (T, n)) (hn : 0 < n)
  (hl : liesAt P P.depth T (n / P.cellsOf T) 0 (ρ.t 72) 1 = true) (hfz : w.frozen? ⟨b, 0, none⟩ = false) :
  Calls P (ρ.f 240) #[.pointer (some ⟨b, 0, none⟩)] w fun e w' => e = .returned (.tuple #[]) ∧ w' = w.setCell ⟨b, 0, none⟩ (.pointer (some ⟨b, 0, none⟩)) := by
 obtain ⟨j, hj, hjs⟩ := Option.map_eq_some_iff.1 X.sizeBuilder
 have mixed := L.mixed
 have t72 := L.t72; have a72 := L.a72; have z72 := L.z72; have v72 := L.v72; have u72 := Qa L.t72
 have t70 := L.t70; have a70 := L.a70; have z70 := L.z70; have v70 := L.v70; have u70 := Qa L.t70
 have t9 := L.t9; have a9 := L.a9; have z9 := L.z9; have v9 := L.v9; have u9 := Qa L.t9
 have t4 := L.t4; have a4 := L.a4; have z4 := L.z4; have v4 := L.v4; have u4 := Qa L.t4
 have t164 := L.t164; have a164 := L.a164; have z164 := L.z164; have v164 := L.v164; have u164 := Qa L.t164
 go_enter L.f240, Body.n240_ntmps ρ
 go_wp2
 rw [Lib.run_to_unsafe w ⟨b, 0, none⟩ L.t70 L.t164 hj (by rw [hjs]; decide) hsh hn]
 simp only [Result.andThen]
 rw [Oper.upon_value]
 go_wp2
 rw [run_callFunc_extern L.f276 (by kernel_rfl) (by kernel_rfl) (by kernel_rfl) (e := Extern.AbiNoEscape.same) (by kernel_rfl)]
 rw [Lib.run_noEscape]
 simp only [Result.andThen]
 rw [Oper.upon_value]
 go_wp2
 rw [Lib.run_from_unsafe w ⟨b, 0, none⟩ L.t164 L.t70 hj hsh hl]
 simp only [Result.andThen]
 rw [Oper.upon_value]
 go_wp2
 go_end0
 exact ⟨rfl, rfl⟩
def Q2W (R : List AVal → Heap → Option Res) : Qj :=
 ⟨fun args H k => match R args H with
  | some r => cond r.vc (k r.v r.H r.e) none
  | none => none⟩
theorem Q3N {P : Program} {f : Nat} {R : List AVal → Heap → Option Res} (h : ∀ args H r, R args H = some r → r.vc = true → Q7g P f args H r.v r.H r.e) : Qb P f (Q2W R) := by
 intro ρ args H k r hr
 simp only [Q2W] at hr
 split at hr
 ·rename_i q hq
  cases hv : q.vc with
  | true =>
   rw [hv, cond_true] at hr
   exact ⟨_, _, _, hr, h args H q hq hv⟩
  | false => rw [hv] at hr; cases hr
 ·cases hr
def Q3P : List Nat → List Nat → Bool
 | [], [] => true
 | a :: l, b :: r => Nat.beq a b && Q3P l r
 | _, _ => false
theorem Q4o : ∀ {a b : List Nat}, Q3P a b = true → a = b
 | [], [], _ => rfl
 | a :: l, b :: r, h => by
  simp only [Q3P, Bool.and_eq_true] at h
  rw [Nat.eq_of_beq_eq_true h.1, Q4o h.2]
 | [], _ :: _, h | _ :: _, [], h => by simp [Q3P] at h
def Qdk (Tw nw : Nat) (args : List AVal) (H : Heap) : Option Res :=
  match args with
    | [.ptr id p] =>
      (match H[id]? with
       | some (some c) =>
         (match Q3d c, c.sh.offP p with
          | some (id', p', T), some (0, _) =>
            (match Nat.beq id' id && (Q3P p' p && (Nat.beq T Tw && Nat.beq c.sh.size nw)) with
             | true => some ⟨true, .tup .unit, H, .touch H.length [id]⟩
             | false => none)
          | _, _ => none)
       | _ => none)
    | _ => none
def QcG (Tw nw : Nat) : Qj := Q2W (Qdk Tw nw)
open Go.Proofs in
theorem Q91 {P : Program} {ρ : Ren} {Tw nw : Nat} (L : Lays.n240 P ρ) (X : Builder.X72 P ρ) (hw : liesAt P P.depth Tw (nw / P.cellsOf Tw) 0 (ρ.t 72) 1 = true) (hname : (Body.n240 ρ).body.isSome = true ∧ ((Body.n240 ρ).name == "runtime.NumGoroutine") = false) : Qb P (ρ.f 240) (QcG Tw nw) := by
 refine Q3N fun args H r h _ => ?_
 simp only [Qdk] at h
 split at h
 ·rename_i id p
  split at h
  ·rename_i c hc
   split at h
   ·rename_i id' p' T s hf ho
    split at h
    ·rename_i hok
     simp only [Bool.and_eq_true] at hok
     obtain ⟨hk1, hk2, hk3, hk4⟩ := hok
     obtain rfl := Nat.eq_of_beq_eq_true hk3
     obtain rfl := Nat.eq_of_beq_eq_true hk4
     have hlies := hw
     obtain rfl := Nat.eq_of_beq_eq_true hk1
     obtain rfl := Q4o hk2
     cases h
     refine ⟨fun _ _ _ => rfl, ?_⟩
     intro m μ w vs rh hv
     match vs, hv with
     | [v0], hv =>
      obtain ⟨hv0, _⟩ := hv
      obtain ⟨l, o, s', hl, hlo, he⟩ := hv0
      obtain ⟨rfl, _⟩ := List.cons.inj he
      obtain ⟨l', hb⟩ := rh.blk id' c hc
      have : l' = l := Option.some.inj (hb.loc.symm.trans hl)
      subst this
      rw [hb.sh, ho] at hlo
      simp only [Option.some.injEq, Prod.mk.injEq] at hlo
      obtain ⟨rfl, rfl⟩ := hlo
      obtain ⟨body, hbody⟩ := Option.isSome_iff_exists.1 hname.1
      have sfpOf : ∀ {cs}, CRel m μ c cs → l'.E = T ∧ l'.off = 0 ∧ l'.tot = l'.sh.size ∧ 0 < l'.tot := by
       intro cs hcs
       obtain ⟨v, rest, h1, h2, h3⟩ := Q56 hf hcs
       obtain ⟨l2, o2, s2, g1, g2, g3, g4, g5, _⟩ := h2
       have : l2 = l' := Option.some.inj (g1.symm.trans hl)
       subst this
       exact ⟨g2, g3, g4, g5⟩
      rcases hb.cells with ⟨p1, p2, p3, p4⟩ | ⟨p0, gm, cs, E, fz, g1, g2, g3, g4, g5⟩
      ·have := sfpOf p4; omega
      ·obtain ⟨q1, q2, q3, q4⟩ := sfpOf g5
       obtain ⟨cs1, fz1, k1⟩ := rh.typ id' c l' hc hl p0
       rw [g1] at k1
       cases k1
       rw [q2, Nat.add_zero]
       rw [q2, List.drop_zero] at g5
       have hsz : c.sh.size = l'.tot := by rw [q3, hb.sh]
       have hcl : cs.toList.length = cs.size := Array.length_toList
       rw [List.take_of_length_le (by omega)] at g5
       obtain ⟨v, rest, h1, h2, h3⟩ := Q56 hf g5
       have hcell : w.cell? ⟨l'.b, 0, none⟩ = some v := by
        rw [Q4b g1, ← Array.getElem?_toList, h1]; rfl
       refine ⟨.enter (ρ.f 240) #[.pointer (some ⟨l'.b, 0, none⟩)], w, Q1z L.f240 hbody hname.2 _ w, .inl ⟨_, _, rfl, ?_⟩⟩
       obtain ⟨l2, o2, s2, f1, f2, f3, f4, f5, f6, f7⟩ := h2
       have : l2 = l' := Option.some.inj (f1.symm.trans hl)
       subst this
       rw [hb.sh, ho] at f6
       simp only [Option.some.injEq, Prod.mk.injEq] at f6
       obtain ⟨rfl, rfl⟩ := f6
       rcases f7 with f7 | f7
       ·obtain ⟨rfl, _⟩ := List.cons.inj f7
        have hfz : w.frozen? ⟨l2.b, 0, none⟩ = false := by
         have := g3 0 p0
         simp only [World.frozen?, g1, Bool.and_eq_false_iff, decide_eq_false_iff_not]
         by_cases z1 : fz.1 ≤ 0
         ·exact .inr fun z2 => this ⟨z1, z2⟩
         ·exact .inl z1
        refine (Qcu L X l2.b w (T := T) (n := l2.tot) hcell (by simp [World.shape?, g1, g2, q1]) p0 (by rw [← hsz]; exact hlies) hfz).mono fun e w' he => ?_
        obtain ⟨rfl, rfl⟩ := he
        have hlt : 0 < cs.size := by omega
        obtain ⟨w2, hr, hp⟩ := Q5Z (P := P) (o := 0) (v := .pointer (some ⟨l2.b, 0, none⟩)) g1 hlt (g3 0 p0) rfl
        have hw2 : w2 = w.setCell ⟨l2.b, 0, none⟩ (.pointer (some ⟨l2.b, 0, none⟩)) := by
         simp only [store, Sem.run, hcell, hfz] at hr
         simpa using hr.symm
        subst hw2
        refine ⟨.tuple #[], m, μ, rfl, ⟨#[], rfl, rfl⟩, ?_⟩
        have hput := rh.put (a' := c) hc hl p0 g1 hp rfl (by simp) (by
         rw [q2, List.drop_zero, Array.toList_setIfInBounds, h1, List.set_cons_zero, List.take_of_length_le (by
          have : (v' : Value) → (v' :: rest).length = cs.size := fun v' => by rw [← hcl, h1]; rfl
          rw [this]; omega)]
         exact h3 _ ⟨l2, 0, s, hl, f2, f3, f4, f5, by rw [hb.sh]; exact ho, .inr rfl⟩) (fun h => h)
        have hset : H.set id' (some c) = H := by
         apply List.ext_getElem?
         intro i
         by_cases hi : i = id'
         ·subst hi
          rw [List.getElem?_set_self (List.getElem?_eq_some_iff.1 hc).1, hc]
         ·rw [List.getElem?_set_ne (Ne.symm hi)]
        rw [hset] at hput
        exact hput
       ·obtain ⟨rfl, _⟩ := List.cons.inj f7
        refine (Go.Proofs.Any.Builder_copyCheck_used L X l2.b w hcell).mono fun e w' he => ?_
        obtain ⟨rfl, rfl⟩ := he
        exact ⟨.tuple #[], m, μ, rfl, ⟨#[], rfl, rfl⟩, Post.refl rh⟩
    ·cases h
   ·cases h
  ·cases h
 ·cases h
end Go.Am
namespace Go.Am
open Go Go.Shelf
theorem Qb5 {P : Program} {e : TypeId} (hc : P.cellsOf e = 1) (count off n : Nat) (hn : off + n ≤ count) : liesAt P P.depth e count off e n = true := by
 have hd : P.depth = (2 * (P.types.size + Made.depth) + 1) + 1 := rfl
 rw [hd]
 simp only [liesAt, Bool.or_eq_true]
 left
 rw [hd]
 simp [rowAt, hc, hn, sameLayout]
 exact .inl (Nat.mod_one off)
theorem Q5O {P : Program} {w : World} : ∀ (l : List Int) (a : Addr) (acc : ByteArray), (∀ j x, l[j]? = some x → w.cell? (a.add j) = some (.int .u8 x)) →
  (loadBytes a acc l.length).run P w = .ok ⟨acc.data ++ (l.map fun n => n.toNat.toUInt8).toArray⟩ w
 | [], a, acc, _ => by simp [loadBytes]
 | x :: l, a, acc, h => by
  have h0 : w.cell? a = some (.int .u8 x) := by
   have := h 0 x rfl
   simpa [Addr.add] using this
  have ih := Q5O (P := P) (w := w) l (a.add 1) (acc.push x.toNat.toUInt8) (fun j y hy => by
   have := h (j + 1) y (by simpa using hy)
   have e : (a.add 1).add j = a.add (j + 1) := by
    unfold Addr.add
    by_cases hj : j = 0
    ·subst hj; simp
    ·simp [hj]; omega
   rw [e]; exact this)
  simp only [List.length_cons, loadBytes, Sem.run_bind, run_load, h0, Result.andThen]
  rw [ih]
  congr 1
  apply ByteArray.ext
  simp [ByteArray.push]
theorem Q4y {P : Program} (w : World) (pt it ty e : TypeId) (hp : P.underlying pt = some (.pointer e)) (hc : P.cellsOf e = 1) (g off cells : Nat) (hsh : w.shape? g = some (e, cells)) (l : List Int) (h0 : l ≠ []) (hn : off + l.length ≤ cells) (h63 : l.length ≤ 9223372036854775807)
  (hcell : ∀ j x, l[j]? = some x → w.cell? ((⟨g, off, none⟩ : Addr).add j) = some (.int .u8 x)) :
  (Builtin.unsafeString_ #[pt, it] ty #[.pointer (some ⟨g, off, none⟩), .int .i64 l.length]).run P w = .ok (.string (bytesOf l)) (w.freeze ⟨g, off, none⟩ l.length) := by
 have hl : l.length ≠ 0 := by simpa using h0
 have hlb := Q5O (P := P) (w := w) l ⟨g, off, none⟩ .empty hcell
 have hlies := Qb5 (P := P) hc (cells / P.cellsOf e) off l.length (by rw [hc]; simpa using hn)
 have h63' : ¬ (9223372036854775807 : Int) < (l.length : Int) := by omega
 have hdef : Builtin.unsafeString_ #[pt, it] ty #[.pointer (some ⟨g, off, none⟩), .int .i64 l.length] =
   (do
    let n ← asInt (.int .i64 l.length)
    if n < 0 then runtimePanic (.error "unsafe.String: len out of range")
    if n > IntKind.i64.max then unsupported (.unsafePointer "String: a length above the largest int")
    if n = 0 then pure (.string .empty)
    else if ← variablesAt ⟨g, off, none⟩ (← elemOf pt) n.toNat then do
     let s ← loadBytes ⟨g, off, none⟩ .empty n.toNat
     freeze ⟨g, off, none⟩ n.toNat
     pure (.string s)
    else unsupported (.unsafePointer "String: not so many bytes at ptr")) := rfl
 rw [hdef]
 have hmax : IntKind.i64.max = 9223372036854775807 := rfl
 have hneg : ¬ (l.length : Int) < 0 := by omega
 simp [asInt, asIntOf, hmax, h63', hneg, hl, variablesAt, hsh, elemOf, Qa hp, hlies, hlb]
 rfl
open Go.RowKit Go.Proofs in
set_option maxHeartbeats 2000000 in
set_option maxRecDepth 100000 in
theorem Qa7 {P : Program} {ρ : Ren} (L : Lays.n169 P ρ) (X : Builder.Extra P ρ) (b : Nat) (w w2 : World) {a : Option Addr} {n cap : Nat} {pv : Value} {s : ByteArray} (c1 : w.drew.cell? ⟨b, 1, none⟩ = some (.slice a n cap))
  (hSD : (Builtin.unsafeSliceData_ #[(ρ.t 37)] (ρ.t 127) #[.slice a n cap]).run P w.drew = .ok pv w.drew)
  (hUS : (Builtin.unsafeString_ #[(ρ.t 127), (ρ.t 3)] (ρ.t 9) #[pv, .int .i64 n]).run P w.drew = .ok (.string s) w2) :
  Calls P (ρ.f 169) #[.pointer (some ⟨b, 0, none⟩)] w fun e w' => e = .returned (.string s) ∧ w' = w2 := by
 have mixed := L.mixed
 have t72 := L.t72; have a72 := L.a72; have z72 := L.z72; have v72 := L.v72; have u72 := Qa L.t72
 have t70 := L.t70; have a70 := L.a70; have z70 := L.z70; have v70 := L.v70; have u70 := Qa L.t70
 have t37 := L.t37; have a37 := L.a37; have z37 := L.z37; have v37 := L.v37; have u37 := Qa L.t37
 have t127 := L.t127; have a127 := L.a127; have z127 := L.z127; have v127 := L.v127; have u127 := Qa L.t127
 have t3 := L.t3; have a3 := L.a3; have z3 := L.z3; have v3 := L.v3; have u3 := Qa L.t3
 have t9 := L.t9; have a9 := L.a9; have z9 := L.z9; have v9 := L.v9; have u9 := Qa L.t9
 have t5 := X.t5; have a5 := X.a5; have z5 := X.z5; have v5 := X.v5; have u5 := Qa X.t5
 go_enter L.f169, Body.n169_ntmps ρ
 go_wp2
 go_region_o
 all_goals (go_wp2; go_ret; exact ⟨rfl, rfl⟩)
def QcK (args : List AVal) (H : Heap) : Option Res :=
  match args with
    | [.ptr id p] =>
      (match H[id]? with
       | some (some c) =>
         (match Q3d c, c.sh.offP p, getP c p with
          | some (id', p', _), some (0, _), some (.pair (.sfp _ _ _) (.pair (.vbs j) _)) =>
            (match Nat.beq id' id && (Q3P p' p && !Nat.beq j id) with
             | true =>
              (match H[j]? with
               | some (some (.vec (.int .u8) xs)) => some ⟨Nat.ble xs.length 9223372036854775807, .str (bytesOf xs), (H.set id none).set j none, .touch H.length [id, j]⟩
               | _ => none)
             | false => none)
          | _, _, _ => none)
       | _ => none)
    | _ => none
def Qaz : Qj := Q2W QcK
theorem Qdd {m : Mem} {μ : LMap} {H : Heap} {w : World} (h : RH m μ H w) (i j : Nat) : Post m μ H w m μ ((H.set i none).set j none) w := (h.kill i).trans ((h.kill i).rh.kill j)
theorem RH.froze {m : Mem} {μ : LMap} {H H' : Heap} {w w' : World} {g off n : Nat} (h : RH m μ H w) (hp : Post m μ H w m μ H' w) (hg : m g = none) (hno : ¬ Q1q μ H' g) (ho : Q1q μ H g) (hw : w' = w.freeze ⟨g, off, none⟩ n) : Post m μ H w m μ H' w' := by
 have hkeep : ∀ b, b ≠ g → w'.heap[b]? = w.heap[b]? := by
  intro b hb
  subst hw
  unfold World.freeze
  split
  ·rfl
  ·simp only [Array.getElem?_modify]
   rw [if_neg (Ne.symm hb)]
 have hsize : w'.heap.size = w.heap.size := by
  subst hw
  unfold World.freeze
  split
  ·rfl
  ·simp
 have hos : w'.os = w.os ∧ w'.tape = w.tape ∧ w'.output = w.output := by
  subst hw
  unfold World.freeze
  split <;> exact ⟨rfl, rfl, rfl⟩
 have hne : ∀ i a l, H'[i]? = some (some a) → μ i = some l → (0 < l.tot ∨ l.mp = true) → l.b ≠ g := fun i a l hi hl hz e => hno ⟨i, a, l, hi, hl, hz, e⟩
 refine ⟨⟨fun b cs hb => ?_, fun i a hi => ?_, hp.rh.inj, hp.rh.dom, fun i a l hi hl hz => ?_, hp.rh.vb, fun i a l hi hl hpz => by
  obtain ⟨g0, kt, vt, xs, es, c, e, g1, g2⟩ := hp.rh.mp i a l hi hl hpz
  exact ⟨g0, kt, vt, xs, es, c, e, by rw [hkeep _ (hne i a l hi hl (.inr hpz))]; exact g1, g2⟩, hp.rh.mpi⟩, hp.ml, hp.μl, hos.1, hos.2.1, hos.2.2, by omega, fun b hb hnb => ?_, fun b h1 h2 => hp.grow b h1 h2, hp.mgrow, hp.hol⟩
 ·obtain ⟨E, fz, h1⟩ := hp.rh.mem b cs hb
  exact ⟨E, fz, by rw [hkeep b (fun e => by subst e; rw [hg] at hb; cases hb)]; exact h1⟩
 ·obtain ⟨l, hb⟩ := hp.rh.blk i a hi
  refine ⟨l, hb.loc, hb.sh, ?_⟩
  rcases hb.cells with ⟨p1, p2, p3, p4⟩ | ⟨p0, gm, cs, E, fz, g1, g2⟩
  ·exact .inl ⟨p1, p2, p3, p4⟩
  ·exact .inr ⟨p0, gm, cs, E, fz, by rw [hkeep _ (hne i a l hi hb.loc (.inl p0))]; exact g1, g2⟩
 ·obtain ⟨cs, fz, h1⟩ := hp.rh.typ i a l hi hl hz
  exact ⟨cs, fz, by rw [hkeep _ (hne i a l hi hl (.inl hz))]; exact h1⟩
 ·rw [hkeep b (fun e => hnb (e ▸ ho))]
open Go.Proofs in
theorem Qbx {P : Program} {ρ : Ren} (L : Lays.n169 P ρ) (X : Builder.Extra P ρ) (h5 : ρ.t 5 = 5) (hname : (Body.n169 ρ).body.isSome = true ∧ ((Body.n169 ρ).name == "runtime.NumGoroutine") = false) : Qb P (ρ.f 169) Qaz := by
 refine Q3N fun args H r h hvc => ?_
 simp only [QcK] at h
 split at h
 ·rename_i id p
  split at h
  ·rename_i c hc
   split at h
   ·rename_i id' p' T s i1 q1 T1 j r1 hf ho hg
    split at h
    ·rename_i hok
     simp only [Bool.and_eq_true, Bool.not_eq_true'] at hok
     obtain ⟨hk1, hk2, hk3⟩ := hok
     obtain rfl := Nat.eq_of_beq_eq_true hk1
     obtain rfl := Q4o hk2
     have hj : j ≠ id' := fun e => by subst e; rw [Nat.beq_refl] at hk3; cases hk3
     split at h
     ·rename_i xs hxs
      cases h
      have hmax : xs.length ≤ 9223372036854775807 := by simpa [Nat.ble_eq] using hvc
      refine ⟨fun i hi hn => ?_, ?_⟩
      ·simp only [List.mem_cons, List.not_mem_nil, or_false, not_or] at hn
       rw [List.getElem?_set_ne (Ne.symm hn.2), List.getElem?_set_ne (Ne.symm hn.1)]
      intro m μ w vs rh hv
      match vs, hv with
      | [v0], hv =>
       obtain ⟨hv0, _⟩ := hv
       obtain ⟨l, o, s', hl, hlo, he⟩ := hv0
       obtain ⟨rfl, _⟩ := List.cons.inj he
       obtain ⟨l', hb⟩ := rh.blk id' c hc
       have : l' = l := Option.some.inj (hb.loc.symm.trans hl)
       subst this
       rw [hb.sh, ho] at hlo
       simp only [Option.some.injEq, Prod.mk.injEq] at hlo
       obtain ⟨rfl, rfl⟩ := hlo
       obtain ⟨body, hbody⟩ := Option.isSome_iff_exists.1 hname.1
       have sfpOf : ∀ {cs}, CRel m μ c cs → l'.off = 0 ∧ l'.tot = l'.sh.size ∧ 0 < l'.tot := by
        intro cs hcs
        obtain ⟨v, rest, h1, h2, h3⟩ := Q56 hf hcs
        obtain ⟨l2, o2, s2, g1, g2, g3, g4, g5, _⟩ := h2
        have : l2 = l' := Option.some.inj (g1.symm.trans hl)
        subst this
        exact ⟨g3, g4, g5⟩
       rcases hb.cells with ⟨p1, p2, p3, p4⟩ | ⟨p0, gm, cs, E, fz, g1, g2, g3, g4, g5⟩
       ·have := sfpOf p4; omega
       obtain ⟨q2, q3, q4⟩ := sfpOf g5
       have hcell1 : ∃ v1, cs[1]? = some v1 ∧ CRel m μ (.vbs j) [v1] := by
        obtain ⟨hle, x, hx, hxs, hxr⟩ := Q1E g5 ho
        rw [hg] at hx
        cases hx
        simp only [CRel, AVal.size, AVal.sh, Sh.size] at hxr
        obtain ⟨_, h2, _⟩ := hxr
        have hb2 : CRel m μ (.vbs j) (List.take 1 (List.drop 1 (List.take s.size (List.drop 0 (List.take c.sh.size (List.drop l'.off cs.toList)))))) := h2
        obtain ⟨v1, hv1⟩ := hb2.one rfl
        rw [hv1] at hb2
        refine ⟨v1, ?_, hb2⟩
        have h0 := congrArg (·[0]?) hv1
        simp only [List.getElem?_cons_zero, List.getElem?_take, List.getElem?_drop, q2] at h0
        split at h0
        ·split at h0
         ·split at h0
          ·rw [← Array.getElem?_toList]
           simpa using h0
          ·cases h0
         ·cases h0
        ·cases h0
       obtain ⟨v1, hv1, l2, n, a, cap, hl2, hsh2, hcap, he1, ha⟩ := hcell1
       obtain ⟨rfl, _⟩ := List.cons.inj he1
       obtain ⟨l3, hb3⟩ := rh.blk j _ hxs
       have : l3 = l2 := Option.some.inj (hb3.loc.symm.trans hl2)
       subst this
       have hn : n = xs.length := by
        have := hb3.sh
        rw [hsh2] at this
        simp only [AVal.sh, Sh.arr.injEq] at this
        exact this.1
       subst hn
       rw [q2, Nat.add_zero]
       refine ⟨.enter (ρ.f 169) #[.pointer (some ⟨l'.b, 0, none⟩)], w, Q1z L.f169 hbody hname.2 _ w, .inl ⟨_, _, rfl, ?_⟩⟩
       have c1 : w.drew.cell? ⟨l'.b, 1, none⟩ = some (.slice a xs.length cap) := by
        have : w.drew.heap[l'.b]? = some (.cells cs E fz) := g1
        rw [Q4b this]; exact hv1
       have rhd := rh.drawn (w.drawn + 1)
       have hdrop : Post m μ H w m μ ((H.set id' none).set j none) w.drew := rhd.trans (Qdd rhd.rh id' j)
       by_cases h0 : xs = []
       ·subst h0
        have fin : ∀ pv, (Builtin.unsafeSliceData_ #[(ρ.t 37)] (ρ.t 127) #[.slice a 0 cap]).run P w.drew = .ok pv w.drew → (∃ q, pv = .pointer q) → Calls P (ρ.f 169) #[.pointer (some ⟨l'.b, 0, none⟩)] w (Came m μ H w (.str (bytesOf [])) ((H.set id' none).set j none)) := by
         rintro pv hsd ⟨q, rfl⟩
         refine (Qa7 L X l'.b w w.drew c1 hsd (Any.unsafeString_none L X w.drew q)).mono fun e w' he => ?_
         obtain ⟨rfl, rfl⟩ := he
         exact ⟨_, m, μ, rfl, rfl, hdrop⟩
        rcases ha with ⟨rfl, hc0, _⟩ | ⟨rfl, rfl⟩
        ·exact fin _ (Lib.run_unsafeSliceData_row _ _ _ _ _ _ (by omega)) ⟨_, rfl⟩
        ·exact fin _ rfl ⟨_, rfl⟩
       ·have hlen : 0 < xs.length := List.length_pos_iff.2 h0
        have ha' : a = some ⟨l3.b, l3.off, none⟩ ∧ 0 < cap ∧ l3.off + cap ≤ l3.tot := by
         rcases ha with h | ⟨h2, _⟩
         ·exact h
         ·omega
        obtain ⟨rfl, hc0, hroom⟩ := ha'
        rcases hb3.cells with ⟨z1, _⟩ | ⟨z0, zm, cs3, E3, fz3, z1, z2, z3, z4, z5⟩
        ·omega
        obtain ⟨cs4, fz4, k1⟩ := rh.typ j _ l3 hxs hl2 z0
        rw [z1] at k1
        have hE : l3.E = 5 := rh.vb j _ l3 hxs rfl hl2 z0
        have hE3 : E3 = 5 := by cases k1; exact hE
        subst hE3
        simp only [AVal.sh, Sh.size, Ty.size, Nat.mul_one] at z4 z5
        have z1' : w.drew.heap[l3.b]? = some (.cells cs3 5 fz3) := z1
        have hus := Q4y (P := P) w.drew (ρ.t 127) (ρ.t 3) (ρ.t 9) (ρ.t 5) L.t127 X.cellsByte l3.b l3.off cs3.size (by simp [World.shape?, z1', h5]) xs h0 (by omega) hmax (fun i x hx => by
         rw [Q2h, Q4b z1']
         obtain ⟨_, _, z6⟩ := z5
         have hi : i < xs.length := (List.getElem?_eq_some_iff.1 hx).1
         have z7 : List.take 1 (List.drop (i * 1) (List.take xs.length (List.drop l3.off cs3.toList))) = [Value.int .u8 (xs.getD i (Ty.zero (.int .u8)))] := z6 i hi
         have z8 := congrArg (·[0]?) z7
         simp only [List.getElem?_cons_zero, List.getElem?_take, List.getElem?_drop, Nat.mul_one, Nat.add_zero] at z8
         rw [if_pos (by omega), if_pos hi] at z8
         rw [← Array.getElem?_toList, z8, List.getD_eq_getElem?_getD, hx]
         rfl)
        refine (Qa7 L X l'.b w _ c1 (Lib.run_unsafeSliceData_row _ _ _ _ _ _ (by omega)) hus).mono fun e w' he => ?_
        obtain ⟨rfl, rfl⟩ := he
        refine ⟨_, m, μ, rfl, rfl, ?_⟩
        refine rhd.trans (RH.froze rhd.rh (Qdd rhd.rh id' j) zm ?_ ⟨j, _, l3, hxs, hl2, .inl z0, rfl⟩ rfl)
        rintro ⟨i2, a2, l4, y1, y2, y3, y4⟩
        have y5 := Q1X y1
        have y6 := Q1X y5.2
        exact y5.1 (Q61 rh y6.2 hxs y2 hl2 y3 (.inl z0) y4)
     ·cases h
    ·cases h
   ·cases h
  ·cases h
 ·cases h
end Go.Am
namespace Go.Am
open Go Go.Proofs Go.Shelf
theorem RH.mapCopy {m : Mem} {μ : LMap} {H : Heap} {w : World} (h : RH m μ H w) {kt vt : Ty} {xs : List (kt.den × vt.den)} {es : Array MapEntry} {clock : Nat} (hr : Q2t m kt vt xs es.toList clock) :
  Post m μ H w m (fun i => if i = H.length then some ⟨w.heap.size, 0, .unit, 0, 0, true⟩ else μ i) (H ++ [some (.mpc kt vt xs)]) { w with heap := w.heap.push (.map es clock) } := by
 have hdom : μ H.length = none := h.dom _ (Nat.le_refl _)
 have hμ : μ.le (fun j => if j = H.length then some ⟨w.heap.size, 0, .unit, 0, 0, true⟩ else μ j) := by
  intro j l' hl'
  show (if j = H.length then _ else μ j) = some l'
  rw [if_neg (fun e => by subst e; rw [hdom] at hl'; cases hl')]; exact hl'
 have hpush : ∀ b, b < w.heap.size → (w.heap.push (Obj.map es clock))[b]? = w.heap[b]? := fun b hb => by rw [Array.getElem?_push, if_neg (by omega)]
 have hnew : (w.heap.push (Obj.map es clock))[w.heap.size]? = some (Obj.map es clock) := by rw [Array.getElem?_push, if_pos rfl]
 refine ⟨⟨?_, ?_, ?_, ?_, ?_, ?_, ?_, ?_⟩, Mem.le_refl _, hμ, rfl, rfl, rfl, by show w.heap.size ≤ (w.heap.push _).size; simp, fun b hb _ => hpush b hb, ?_, fun _ _ h => .inl h, ⟨by simp, fun i hi h => by show (if i = H.length then _ else μ i) = none; rw [if_neg (by omega)]; exact h⟩⟩
 ·intro b cs hb
  obtain ⟨E, fz, h1⟩ := h.mem b cs hb
  exact ⟨E, fz, (hpush b (Q0Q h1)).trans h1⟩
 ·intro j x hj
  rcases Q0z hj with ⟨h1, h2⟩ | ⟨h1, h2⟩
  ·subst h1; subst h2
   exact ⟨⟨w.heap.size, 0, .unit, 0, 0, true⟩, by simp, rfl, .inl ⟨rfl, rfl, rfl, rfl⟩⟩
  ·obtain ⟨lj, hbj⟩ := h.blk j x h2
   refine ⟨lj, hμ _ _ hbj.loc, hbj.sh, ?_⟩
   rcases hbj.cells with ⟨p1, p2, p3, p4⟩ | ⟨p0, q1, c, E1, fz1, q2, q3⟩
   ·exact .inl ⟨p1, p2, p3, p4.mono (Mem.le_refl m) hμ⟩
   ·exact .inr ⟨p0, q1, c, E1, fz1, (hpush lj.b (Q0Q q2)).trans q2, q3.1, q3.2.1, q3.2.2.1, q3.2.2.2.mono (Mem.le_refl m) hμ⟩
 ·intro j k x y lj lk hj hk hlj hlk z1 z2 he
  rcases Q0z hj with ⟨h1, h2⟩ | ⟨h1, h2⟩
  ·subst h1
   simp only [if_true, Option.some.injEq] at hlj
   subst hlj; simp at z1
  ·rcases Q0z hk with ⟨h4, h5⟩ | ⟨h4, h5⟩
   ·subst h4
    simp only [if_true, Option.some.injEq] at hlk
    subst hlk; simp at z2
   ·have hlj : μ j = some lj := by simpa [Nat.ne_of_lt h1] using hlj
    have hlk : μ k = some lk := by simpa [Nat.ne_of_lt h4] using hlk
    exact h.inj j k x y lj lk h2 h5 hlj hlk z1 z2 he
 ·intro j hj
  simp only [List.length_append, List.length_cons, List.length_nil] at hj
  show (if j = H.length then _ else μ j) = none
  rw [if_neg (by omega)]; exact h.dom j (by omega)
 ·intro j x lj hj hlj hz
  rcases Q0z hj with ⟨h1, h2⟩ | ⟨h1, h2⟩
  ·subst h1
   simp only [if_true, Option.some.injEq] at hlj
   subst hlj; simp at hz
  ·have hlj : μ j = some lj := by simpa [Nat.ne_of_lt h1] using hlj
   obtain ⟨cs1, fz1, k1⟩ := h.typ j x lj h2 hlj hz
   exact ⟨cs1, fz1, (hpush lj.b (Q0Q k1)).trans k1⟩
 ·intro j x lj hj hx hlj hz
  rcases Q0z hj with ⟨h1, h2⟩ | ⟨h1, h2⟩
  ·subst h1
   simp only [if_true, Option.some.injEq] at hlj
   subst hlj; simp at hz
  ·have hlj : μ j = some lj := by simpa [Nat.ne_of_lt h1] using hlj
   exact h.vb j x lj h2 hx hlj hz
 ·intro j x lj hj hlj hpz
  rcases Q0z hj with ⟨h1, h2⟩ | ⟨h1, h2⟩
  ·subst h1; subst h2
   simp only [if_true, Option.some.injEq] at hlj
   subst hlj
   exact ⟨rfl, kt, vt, xs, es, clock, rfl, hnew, hr⟩
  ·have hlj : μ j = some lj := by simpa [Nat.ne_of_lt h1] using hlj
   obtain ⟨h0, kt', vt', xs', es', c, e1, e2, e3⟩ := h.mp j x lj h2 hlj hpz
   exact ⟨h0, kt', vt', xs', es', c, e1, (hpush lj.b (Q0Q e2)).trans e2, e3⟩
 ·have old : ∀ {k : Nat} {y : AVal} {lk : Loc}, k < H.length → H[k]? = some (some y) → μ k = some lk → lk.mp = true → lk.b < w.heap.size := by
   intro k y lk _ h2 hlk pk
   obtain ⟨_, _, _, _, es', c, _, e2, _⟩ := h.mp k y lk h2 hlk pk
   exact Q0Q e2
  intro j k x y lj lk hj hk pj pk hlj hlk he
  rcases Q0z hj with ⟨h1, h2⟩ | ⟨h1, h2⟩
  ·rcases Q0z hk with ⟨h4, h5⟩ | ⟨h4, h5⟩
   ·omega
   ·subst h1
    simp only [if_true, Option.some.injEq] at hlj
    have hlk : μ k = some lk := by simpa [Nat.ne_of_lt h4] using hlk
    have := old h4 h5 hlk pk
    subst hlj; simp only at he; omega
  ·rcases Q0z hk with ⟨h4, h5⟩ | ⟨h4, h5⟩
   ·subst h4
    simp only [if_true, Option.some.injEq] at hlk
    have hlj : μ j = some lj := by simpa [Nat.ne_of_lt h1] using hlj
    have := old h1 h2 hlj pj
    subst hlk; simp only at he; omega
   ·have hlj : μ j = some lj := by simpa [Nat.ne_of_lt h1] using hlj
    have hlk : μ k = some lk := by simpa [Nat.ne_of_lt h4] using hlk
    exact h.mpi j k x y lj lk h2 h5 pj pk hlj hlk he
 ·rintro b' ⟨j, x, lj, hj, hlj, q, he⟩ hb
  rcases Q0z hj with ⟨h1, h2⟩ | ⟨h1, h2⟩
  ·subst h1
   simp only [if_true, Option.some.injEq] at hlj
   subst hlj; simp only at he; omega
  ·have hlj : μ j = some lj := by simpa [Nat.ne_of_lt h1] using hlj
   exact ⟨j, x, lj, h2, hlj, q, he⟩
def Qd9 (args : List AVal) (H : Heap) : Option Res :=
  match args with
  | [.mp id] =>
    (match H[id]? with
     | some (some (.mpc kt vt xs)) => some ⟨true, .mp H.length, H ++ [some (.mpc kt vt xs)], .touch H.length []⟩
     | _ => none)
  | _ => none
def QdL : Qj := Q2W Qd9
theorem QcY {P : Program} {ρ : Ren} (L : SlLaysW.n5 P ρ) (hname : (SlBodyW.n5 ρ).body.isSome = true) : Qb P (ρ.f 5) QdL := by
 refine Q3N fun args H r h _ => ?_
 simp only [Qd9] at h
 split at h
 case h_2 => cases h
 rename_i id
 split at h
 case h_2 => cases h
 rename_i kt vt xs hi
 cases h
 refine ⟨fun i hi' _ => by rw [List.getElem?_append_left hi'], ?_⟩
 intro m μ w vs rh hv
 match vs, hv with
 | [v0], hv =>
  obtain ⟨hv0, _⟩ := hv
  obtain ⟨l, es, c, hl, hp, rfl, hw, hm⟩ := Q4d rh hi hv0
  obtain ⟨body, hbody⟩ := Option.isSome_iff_exists.1 hname
  obtain ⟨nm, hn, hf⟩ := L.f5
  refine ⟨.enter (ρ.f 5) #[.map (some l.b)], w, Q1z hf hbody hn _ w, .inl ⟨_, _, rfl, ?_⟩⟩
  refine (AnyW.maps_Clone L l.b es c w hw).mono fun e w' he => ?_
  obtain ⟨rfl, rfl⟩ := he
  exact ⟨.map (some w.heap.size), m, _, rfl, ⟨⟨w.heap.size, 0, .unit, 0, 0, true⟩, if_pos rfl, rfl, rfl⟩, rh.mapCopy hm⟩
end Go.Am
namespace Go.Am
open Go
theorem Came.fix {m : Mem} {μ : LMap} {H X : Heap} {w w' : World} {e : Ending} {j : Nat} {a : AVal} (rh : RH m μ H w) (hX : X[j]? = some (some a)) (ha : 0 < a.sh.size)
  (hr1 : Q1R (List.range H.length) = true) (hr2 : Q2X (List.range H.length) H.length = true)
  (h : Came m μ H w (.ptr (H.length + j) []) (H ++ X) e w') : Came m μ H w (.rop .unit ()) H e w' := by
 obtain ⟨u, m', μ', rfl, h1, p⟩ := h
 obtain ⟨l, o, s, hl, ho, hc⟩ : CRel m' μ' (.ptr (H.length + j) []) [u] := h1
 simp only [Sh.offP, Option.some.injEq, Prod.mk.injEq] at ho
 obtain ⟨rfl, rfl⟩ := ho
 have hi : (H ++ X)[H.length + j]? = some (some a) := by
  rw [List.getElem?_append_right (by omega), Nat.add_sub_cancel_left]; exact hX
 obtain ⟨l', hb⟩ := p.rh.blk _ _ hi
 have hll : l' = l := Option.some.inj (hb.loc.symm.trans hl)
 subst hll
 rcases hb.cells with ⟨_, _, g, _⟩ | ⟨p0, gm, cs, E, fz, g1, g2, g3, g4, g5⟩
 ·omega
 have hf : Frz μ' (H ++ X) [H.length + j] l'.b := ⟨_, a, l', by simp, hi, hl, p0, rfl⟩
 have q := Q3h (ids := [H.length + j]) p.rh
 obtain ⟨_, cs', E', fz', k1, k2⟩ := Q5d p.rh hf
 rw [g1] at k1
 cases k1
 have hd : Q0v [H.length + j] (H ++ X) = H ++ X.set j none := by
  simp only [Q0v]
  rw [List.set_append_right _ _ (by omega), Nat.add_sub_cancel_left]
 rw [hd] at q
 refine Came.forget (X := X.set j none) rh rfl hr1 hr2 ⟨u, _, μ', rfl, ?_, p.trans q⟩
 show CRel (frzM m' μ' (H ++ X) w' [H.length + j]) μ' (.rop .unit ()) [u]
 refine ⟨⟨l'.b, l'.off + 0, none⟩, [], hc, rfl, ?_, rfl⟩
 unfold Mem.cells
 rw [k2]
 simp only
 have e0 : Ty.unit.size = 0 := rfl
 rw [if_pos (by omega)]
 rfl
theorem Q65 (n : Nat) : Q1R (List.range n) = true := by
 have key : ∀ (k s : Nat), Q1R (List.range' s k) = true := by
  intro k
  induction k with
  | zero => intro s; rfl
  | succ k ih =>
   intro s
   rw [List.range'_succ]
   simp only [Q1R, Bool.and_eq_true, List.all_eq_true, bne_iff_ne]
   refine ⟨fun b hb => ?_, ih _⟩
   have := (List.mem_range'_1.1 hb).1
   omega
 rw [List.range_eq_range']; exact key n 0
theorem Q6P (n : Nat) : Q2X (List.range n) n = true := by
 have key : ∀ k, k ≤ n → Q2X (List.range n) k = true := by
  intro k
  induction k with
  | zero => intro _; rfl
  | succ k ih =>
   intro hk
   simp only [Q2X, Bool.and_eq_true, beq_iff_eq]
   exact ⟨ih (by omega), List.getElem?_range (by omega)⟩
 exact key n (Nat.le_refl _)
theorem Q1B.fix {P : Program} {f : Nat} {args : List AVal} {H X : Heap} {j : Nat} {a : AVal} (hX : X[j]? = some (some a)) (ha : 0 < a.sh.size) (h : Q1B P f args H (.ptr (H.length + j) []) (H ++ X)) : Q1B P f args H (.rop .unit ()) H := by
 intro m μ w vs rh hvs
 obtain ⟨nx, w1, h1, h2⟩ := h m μ w vs rh hvs
 refine ⟨nx, w1, h1, ?_⟩
 rcases h2 with ⟨g, ys, e1, e2⟩ | ⟨u, e1, e2⟩
 ·exact .inl ⟨g, ys, e1, e2.mono fun e w' hc => hc.fix rh hX ha (Q65 _) (Q6P _)⟩
 ·exact .inr ⟨u, e1, e2.fix rh hX ha (Q65 _) (Q6P _)⟩
theorem Q1B.args {P : Program} {f : Nat} {args ps : List AVal} {H H' : Heap} {v : AVal} (hp : ∀ (m : Mem) (μ : LMap) (vs : List Value), Q1e m μ args vs → Q1e m μ ps vs) (h : Q1B P f ps H v H') : Q1B P f args H v H' :=
 fun m μ w vs rh hvs => h m μ w vs rh (hp m μ vs hvs)
theorem Q3l {C : Ctx} (hΓ : ∀ f, Qb C.P f (C.Γ f)) (hmix : C.P.follows .mixedOrders = true) {f : Nat} {fn : Func} {c : Code} (hf : C.P.funcs[f]? = some fn) (hb : fn.body = some c) (hn : (fn.name == "runtime.NumGoroutine") = false)
  {ps vs : List AVal} {ann : Ann} (hA : Q3 0 C.P c ann) (hps : (ps.map fun a => (renA [] a).getD .undef) = ps)
  (h : evC C c ann ⟨ps ++ List.replicate (fn.ntmps - ps.length) .undef, []⟩ (finI C.P fn.results.toList fun vs _ => some vs) = some vs) (hnt : Q2n vs = true) (hids : idsL vs = []) (hidr : idsA (resL vs) = []) (H : Heap) :
  Q1B C.P f ps H (resL vs) H := by
 obtain ⟨e, st', h2, h3⟩ := Q1u hΓ hmix c ann _ _ _ hA h
 obtain ⟨vs', hvs, he, hk⟩ := Q4a h2
 cases hk
 have := Q2S (args := ps) (H := H) (keep := []) hf hb hn rfl rfl (by rw [hps]; exact h3) hvs he hnt (Nat.zero_le _)
 rw [Q3w hids] at this
 exact this.forget hidr
theorem Q9R {C : Ctx} (hΓ : ∀ f, Qb C.P f (C.Γ f)) (hmix : C.P.follows .mixedOrders = true) {f : Nat} {fn : Func} {c : Code} (hf : C.P.funcs[f]? = some fn) (hb : fn.body = some c) (hn : (fn.name == "runtime.NumGoroutine") = false)
  {ann : Ann} (hA : Q3 0 C.P c ann)
  (h : evC C c ann ⟨List.replicate fn.ntmps .undef, []⟩ (finI C.P fn.results.toList fun vs Hc => match vs with
   | [.ptr i []] => (match Hc[i]? with | some (some a) => cond (Nat.blt 0 a.sh.size) (some ()) none | _ => none)
   | _ => none) = some ()) (H : Heap) :
  Q1B C.P f [] H (.rop .unit ()) H := by
 obtain ⟨e, st', h2, h3⟩ := Q1u hΓ hmix c ann _ _ _ hA h
 obtain ⟨vs', hvs, he, hk⟩ := Q4a h2
 split at hk
 case h_2 => cases hk
 rename_i i
 split at hk
 case h_2 => cases hk
 rename_i a ha
 rw [Bool.cond_eq_ite] at hk
 split at hk
 case isFalse => cases hk
 rename_i hpos
 have hpos : 0 < a.sh.size := by simpa [Nat.blt_eq] using hpos
 have := Q2S (args := []) (H := H) (keep := []) hf hb hn rfl rfl (by simpa using h3) hvs he rfl (Nat.zero_le _)
 have e1 : resL ([AVal.ptr i []].map (renF (Q1c [] ([] : List Nat).length H.length))) = .ptr (H.length + i) [] := by
  have hz : Nat.blt i 0 = false := by simp [Nat.blt, Nat.ble]
  simp [resL, renF, Q1c, hz]
 rw [e1] at this
 simp only [Q1A, List.length_nil, List.drop_zero] at this
 refine this.fix (a := renF (Q1c [] 0 H.length) a) (j := i) ?_ ?_
 ·rw [Q3g, ha]; rfl
 ·rw [Q59]; exact hpos
def Qc9 (args : List AVal) (H : Heap) : Option Res :=
 match args with
 | [] => some ⟨true, .rop .unit (), H, .pure⟩
 | _ => none
def Q86 : Qj := Q2W Qc9
theorem QcM {P : Program} {f : Nat} (h : ∀ H, Q1B P f [] H (.rop .unit ()) H) : Qb P f Q86 := by
 refine Q3N fun args H r hr _ => ?_
 unfold Qc9 at hr
 split at hr
 case h_2 => cases hr
 cases hr
 exact ⟨rfl, fun H2 => h H2⟩
end Go.Am
