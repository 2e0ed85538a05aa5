/- A part of a proof: a machine of abstract values that tells what functions of the program compute, and the plain facts on them. -/
import Derived.Test.YtmcflhodbmgikaaAm6
import Derived.Shelf.Strings.Builder1
import Derived.Shelf.Strings.Repeat
import Derived.Below
import Derived.Lib.BytesEntry
import Derived.Shelf.Strconv.Clone
set_option linter.unusedVariables false
set_option linter.unusedSimpArgs false
set_option linter.unnecessarySimpa false
set_option linter.unusedSectionVars false
namespace Go.Am
open Go Go.Shelf
def Q1Y : AVal → Option (Nat × List Nat × TypeId)
 | .sfp id p T => some (id, p, T)
 | .pair a _ => Q1Y a
 | _ => none
theorem Q3G {m : Mem} {μ : LMap} {id : Nat} {p : List Nat} {T : TypeId} : ∀ {c : AVal} {cs : List Value}, Q1Y c = some (id, p, T) → CRel m μ c cs →
  ∃ v rest, cs = v :: rest ∧ CRel m μ (.sfp id p T) [v] ∧ ∀ v', CRel m μ (.sfp id p T) [v'] → CRel m μ c (v' :: rest)
 | .sfp id' p' T', cs, h, hc => by
  simp only [Q1Y, Option.some.injEq, Prod.mk.injEq] at h
  obtain ⟨rfl, rfl, rfl⟩ := h
  obtain ⟨v, rfl⟩ := hc.one rfl
  exact ⟨v, [], rfl, hc, fun v' h => h⟩
 | .pair a b, cs, h, hc => by
  simp only [Q1Y] at h
  simp only [CRel] at hc
  obtain ⟨v, rest, h1, h2, h3⟩ := Q3G h hc.1
  cases cs with
  | nil => simp at h1
  | cons v0 cs =>
   have hl := hc.1.length
   have hpos : 0 < a.size := by
    rw [← hl, h1]; simp
   obtain ⟨n, hn⟩ : ∃ n, a.size = n + 1 := ⟨a.size - 1, by omega⟩
   rw [hn, List.take_succ_cons] at h1
   obtain ⟨rfl, rfl⟩ := List.cons.inj h1
   refine ⟨v0, cs, rfl, h2, fun v' hv' => ?_⟩
   simp only [CRel]
   rw [hn, List.take_succ_cons, List.drop_succ_cons]
   have h4 := hc.2
   rw [hn, List.drop_succ_cons] at h4
   exact ⟨h3 v' hv', h4⟩
 | .undef, _, h, _ | .int _ _, _, h, _ | .bool _, _, h, _ | .str _, _, h, _ | .nilp, _, h, _ | .ptr _ _, _, h, _ | .nils, _, h, _ | .sl _ _ _ _, _, h, _ | .ros _ _, _, h, _ | .rop _ _, _, h, _
 | .arr _ _ _, _, h, _ | .vec _ _, _, h, _ | .vsl _, _, h, _ | .vbs _, _, h, _ | .unit, _, h, _ | .parr _ _ _ _, _, h, _ | .fn _ _, _, h, _ | .tup _, _, h, _ => by simp [Q1Y] at h
open Go.RowKit Go.Proofs in
set_option maxHeartbeats 1000000 in
set_option maxRecDepth 100000 in
theorem Qb4 {P : Program} {ρ : Ren} (L : Lays.n240 P ρ) (X : Builder.X72 P ρ) (b : Nat) (w : World) {T : TypeId} {n : Nat} (h0 : w.cell? ⟨b, 0, none⟩ = some (.pointer none)) (hsh : w.shape? b = some (T, n)) (hn : 0 < n)
  (hl : liesAt P P.depth T (n / P.cellsOf T) 0 (ρ.t 72) 1 = true) (hfz : w.frozen? ⟨b, 0, none⟩ = false) :
  Calls P (ρ.f 240) #[.pointer (some ⟨b, 0, none⟩)] w fun e w' => e = .returned (.tuple #[]) ∧ w' = w.setCell ⟨b, 0, none⟩ (.pointer (some ⟨b, 0, none⟩)) := by
 obtain ⟨j, hj, hjs⟩ := Option.map_eq_some_iff.1 X.sizeBuilder
 have mixed := L.mixed
 have t72 := L.t72; have a72 := L.a72; have z72 := L.z72; have v72 := L.v72; have u72 := Q3 L.t72
 have t70 := L.t70; have a70 := L.a70; have z70 := L.z70; have v70 := L.v70; have u70 := Q3 L.t70
 have t9 := L.t9; have a9 := L.a9; have z9 := L.z9; have v9 := L.v9; have u9 := Q3 L.t9
 have t4 := L.t4; have a4 := L.a4; have z4 := L.z4; have v4 := L.v4; have u4 := Q3 L.t4
 have t164 := L.t164; have a164 := L.a164; have z164 := L.z164; have v164 := L.v164; have u164 := Q3 L.t164
 go_enter L.f240, Body.n240_ntmps ρ
 go_wp2
 rw [Lib.run_to_unsafe w ⟨b, 0, none⟩ L.t70 L.t164 hj (by rw [hjs]; decide) hsh hn]
 simp only [Result.andThen]
 rw [Oper.upon_value]
 go_wp2
 rw [run_callFunc_extern L.f276 (by kernel_rfl) (by kernel_rfl) (by kernel_rfl) (e := Extern.AbiNoEscape.same) (by kernel_rfl)]
 rw [Lib.run_noEscape]
 simp only [Result.andThen]
 rw [Oper.upon_value]
 go_wp2
 rw [Lib.run_from_unsafe w ⟨b, 0, none⟩ L.t164 L.t70 hj hsh hl]
 simp only [Result.andThen]
 rw [Oper.upon_value]
 go_wp2
 go_end0
 exact ⟨rfl, rfl⟩
def Q6A (R : List AVal → Heap → Option Res) : QA :=
 ⟨fun args H k => match R args H with
  | some r => cond r.vc (k r.v r.H r.e) none
  | none => none⟩
theorem Q95 {P : Program} {f : Nat} {R : List AVal → Heap → Option Res} (h : ∀ args H r, R args H = some r → r.vc = true → Q5M P f args H r.v r.H r.e) : Qo P f (Q6A R) := by
 intro ρ args H k r hr
 simp only [Q6A] at hr
 split at hr
 ·rename_i q hq
  cases hv : q.vc with
  | true =>
   rw [hv, cond_true] at hr
   exact ⟨_, _, _, hr, h args H q hq hv⟩
  | false => rw [hv] at hr; cases hr
 ·cases hr
def Q2z : List Nat → List Nat → Bool
 | [], [] => true
 | a :: l, b :: r => Nat.beq a b && Q2z l r
 | _, _ => false
theorem Q3v : ∀ {a b : List Nat}, Q2z a b = true → a = b
 | [], [], _ => rfl
 | a :: l, b :: r, h => by
  simp only [Q2z, Bool.and_eq_true] at h
  rw [Nat.eq_of_beq_eq_true h.1, Q3v h.2]
 | [], _ :: _, h | _ :: _, [], h => by simp [Q2z] at h
def QbB (Tw nw : Nat) (args : List AVal) (H : Heap) : Option Res :=
  match args with
    | [.ptr id p] =>
      (match H[id]? with
       | some (some c) =>
         (match Q1Y c, c.sh.offP p with
          | some (id', p', T), some (0, _) =>
            (match Nat.beq id' id && (Q2z p' p && (Nat.beq T Tw && Nat.beq c.sh.size nw)) with
             | true => some ⟨true, .tup .unit, H, .touch H.length [id]⟩
             | false => none)
          | _, _ => none)
       | _ => none)
    | _ => none
def QaF (Tw nw : Nat) : QA := Q6A (QbB Tw nw)
open Go.Proofs in
theorem Q7t {P : Program} {ρ : Ren} {Tw nw : Nat} (L : Lays.n240 P ρ) (X : Builder.X72 P ρ) (hw : liesAt P P.depth Tw (nw / P.cellsOf Tw) 0 (ρ.t 72) 1 = true) (hname : (Body.n240 ρ).body.isSome = true ∧ ((Body.n240 ρ).name == "runtime.NumGoroutine") = false) : Qo P (ρ.f 240) (QaF Tw nw) := by
 refine Q95 fun args H r h _ => ?_
 simp only [QbB] at h
 split at h
 ·rename_i id p
  split at h
  ·rename_i c hc
   split at h
   ·rename_i id' p' T s hf ho
    split at h
    ·rename_i hok
     simp only [Bool.and_eq_true] at hok
     obtain ⟨hk1, hk2, hk3, hk4⟩ := hok
     obtain rfl := Nat.eq_of_beq_eq_true hk3
     obtain rfl := Nat.eq_of_beq_eq_true hk4
     have hlies := hw
     obtain rfl := Nat.eq_of_beq_eq_true hk1
     obtain rfl := Q3v hk2
     cases h
     refine ⟨fun _ _ _ => rfl, ?_⟩
     intro m μ w vs rh hv
     match vs, hv with
     | [v0], hv =>
      obtain ⟨hv0, _⟩ := hv
      obtain ⟨l, o, s', hl, hlo, he⟩ := hv0
      obtain ⟨rfl, _⟩ := List.cons.inj he
      obtain ⟨l', hb⟩ := rh.blk id' c hc
      have : l' = l := Option.some.inj (hb.loc.symm.trans hl)
      subst this
      rw [hb.sh, ho] at hlo
      simp only [Option.some.injEq, Prod.mk.injEq] at hlo
      obtain ⟨rfl, rfl⟩ := hlo
      obtain ⟨body, hbody⟩ := Option.isSome_iff_exists.1 hname.1
      have sfpOf : ∀ {cs}, CRel m μ c cs → l'.E = T ∧ l'.off = 0 ∧ l'.tot = l'.sh.size ∧ 0 < l'.tot := by
       intro cs hcs
       obtain ⟨v, rest, h1, h2, h3⟩ := Q3G hf hcs
       obtain ⟨l2, o2, s2, g1, g2, g3, g4, g5, _⟩ := h2
       have : l2 = l' := Option.some.inj (g1.symm.trans hl)
       subst this
       exact ⟨g2, g3, g4, g5⟩
      rcases hb.cells with ⟨p1, p2, p3, p4⟩ | ⟨p0, gm, cs, E, fz, g1, g2, g3, g4, g5⟩
      ·have := sfpOf p4; omega
      ·obtain ⟨q1, q2, q3, q4⟩ := sfpOf g5
       obtain ⟨cs1, fz1, k1⟩ := rh.typ id' c l' hc hl p0
       rw [g1] at k1
       cases k1
       rw [q2, Nat.add_zero]
       rw [q2, List.drop_zero] at g5
       have hsz : c.sh.size = l'.tot := by rw [q3, hb.sh]
       have hcl : cs.toList.length = cs.size := Array.length_toList
       rw [List.take_of_length_le (by omega)] at g5
       obtain ⟨v, rest, h1, h2, h3⟩ := Q3G hf g5
       have hcell : w.cell? ⟨l'.b, 0, none⟩ = some v := by
        rw [Q1R g1, ← Array.getElem?_toList, h1]; rfl
       refine ⟨.enter (ρ.f 240) #[.pointer (some ⟨l'.b, 0, none⟩)], w, Q0m L.f240 hbody hname.2 _ w, .inl ⟨_, _, rfl, ?_⟩⟩
       obtain ⟨l2, o2, s2, f1, f2, f3, f4, f5, f6, f7⟩ := h2
       have : l2 = l' := Option.some.inj (f1.symm.trans hl)
       subst this
       rw [hb.sh, ho] at f6
       simp only [Option.some.injEq, Prod.mk.injEq] at f6
       obtain ⟨rfl, rfl⟩ := f6
       rcases f7 with f7 | f7
       ·obtain ⟨rfl, _⟩ := List.cons.inj f7
        have hfz : w.frozen? ⟨l2.b, 0, none⟩ = false := by
         have := g3 0 p0
         simp only [World.frozen?, g1, Bool.and_eq_false_iff, decide_eq_false_iff_not]
         by_cases z1 : fz.1 ≤ 0
         ·exact .inr fun z2 => this ⟨z1, z2⟩
         ·exact .inl z1
        refine (Qb4 L X l2.b w (T := T) (n := l2.tot) hcell (by simp [World.shape?, g1, g2, q1]) p0 (by rw [← hsz]; exact hlies) hfz).mono fun e w' he => ?_
        obtain ⟨rfl, rfl⟩ := he
        have hlt : 0 < cs.size := by omega
        obtain ⟨w2, hr, hp⟩ := Q4u (P := P) (o := 0) (v := .pointer (some ⟨l2.b, 0, none⟩)) g1 hlt (g3 0 p0) rfl
        have hw2 : w2 = w.setCell ⟨l2.b, 0, none⟩ (.pointer (some ⟨l2.b, 0, none⟩)) := by
         simp only [store, Sem.run, hcell, hfz] at hr
         simpa using hr.symm
        subst hw2
        refine ⟨.tuple #[], m, μ, rfl, ⟨#[], rfl, rfl⟩, ?_⟩
        have hput := rh.put (a' := c) hc hl p0 g1 hp rfl (by simp) (by
         rw [q2, List.drop_zero, Array.toList_setIfInBounds, h1, List.set_cons_zero, List.take_of_length_le (by
          have : (v' : Value) → (v' :: rest).length = cs.size := fun v' => by rw [← hcl, h1]; rfl
          rw [this]; omega)]
         exact h3 _ ⟨l2, 0, s, hl, f2, f3, f4, f5, by rw [hb.sh]; exact ho, .inr rfl⟩) (fun h => h)
        have hset : H.set id' (some c) = H := by
         apply List.ext_getElem?
         intro i
         by_cases hi : i = id'
         ·subst hi
          rw [List.getElem?_set_self (List.getElem?_eq_some_iff.1 hc).1, hc]
         ·rw [List.getElem?_set_ne (Ne.symm hi)]
        rw [hset] at hput
        exact hput
       ·obtain ⟨rfl, _⟩ := List.cons.inj f7
        refine (Go.Proofs.Any.Builder_copyCheck_used L X l2.b w hcell).mono fun e w' he => ?_
        obtain ⟨rfl, rfl⟩ := he
        exact ⟨.tuple #[], m, μ, rfl, ⟨#[], rfl, rfl⟩, Post.refl rh⟩
    ·cases h
   ·cases h
  ·cases h
 ·cases h
end Go.Am
namespace Go.Am
open Go Go.Shelf
theorem Q94 {P : Program} {e : TypeId} (hc : P.cellsOf e = 1) (count off n : Nat) (hn : off + n ≤ count) : liesAt P P.depth e count off e n = true := by
 have hd : P.depth = (2 * (P.types.size + Made.depth) + 1) + 1 := rfl
 rw [hd]
 simp only [liesAt, Bool.or_eq_true]
 left
 rw [hd]
 simp [rowAt, hc, hn, sameLayout]
 exact .inl (Nat.mod_one off)
theorem Q4v {P : Program} {w : World} : ∀ (l : List Int) (a : Addr) (acc : ByteArray), (∀ j x, l[j]? = some x → w.cell? (a.add j) = some (.int .u8 x)) →
  (loadBytes a acc l.length).run P w = .ok ⟨acc.data ++ (l.map fun n => n.toNat.toUInt8).toArray⟩ w
 | [], a, acc, _ => by simp [loadBytes]
 | x :: l, a, acc, h => by
  have h0 : w.cell? a = some (.int .u8 x) := by
   have := h 0 x rfl
   simpa [Addr.add] using this
  have ih := Q4v (P := P) (w := w) l (a.add 1) (acc.push x.toNat.toUInt8) (fun j y hy => by
   have := h (j + 1) y (by simpa using hy)
   have e : (a.add 1).add j = a.add (j + 1) := by
    unfold Addr.add
    by_cases hj : j = 0
    ·subst hj; simp
    ·simp [hj]; omega
   rw [e]; exact this)
  simp only [List.length_cons, loadBytes, Sem.run_bind, run_load, h0, Result.andThen]
  rw [ih]
  congr 1
  apply ByteArray.ext
  simp [ByteArray.push]
theorem Q3k {P : Program} (w : World) (pt it ty e : TypeId) (hp : P.underlying pt = some (.pointer e)) (hc : P.cellsOf e = 1) (g off cells : Nat) (hsh : w.shape? g = some (e, cells)) (l : List Int) (h0 : l ≠ []) (hn : off + l.length ≤ cells) (h63 : l.length ≤ 9223372036854775807)
  (hcell : ∀ j x, l[j]? = some x → w.cell? ((⟨g, off, none⟩ : Addr).add j) = some (.int .u8 x)) :
  (Builtin.unsafeString_ #[pt, it] ty #[.pointer (some ⟨g, off, none⟩), .int .i64 l.length]).run P w = .ok (.string (bytesOf l)) (w.freeze ⟨g, off, none⟩ l.length) := by
 have hl : l.length ≠ 0 := by simpa using h0
 have hlb := Q4v (P := P) (w := w) l ⟨g, off, none⟩ .empty hcell
 have hlies := Q94 (P := P) hc (cells / P.cellsOf e) off l.length (by rw [hc]; simpa using hn)
 have h63' : ¬ (9223372036854775807 : Int) < (l.length : Int) := by omega
 have hdef : Builtin.unsafeString_ #[pt, it] ty #[.pointer (some ⟨g, off, none⟩), .int .i64 l.length] =
   (do
    let n ← asInt (.int .i64 l.length)
    if n < 0 then runtimePanic (.error "unsafe.String: len out of range")
    if n > IntKind.i64.max then unsupported (.unsafePointer "String: a length above the largest int")
    if n = 0 then pure (.string .empty)
    else if ← variablesAt ⟨g, off, none⟩ (← elemOf pt) n.toNat then do
     let s ← loadBytes ⟨g, off, none⟩ .empty n.toNat
     freeze ⟨g, off, none⟩ n.toNat
     pure (.string s)
    else unsupported (.unsafePointer "String: not so many bytes at ptr")) := rfl
 rw [hdef]
 have hmax : IntKind.i64.max = 9223372036854775807 := rfl
 have hneg : ¬ (l.length : Int) < 0 := by omega
 simp [asInt, asIntOf, hmax, h63', hneg, hl, variablesAt, hsh, elemOf, Q3 hp, hlies, hlb]
 rfl
open Go.RowKit Go.Proofs in
set_option maxHeartbeats 2000000 in
set_option maxRecDepth 100000 in
theorem Q8l {P : Program} {ρ : Ren} (L : Lays.n169 P ρ) (X : Builder.Extra P ρ) (b : Nat) (w w2 : World) {a : Option Addr} {n cap : Nat} {pv : Value} {s : ByteArray} (c1 : w.drew.cell? ⟨b, 1, none⟩ = some (.slice a n cap))
  (hSD : (Builtin.unsafeSliceData_ #[(ρ.t 37)] (ρ.t 127) #[.slice a n cap]).run P w.drew = .ok pv w.drew)
  (hUS : (Builtin.unsafeString_ #[(ρ.t 127), (ρ.t 3)] (ρ.t 9) #[pv, .int .i64 n]).run P w.drew = .ok (.string s) w2) :
  Calls P (ρ.f 169) #[.pointer (some ⟨b, 0, none⟩)] w fun e w' => e = .returned (.string s) ∧ w' = w2 := by
 have mixed := L.mixed
 have t72 := L.t72; have a72 := L.a72; have z72 := L.z72; have v72 := L.v72; have u72 := Q3 L.t72
 have t70 := L.t70; have a70 := L.a70; have z70 := L.z70; have v70 := L.v70; have u70 := Q3 L.t70
 have t37 := L.t37; have a37 := L.a37; have z37 := L.z37; have v37 := L.v37; have u37 := Q3 L.t37
 have t127 := L.t127; have a127 := L.a127; have z127 := L.z127; have v127 := L.v127; have u127 := Q3 L.t127
 have t3 := L.t3; have a3 := L.a3; have z3 := L.z3; have v3 := L.v3; have u3 := Q3 L.t3
 have t9 := L.t9; have a9 := L.a9; have z9 := L.z9; have v9 := L.v9; have u9 := Q3 L.t9
 have t5 := X.t5; have a5 := X.a5; have z5 := X.z5; have v5 := X.v5; have u5 := Q3 X.t5
 go_enter L.f169, Body.n169_ntmps ρ
 go_wp2
 go_region_o
 all_goals (go_wp2; go_ret; exact ⟨rfl, rfl⟩)
def Qba (args : List AVal) (H : Heap) : Option Res :=
  match args with
    | [.ptr id p] =>
      (match H[id]? with
       | some (some c) =>
         (match Q1Y c, c.sh.offP p, getP c p with
          | some (id', p', _), some (0, _), some (.pair (.sfp _ _ _) (.pair (.vbs j) _)) =>
            (match Nat.beq id' id && (Q2z p' p && !Nat.beq j id) with
             | true =>
              (match H[j]? with
               | some (some (.vec (.int .u8) xs)) => some ⟨Nat.ble xs.length 9223372036854775807, .str (bytesOf xs), (H.set id none).set j none, .touch H.length [id, j]⟩
               | _ => none)
             | false => none)
          | _, _, _ => none)
       | _ => none)
    | _ => none
def Q8K : QA := Q6A Qba
theorem QbI {m : Mem} {μ : LMap} {H : Heap} {w : World} (h : RH m μ H w) (i j : Nat) : Post m μ H w m μ ((H.set i none).set j none) w := (h.kill i).trans ((h.kill i).rh.kill j)
theorem RH.froze {m : Mem} {μ : LMap} {H H' : Heap} {w w' : World} {g off n : Nat} (h : RH m μ H w) (hp : Post m μ H w m μ H' w) (hg : m g = none) (hno : ¬ Q0o μ H' g) (ho : Q0o μ H g) (hw : w' = w.freeze ⟨g, off, none⟩ n) : Post m μ H w m μ H' w' := by
 have hkeep : ∀ b, b ≠ g → w'.heap[b]? = w.heap[b]? := by
  intro b hb
  subst hw
  unfold World.freeze
  split
  ·rfl
  ·simp only [Array.getElem?_modify]
   rw [if_neg (Ne.symm hb)]
 have hsize : w'.heap.size = w.heap.size := by
  subst hw
  unfold World.freeze
  split
  ·rfl
  ·simp
 have hos : w'.os = w.os ∧ w'.tape = w.tape ∧ w'.output = w.output := by
  subst hw
  unfold World.freeze
  split <;> exact ⟨rfl, rfl, rfl⟩
 have hne : ∀ i a l, H'[i]? = some (some a) → μ i = some l → (0 < l.tot ∨ l.mp = true) → l.b ≠ g := fun i a l hi hl hz e => hno ⟨i, a, l, hi, hl, hz, e⟩
 refine ⟨⟨fun b cs hb => ?_, fun i a hi => ?_, hp.rh.inj, hp.rh.dom, fun i a l hi hl hz => ?_, hp.rh.vb, fun i a l hi hl hpz => by
  obtain ⟨g0, kt, vt, xs, es, c, e, g1, g2⟩ := hp.rh.mp i a l hi hl hpz
  exact ⟨g0, kt, vt, xs, es, c, e, by rw [hkeep _ (hne i a l hi hl (.inr hpz))]; exact g1, g2⟩, hp.rh.mpi⟩, hp.ml, hp.μl, hos.1, hos.2.1, hos.2.2, by omega, fun b hb hnb => ?_, fun b h1 h2 => hp.grow b h1 h2, hp.mgrow, hp.hol⟩
 ·obtain ⟨E, fz, h1⟩ := hp.rh.mem b cs hb
  exact ⟨E, fz, by rw [hkeep b (fun e => by subst e; rw [hg] at hb; cases hb)]; exact h1⟩
 ·obtain ⟨l, hb⟩ := hp.rh.blk i a hi
  refine ⟨l, hb.loc, hb.sh, ?_⟩
  rcases hb.cells with ⟨p1, p2, p3, p4⟩ | ⟨p0, gm, cs, E, fz, g1, g2⟩
  ·exact .inl ⟨p1, p2, p3, p4⟩
  ·exact .inr ⟨p0, gm, cs, E, fz, by rw [hkeep _ (hne i a l hi hb.loc (.inl p0))]; exact g1, g2⟩
 ·obtain ⟨cs, fz, h1⟩ := hp.rh.typ i a l hi hl hz
  exact ⟨cs, fz, by rw [hkeep _ (hne i a l hi hl (.inl hz))]; exact h1⟩
 ·rw [hkeep b (fun e => hnb (e ▸ ho))]
open Go.Proofs in
theorem Q9X {P : Program} {ρ : Ren} (L : Lays.n169 P ρ) (X : Builder.Extra P ρ) (h5 : ρ.t 5 = 5) (hname : (Body.n169 ρ).body.isSome = true ∧ ((Body.n169 ρ).name == "runtime.NumGoroutine") = false) : Qo P (ρ.f 169) Q8K := by
 refine Q95 fun args H r h hvc => ?_
 simp only [Qba] at h
 split at h
 ·rename_i id p
  split at h
  ·rename_i c hc
   split at h
   ·rename_i id' p' T s i1 q1 T1 j r1 hf ho hg
    split at h
    ·rename_i hok
     simp only [Bool.and_eq_true, Bool.not_eq_true'] at hok
     obtain ⟨hk1, hk2, hk3⟩ := hok
     obtain rfl := Nat.eq_of_beq_eq_true hk1
     obtain rfl := Q3v hk2
     have hj : j ≠ id' := fun e => by subst e; rw [Nat.beq_refl] at hk3; cases hk3
     split at h
     ·rename_i xs hxs
      cases h
      have hmax : xs.length ≤ 9223372036854775807 := by simpa [Nat.ble_eq] using hvc
      refine ⟨fun i hi hn => ?_, ?_⟩
      ·simp only [List.mem_cons, List.not_mem_nil, or_false, not_or] at hn
       rw [List.getElem?_set_ne (Ne.symm hn.2), List.getElem?_set_ne (Ne.symm hn.1)]
      intro m μ w vs rh hv
      match vs, hv with
      | [v0], hv =>
       obtain ⟨hv0, _⟩ := hv
       obtain ⟨l, o, s', hl, hlo, he⟩ := hv0
       obtain ⟨rfl, _⟩ := List.cons.inj he
       obtain ⟨l', hb⟩ := rh.blk id' c hc
       have : l' = l := Option.some.inj (hb.loc.symm.trans hl)
       subst this
       rw [hb.sh, ho] at hlo
       simp only [Option.some.injEq, Prod.mk.injEq] at hlo
       obtain ⟨rfl, rfl⟩ := hlo
       obtain ⟨body, hbody⟩ := Option.isSome_iff_exists.1 hname.1
       have sfpOf : ∀ {cs}, CRel m μ c cs → l'.off = 0 ∧ l'.tot = l'.sh.size ∧ 0 < l'.tot := by
        intro cs hcs
        obtain ⟨v, rest, h1, h2, h3⟩ := Q3G hf hcs
        obtain ⟨l2, o2, s2, g1, g2, g3, g4, g5, _⟩ := h2
        have : l2 = l' := Option.some.inj (g1.symm.trans hl)
        subst this
        exact ⟨g3, g4, g5⟩
       rcases hb.cells with ⟨p1, p2, p3, p4⟩ | ⟨p0, gm, cs, E, fz, g1, g2, g3, g4, g5⟩
       ·have := sfpOf p4; omega
       obtain ⟨q2, q3, q4⟩ := sfpOf g5
       have hcell1 : ∃ v1, cs[1]? = some v1 ∧ CRel m μ (.vbs j) [v1] := by
        obtain ⟨hle, x, hx, hxs, hxr⟩ := Q0w g5 ho
        rw [hg] at hx
        cases hx
        simp only [CRel, AVal.size, AVal.sh, Sh.size] at hxr
        obtain ⟨_, h2, _⟩ := hxr
        have hb2 : CRel m μ (.vbs j) (List.take 1 (List.drop 1 (List.take s.size (List.drop 0 (List.take c.sh.size (List.drop l'.off cs.toList)))))) := h2
        obtain ⟨v1, hv1⟩ := hb2.one rfl
        rw [hv1] at hb2
        refine ⟨v1, ?_, hb2⟩
        have h0 := congrArg (·[0]?) hv1
        simp only [List.getElem?_cons_zero, List.getElem?_take, List.getElem?_drop, q2] at h0
        split at h0
        ·split at h0
         ·split at h0
          ·rw [← Array.getElem?_toList]
           simpa using h0
          ·cases h0
         ·cases h0
        ·cases h0
       obtain ⟨v1, hv1, l2, n, a, cap, hl2, hsh2, hcap, he1, ha⟩ := hcell1
       obtain ⟨rfl, _⟩ := List.cons.inj he1
       obtain ⟨l3, hb3⟩ := rh.blk j _ hxs
       have : l3 = l2 := Option.some.inj (hb3.loc.symm.trans hl2)
       subst this
       have hn : n = xs.length := by
        have := hb3.sh
        rw [hsh2] at this
        simp only [AVal.sh, Sh.arr.injEq] at this
        exact this.1
       subst hn
       rw [q2, Nat.add_zero]
       refine ⟨.enter (ρ.f 169) #[.pointer (some ⟨l'.b, 0, none⟩)], w, Q0m L.f169 hbody hname.2 _ w, .inl ⟨_, _, rfl, ?_⟩⟩
       have c1 : w.drew.cell? ⟨l'.b, 1, none⟩ = some (.slice a xs.length cap) := by
        have : w.drew.heap[l'.b]? = some (.cells cs E fz) := g1
        rw [Q1R this]; exact hv1
       have rhd := rh.drawn (w.drawn + 1)
       have hdrop : Post m μ H w m μ ((H.set id' none).set j none) w.drew := rhd.trans (QbI rhd.rh id' j)
       by_cases h0 : xs = []
       ·subst h0
        have fin : ∀ pv, (Builtin.unsafeSliceData_ #[(ρ.t 37)] (ρ.t 127) #[.slice a 0 cap]).run P w.drew = .ok pv w.drew → (∃ q, pv = .pointer q) → Calls P (ρ.f 169) #[.pointer (some ⟨l'.b, 0, none⟩)] w (Came m μ H w (.str (bytesOf [])) ((H.set id' none).set j none)) := by
         rintro pv hsd ⟨q, rfl⟩
         refine (Q8l L X l'.b w w.drew c1 hsd (Any.unsafeString_none L X w.drew q)).mono fun e w' he => ?_
         obtain ⟨rfl, rfl⟩ := he
         exact ⟨_, m, μ, rfl, rfl, hdrop⟩
        rcases ha with ⟨rfl, hc0, _⟩ | ⟨rfl, rfl⟩
        ·exact fin _ (Lib.run_unsafeSliceData_row _ _ _ _ _ _ (by omega)) ⟨_, rfl⟩
        ·exact fin _ rfl ⟨_, rfl⟩
       ·have hlen : 0 < xs.length := List.length_pos_iff.2 h0
        have ha' : a = some ⟨l3.b, l3.off, none⟩ ∧ 0 < cap ∧ l3.off + cap ≤ l3.tot := by
         rcases ha with h | ⟨h2, _⟩
         ·exact h
         ·omega
        obtain ⟨rfl, hc0, hroom⟩ := ha'
        rcases hb3.cells with ⟨z1, _⟩ | ⟨z0, zm, cs3, E3, fz3, z1, z2, z3, z4, z5⟩
        ·omega
        obtain ⟨cs4, fz4, k1⟩ := rh.typ j _ l3 hxs hl2 z0
        rw [z1] at k1
        have hE : l3.E = 5 := rh.vb j _ l3 hxs rfl hl2 z0
        have hE3 : E3 = 5 := by cases k1; exact hE
        subst hE3
        simp only [AVal.sh, Sh.size, Ty.size, Nat.mul_one] at z4 z5
        have z1' : w.drew.heap[l3.b]? = some (.cells cs3 5 fz3) := z1
        have hus := Q3k (P := P) w.drew (ρ.t 127) (ρ.t 3) (ρ.t 9) (ρ.t 5) L.t127 X.cellsByte l3.b l3.off cs3.size (by simp [World.shape?, z1', h5]) xs h0 (by omega) hmax (fun i x hx => by
         rw [Q16, Q1R z1']
         obtain ⟨_, _, z6⟩ := z5
         have hi : i < xs.length := (List.getElem?_eq_some_iff.1 hx).1
         have z7 : List.take 1 (List.drop (i * 1) (List.take xs.length (List.drop l3.off cs3.toList))) = [Value.int .u8 (xs.getD i (Ty.zero (.int .u8)))] := z6 i hi
         have z8 := congrArg (·[0]?) z7
         simp only [List.getElem?_cons_zero, List.getElem?_take, List.getElem?_drop, Nat.mul_one, Nat.add_zero] at z8
         rw [if_pos (by omega), if_pos hi] at z8
         rw [← Array.getElem?_toList, z8, List.getD_eq_getElem?_getD, hx]
         rfl)
        refine (Q8l L X l'.b w _ c1 (Lib.run_unsafeSliceData_row _ _ _ _ _ _ (by omega)) hus).mono fun e w' he => ?_
        obtain ⟨rfl, rfl⟩ := he
        refine ⟨_, m, μ, rfl, rfl, ?_⟩
        refine rhd.trans (RH.froze rhd.rh (QbI rhd.rh id' j) zm ?_ ⟨j, _, l3, hxs, hl2, .inl z0, rfl⟩ rfl)
        rintro ⟨i2, a2, l4, y1, y2, y3, y4⟩
        have y5 := Q18 y1
        have y6 := Q18 y5.2
        exact y5.1 (Q5L rh y6.2 hxs y2 hl2 y3 (.inl z0) y4)
     ·cases h
    ·cases h
   ·cases h
  ·cases h
 ·cases h
end Go.Am
namespace Go.Am
open Go Go.Shelf Go.Proofs Go.RowKit
def repB (s : ByteArray) (c : Int) : ByteArray := ⟨(Lib.repeatL s.data.toList c.toNat).toArray⟩
theorem Post.below {m : Mem} {μ : LMap} {H : Heap} {w w' : World} (h : RH m μ H w) (hb : Below w.heap.size w w') : Post m μ H w m μ H w' := by
 have old : ∀ b x, w.heap[b]? = some x → w'.heap[b]? = some x := fun b x hx => by
  rw [hb.block b (Array.getElem?_eq_some_iff.1 hx).1]; exact hx
 refine ⟨⟨fun b cs hm => ?_, fun i a hi => ?_, h.inj, h.dom, fun i a l hi hl hz => ?_, h.vb, h.mpk (Mem.le_refl _) (fun i a l hi hl _ => ⟨i, hi, hl⟩) (fun b es c hb => old _ _ hb), h.mpi⟩, Mem.le_refl _, LMap.le_refl _, hb.os, hb.tape, hb.output, hb.size, fun b hlt _ => hb.block b hlt, fun _ h _ => h, fun _ _ h => .inl h, ⟨Nat.le_refl _, fun _ _ h => h⟩⟩
 ·obtain ⟨E, fz, h1⟩ := h.mem b cs hm
  exact ⟨E, fz, old _ _ h1⟩
 ·obtain ⟨l, b⟩ := h.blk i a hi
  refine ⟨l, b.loc, b.sh, ?_⟩
  rcases b.cells with h1 | ⟨p0, gm, cs, E, fz, g1, g2⟩
  ·exact .inl h1
  ·exact .inr ⟨p0, gm, cs, E, fz, old _ _ g1, g2⟩
 ·obtain ⟨cs, fz, h1⟩ := h.typ i a l hi hl hz
  exact ⟨cs, fz, old _ _ h1⟩
def repJ (s : ByteArray) (c : Int) : Option (ByteArray × Unit) := cond (decide (0 ≤ c) && Nat.ble (s.size * c.toNat) 140737488355328 && Nat.ble c.toNat 9223372036854775807) (some (repB s c, ())) none
theorem Qaa {P : Program} {ρ : Ren} (L : Lays.n105 P ρ) (X : Builder.Extra P ρ) (hn : (Body.n105 ρ).body.isSome = true ∧ ((Body.n105 ρ).name == "runtime.NumGoroutine") = false) : Qo P (ρ.f 105) (QP [.str, .int .i64] [.str] fun x => repJ x.1 x.2.1) := by
 intro σ args H k r h
 obtain ⟨body, hbody⟩ := Option.isSome_iff_exists.1 hn.1
 have hname := hn.2
 simp only [QP] at h
 split at h
 ·rename_i x ids hx
  rw [show (ids.isEmpty || ([.str] : List Ty).all Q0x) = true by simp [Q0x], cond_true] at h
  cases hc : (decide (0 ≤ x.2.1) && Nat.ble (x.1.size * x.2.1.toNat) 140737488355328 && Nat.ble x.2.1.toNat 9223372036854775807) with
  | false => simp only [repJ, hc, cond_false, Option.bind_none] at h; cases h
  | true =>
  simp only [repJ, hc, cond_true, Option.bind_some] at h
  simp only [Bool.and_eq_true, decide_eq_true_eq, Nat.ble_eq] at hc
  refine ⟨_, _, _, h, ?_⟩
  have main : ∀ H2 : Heap, Q12 H2 [.str, .int .i64] args = some (x, ids) → Q14 P (ρ.f 105) args H2 (resA [.str] (repB x.1 x.2.1, ())) H2 := by
   intro H2 hx2 m μ w vs rh hv
   have hv2 := Q1C rh mu0 hx2 (fun _ h => h) hv
   obtain ⟨s, c, u⟩ := x
   match vs, hv2 with
   | [v0, v1], hv2 =>
    obtain ⟨h0, h1, _⟩ := hv2
    have e0 : v0 = .string s := (List.cons.inj h0).1
    have e1 : v1 = .int .i64 c := (List.cons.inj h1).1
    subst e0; subst e1
    have hcc : ((c.toNat : Nat) : Int) = c := Int.toNat_of_nonneg hc.1.1
    have := Any.strings_Repeat L X s c.toNat w hc.2 hc.1.2
    rw [hcc] at this
    exact ⟨.enter (ρ.f 105) #[.string s, .int .i64 c], w, Q0m L.f105 hbody hname _ w, .inl ⟨_, _, rfl, this.mono fun e w' ⟨he, hb⟩ => ⟨_, m, μ, he, rfl, Post.below rh hb⟩⟩⟩
  cases ids with
  | nil => exact ⟨rfl, fun H2 => main H2 (Q0K hx (by simp))⟩
  | cons i l => exact ⟨rfl, fun H2 hi => main H2 (Q0K hx hi)⟩
 ·cases h
end Go.Am
namespace Go.Am
open Go Go.Shelf Go.Proofs Go.RowKit
def Q7L (s : ByteArray) : Option (ByteArray × Unit) := cond (Nat.ble s.size 281474976710656) (some (s, ())) none
theorem QaE {P : Program} {ρ : Ren} (L : LaysM.n316 P ρ) (hn : (Body.n316 ρ).body.isSome = true ∧ ((Body.n316 ρ).name == "runtime.NumGoroutine") = false) : Qo P (ρ.f 316) (QP [.str] [.str] fun x => Q7L x.1) := by
 intro σ args H k r h
 obtain ⟨body, hbody⟩ := Option.isSome_iff_exists.1 hn.1
 have hname := hn.2
 simp only [QP] at h
 split at h
 ·rename_i x ids hx
  rw [show (ids.isEmpty || ([.str] : List Ty).all Q0x) = true by simp [Q0x], cond_true] at h
  cases hc : Nat.ble x.1.size 281474976710656 with
  | false => simp only [Q7L, hc, cond_false, Option.bind_none] at h; cases h
  | true =>
  simp only [Q7L, hc, cond_true, Option.bind_some] at h
  simp only [Nat.ble_eq] at hc
  refine ⟨_, _, _, h, ?_⟩
  have main : ∀ H2 : Heap, Q12 H2 [.str] args = some (x, ids) → Q14 P (ρ.f 316) args H2 (resA [.str] (x.1, ())) H2 := by
   intro H2 hx2 m μ w vs rh hv
   have hv2 := Q1C rh mu0 hx2 (fun _ h => h) hv
   obtain ⟨s, u⟩ := x
   match vs, hv2 with
   | [v0], hv2 =>
    obtain ⟨h0, _⟩ := hv2
    have e0 : v0 = .string s := (List.cons.inj h0).1
    subst e0
    exact ⟨.enter (ρ.f 316) #[.string s], w, Q0m L.f316 hbody hname _ w, .inl ⟨_, _, rfl, (Any.stringslite_Clone L s w hc).mono fun e w' ⟨he, hb⟩ => ⟨_, m, μ, he, rfl, Post.below rh hb⟩⟩⟩
  cases ids with
  | nil => exact ⟨rfl, fun H2 => main H2 (Q0K hx (by simp))⟩
  | cons i l => exact ⟨rfl, fun H2 hi => main H2 (Q0K hx hi)⟩
 ·cases h
def cmpB (xs ys : List Int) : Int := Lib.compareBytes (bytesOf xs).data.toList (bytesOf ys).data.toList
theorem Q9B {P : Program} {m : Mem} {μ : LMap} {H : Heap} {w : World} (rh : RH m μ H w) {xs : List Int} {v : Value} (h : DRel m (.sl (.int .u8)) xs [v]) : (Extern.Bytes.bytesOf v).run P w = .ok (bytesOf xs) w := by
 obtain ⟨a, cap, hv, hcap, hr⟩ := h
 obtain ⟨rfl, _⟩ := List.cons.inj hv
 have hlen : ∀ {a : List Int}, a.length = List.length a := fun {_} => rfl
 cases a with
 | none =>
  have : xs = [] := by
   cases xs with
   | nil => rfl
   | cons x l =>
    obtain ⟨ad, c, h1, _⟩ := hr 0 (Nat.zero_lt_succ _)
    cases h1
  subst this
  rfl
 | some ad =>
  obtain ⟨b, o, sp⟩ := ad
  have hl := Lib.run_loadBytesX (P := P) w xs ⟨b, o, sp⟩ .empty (fun j x hj => by
   have hjl : j < xs.length := (List.getElem?_eq_some_iff.1 hj).1
   obtain ⟨ad, c, h1, h2, h3, h4⟩ := hr j hjl
   cases h1
   dsimp only at h2 h3
   subst h2
   simp only [Ty.size, Nat.mul_one] at h3
   unfold Mem.cells at h3
   cases hm : m b with
   | none => rw [hm] at h3; cases h3
   | some cs =>
    rw [hm] at h3
    dsimp only at h3
    by_cases hle : o + j + 1 ≤ cs.size
    ·rw [if_pos hle] at h3
     cases h3
     obtain ⟨E, fz, hw⟩ := rh.mem b cs hm
     have e : (⟨b, o, none⟩ : Addr).add j = ⟨b, o + j, none⟩ := by unfold Addr.add; split <;> simp_all
     rw [e, Q1R hw]
     have h4' : ((cs.toList.drop (o + j)).take 1) = [Value.int .u8 (xs.getD j 0)] := h4
     have h5 := congrArg (·[0]?) h4'
     simp only [List.getElem?_cons_zero, List.getElem?_take, List.getElem?_drop, Nat.add_zero] at h5
     rw [if_pos (by omega)] at h5
     rw [← Array.getElem?_toList, h5, List.getD_eq_getElem?_getD, hj]
     rfl
    ·rw [if_neg hle] at h3; cases h3)
  simp only [Extern.Bytes.bytesOf]
  rw [hl]
  congr 1
  apply ByteArray.ext
  simp [bytesOf, Lib.bytesOf]
theorem QbT {P : Program} {f : Nat} {fn : Func} (hf : P.funcs[f]? = some fn) (hname : (fn.name == "runtime.NumGoroutine") = false) (hb : fn.body.isNone = true) (hn : Extern.findNext fn = none)
  (he : Extern.find fn = some Extern.BytealgCompare.compare) : Qo P f (QP [.sl (.int .u8), .sl (.int .u8)] [.int .i64] fun x => some (cmpB x.1 x.2.1, ())) := by
 intro ρ args H k r h
 simp only [QP] at h
 split at h
 ·rename_i x ids hx
  rw [show (ids.isEmpty || ([.int .i64] : List Ty).all Q0x) = true by simp [Q0x], cond_true, Option.bind_some] at h
  refine ⟨_, _, _, h, ?_⟩
  have main : ∀ H2 : Heap, Q12 H2 [.sl (.int .u8), .sl (.int .u8)] args = some (x, ids) → Q14 P f args H2 (resA [.int .i64] (cmpB x.1 x.2.1, ())) H2 := by
   intro H2 hx2 m μ w vs rh hv
   have hv2 := Q1C rh mu0 hx2 (fun _ h => h) hv
   have hp := Q2d (ids := ids) rh
   obtain ⟨xs, ys, u⟩ := x
   match vs, hv2 with
   | [v0, v1], hv2 =>
    obtain ⟨h0, h1, _⟩ := hv2
    have e0 := Q9B (P := P) (w := w) hp.rh (show DRel _ (.sl (.int .u8)) xs [v0] from h0)
    have e1 := Q9B (P := P) (w := w) hp.rh (show DRel _ (.sl (.int .u8)) ys [v1] from h1)
    refine ⟨.value (.int .i64 (cmpB xs ys)), w, ?_, .inr ⟨_, rfl, _, m, μ, rfl, ?_, Post.refl rh⟩⟩
    ·show (callFunc f #[v0, v1]).run P w = _
     rw [run_callFunc_extern hf hname hb hn he]
     have : (Extern.BytealgCompare.compare #[v0, v1]).run P w = .ok (.int .i64 (cmpB xs ys)) w := by
      change Sem.run P (do pure (goInt (Extern.BytealgCompare.cmp (← Extern.Bytes.bytesOf v0) (← Extern.Bytes.bytesOf v1)))) w = _
      simp only [Sem.run_bind, Sem.run_pure, e0, e1, Result.andThen]
      rw [Lib.cmp_eq]
      rfl
     rw [this]
     rfl
    ·exact rfl
  cases ids with
  | nil => exact ⟨rfl, fun H2 => main H2 (Q0K hx (by simp))⟩
  | cons i l => exact ⟨rfl, fun H2 hi => main H2 (Q0K hx hi)⟩
 ·cases h
end Go.Am
