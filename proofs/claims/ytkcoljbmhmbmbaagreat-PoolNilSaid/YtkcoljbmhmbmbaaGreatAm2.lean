/- A part of a proof: a machine of abstract values that tells what functions of the program compute, and the plain facts on them. -/
import Derived.Test.YtkcoljbmhmbmbaaGreatAm1
import Derived.Laws.StructEq
import Derived.Laws.Pointers
import Derived.Laws.Append
import Derived.Laws.BytesArg
import Derived.Lib.ConvBytes
set_option linter.unusedVariables false
set_option linter.unusedSimpArgs false
set_option linter.unnecessarySimpa false
set_option linter.unusedSectionVars false
namespace Go.Am
open Go
theorem QaG {P : Program} {op : BinOp} {k : IntKind} {a b : Int} {r : Bool × AVal} (w : World) (h : binI op k a b = some r) (hv : r.1 = true) :
  ∃ v, (match op with
   | .add | .sub | .mul => Op.intArith op k a b
   | .quo | .rem => Op.intDiv op k a b
   | .and | .or | .xor | .andNot => Op.intBits op k a b
   | _ => Op.intCmp op a b : Sem Value).run P w = .ok v w ∧ ∀ m μ, VRel m μ r.2 v := by
 cases op <;> simp only [binI] at h <;> first | (cases h; done) | cases h
 all_goals (try (exact ⟨_, rfl, fun _ _ => rfl⟩))
 all_goals
  simp only [Bool.not_eq_true', decide_eq_false_iff_not] at hv
  refine ⟨_, by simp only [Op.intDiv, if_neg hv]; rfl, fun _ _ => rfl⟩
theorem QaH {P : Program} {op : BinOp} {a b : ByteArray} {r : Bool × AVal} (w : World) (h : binS op a b = some r) (hv : r.1 = true) :
  ∃ v, (Op.stringOp op a b).run P w = .ok v w ∧ ∀ m μ, VRel m μ r.2 v := by
 cases op <;> simp only [binS] at h <;> first | (cases h; done) | cases h
 all_goals (try (exact ⟨_, rfl, fun _ _ => rfl⟩))
 simp only [Nat.ble_eq] at hv
 refine ⟨.string (a ++ b), ?_, fun _ _ => rfl⟩
 simp only [Op.stringOp]
 rw [if_neg]
 ·rfl
 ·rw [show IntKind.i64.max = 9223372036854775807 from by decide]; omega
theorem QbD {P : Program} {op : UnOp} {x y : AVal} {m : Mem} {μ : LMap} {v : Value} (w : World) (h : unA op x = some y) (hx : VRel m μ x v) :
  ∃ u, (Op.unary op v).run P w = .ok u w ∧ VRel m μ y u := by
 cases x <;> cases op <;> simp only [unA] at h <;> first | (cases h; done) | cases h
 all_goals
  have := hx.one rfl rfl
  cases this
  exact ⟨_, rfl, rfl⟩
theorem Q1f {P : Program} {w : World} {r : Nat} {es : Array MapEntry} {c : Nat} (h : w.heap[r]? = some (.map es c)) : (getObj r).run P w = .ok (.map es c) w := by
 simp only [getObj, Sem.run, h]
theorem Q4d {m : Mem} {μ : LMap} {H : Heap} {w : World} (rh : RH m μ H w) {id : Nat} {kt vt : Ty} {xs : List (kt.den × vt.den)} {v : Value} (hi : H[id]? = some (some (.mpc kt vt xs))) (hv : VRel m μ (.mp id) v) :
  ∃ l es c, μ id = some l ∧ l.mp = true ∧ v = .map (some l.b) ∧ w.heap[l.b]? = some (.map es c) ∧ Q2t m kt vt xs es.toList c := by
 obtain ⟨l, hl, hp, he⟩ := hv.one rfl rfl
 cases he
 obtain ⟨_, kt', vt', xs', es, c, e, h1, h2⟩ := rh.mp id _ l hi hl hp
 cases e
 exact ⟨l, es, c, hl, hp, rfl, h1, h2⟩
theorem QbP {P : Program} {m : Mem} {μ : LMap} {H : Heap} {w : World} {T : TypeId} {ty : TypeId} {x : AVal} {v : Value} {r : Res} {ats : Array TypeId} {as : Array Value} (rh : RH m μ H w) (hx : VRel m μ x v) (h : lenA P H T x = some r)
  (hT : ats[0]? = some T) (hA : as[0]? = some v) : r.H = H ∧ ∃ u, (Builtin.len_ ats ty as).run P w = .ok u w ∧ VRel m μ r.v u := by
 unfold lenA at h
 split at h
 ·rename_i s hu
  cases h
  have := hx.one rfl rfl; cases this
  exact ⟨rfl, _, by simp only [Builtin.len_, hT, hA, run_bind, Qa hu]; rfl, rfl⟩
 ·rename_i e t xs hu
  cases h
  obtain ⟨a, cap, he, _⟩ := hx.one rfl rfl
  cases he
  exact ⟨rfl, _, by simp only [Builtin.len_, hT, hA, run_bind, Qa hu]; rfl, rfl⟩
 ·rename_i e id p off len hu
  cases h
  obtain ⟨l, o, n, t, a, cap, _, _, _, _, he, _⟩ := hx.one rfl rfl
  cases he
  exact ⟨rfl, _, by simp only [Builtin.len_, hT, hA, run_bind, Qa hu]; rfl, rfl⟩
 ·rename_i e id hu
  split at h
  ·rename_i t xs hi
   cases h
   obtain ⟨l, n, t', a, cap, hl, hs, _, he, _⟩ := hx.one rfl rfl
   cases he
   obtain ⟨l', hb⟩ := rh.blk _ _ hi
   have : l' = l := Option.some.inj (hb.loc.symm.trans hl)
   subst this
   have hsh := hb.sh
   rw [hs] at hsh
   cases hsh
   exact ⟨rfl, _, by simp only [Builtin.len_, hT, hA, run_bind, Qa hu]; rfl, rfl⟩
  ·cases h
 ·rename_i e id hu
  split at h
  ·rename_i t xs hi
   cases h
   obtain ⟨l, n, a, cap, hl, hs, _, he, _⟩ := hx.one rfl rfl
   cases he
   obtain ⟨l', hb⟩ := rh.blk _ _ hi
   have : l' = l := Option.some.inj (hb.loc.symm.trans hl)
   subst this
   have hsh := hb.sh
   rw [hs] at hsh
   cases hsh
   exact ⟨rfl, _, by simp only [Builtin.len_, hT, hA, run_bind, Qa hu]; rfl, rfl⟩
  ·cases h
 ·rename_i e hu
  cases h
  have := hx.one rfl rfl; cases this
  exact ⟨rfl, _, by simp only [Builtin.len_, hT, hA, run_bind, Qa hu]; rfl, rfl⟩
 ·rename_i id hu
  split at h
  ·rename_i kt vt xs hi
   cases h
   obtain ⟨l, es, c, _, _, rfl, h1, h2⟩ := Q4d rh hi hx
   refine ⟨rfl, .int .i64 xs.length, ?_, rfl⟩
   simp only [Builtin.len_, hT, hA, run_bind, Qa hu, Q1f h1]
   obtain ⟨ys, hp, _, hm, _⟩ := h2
   rw [← hp.length_eq, ← hm.1, Array.length_toList]
   rfl
  ·cases h
 ·rename_i x n e hu
  cases h
  refine ⟨rfl, .int .i64 n, ?_, rfl⟩
  simp only [Builtin.len_, hT, hA, run_bind, Qa hu]
  rfl
 ·rename_i a x hu
  split at h
  ·rename_i n e hu2
   cases h
   refine ⟨rfl, .int .i64 n, ?_, rfl⟩
   simp only [Builtin.len_, hT, hA, run_bind, Qa hu]
   cases v <;> simp only [Qa hu2] <;> rfl
  ·cases h
 ·cases h
theorem Q3T {m : Mem} {μ : LMap} {H : Heap} {w : World} (rh : RH m μ H w) {id : Nat} {p : List Nat} {x : AVal} {l : Loc} {o : Nat} {s : Sh} (hc : Q21 H id p = some x) (hl : μ id = some l) (ho : l.sh.offP p = some (o, s)) : x.sh = s := by
 obtain ⟨c, hi, hg⟩ := Q44 hc
 exact (Q2j rh hi hg hl ho).1
theorem Q42 : ∀ {s : Sh} {p : List Nat} {o : Nat} {s1 : Sh} (i : Nat) {o2 : Nat} {s2 : Sh}, s.offP p = some (o, s1) → s1.fieldOff i = some (o2, s2) → s.offP (p ++ [i]) = some (o + o2, s2)
 | s, [], o, s1, i, o2, s2, h, h2 => by
  simp only [Sh.offP, Option.some.injEq, Prod.mk.injEq] at h
  obtain ⟨rfl, rfl⟩ := h
  simp [Sh.offP, h2]
 | s, j :: p, o, s1, i, o2, s2, h, h2 => by
  simp only [Sh.offP] at h
  cases hf : s.fieldOff j with
  | none => rw [hf] at h; cases h
  | some r =>
   rw [hf] at h
   simp only [Option.bind_some] at h
   cases hp : r.2.offP p with
   | none => rw [hp] at h; cases h
   | some q =>
    rw [hp] at h
    simp only [Option.bind_some, Option.some.injEq, Prod.mk.injEq] at h
    obtain ⟨rfl, rfl⟩ := h
    have := Q42 (s := r.2) (p := p) i (o := q.1) (s1 := q.2) hp h2
    simp only [List.cons_append, Sh.offP, hf, Option.bind_some, this]
    simp [Nat.add_assoc]
theorem Q4W {P : Program} {S : TypeId} {fs : Array Field} {f : Nat} {fd : Field} {n b o : Nat} (hu : P.underlying S = some (.struct fs)) (hf : fs[f]? = some fd) (hs : Q16 P fd.type = some n) (hn : n ≠ 0) (w : World) :
  (Instr.fieldAt S (.pointer (some ⟨b, o, none⟩)) f).run P w = .ok (.pointer (some ⟨b, o + fd.offset, none⟩)) w := by
 simp only [Instr.fieldAt, run_bind, Qa hu, hf, Instr.sureAddr, QP, fieldPlace, Q0N hs, hn, if_false, Q2h]
theorem Q7j {m : Mem} : ∀ {t : Ty} {x : t.den} {f : Nat} {o : Nat} {s : Sh} {t' : Ty} {y : t'.den} {cs : List Value}, DRel m t x cs → t.sh.fieldOff f = some (o, s) → Q6E t x f = some ⟨t', y⟩ →
  t'.sh = s ∧ o + t'.size ≤ t.size ∧ DRel m t' y ((cs.drop o).take t'.size)
 | .pair a b, x, 0, o, s, t', y, cs, hd, hf, h => by
  simp only [Ty.sh, Sh.fieldOff, Option.some.injEq, Prod.mk.injEq] at hf
  obtain ⟨rfl, rfl⟩ := hf
  simp only [Q6E, Option.some.injEq] at h
  cases h
  exact ⟨rfl, by simp [Ty.size], by simpa using hd.1⟩
 | .pair a b, x, f + 1, o, s, t', y, cs, hd, hf, h => by
  simp only [Ty.sh, Sh.fieldOff] at hf
  cases hb : b.sh.fieldOff f with
  | none => rw [hb] at hf; cases hf
  | some r =>
   rw [hb] at hf
   simp only [Option.bind_some, Option.some.injEq, Prod.mk.injEq] at hf
   obtain ⟨rfl, rfl⟩ := hf
   simp only [Q6E] at h
   obtain ⟨h1, h2, h3⟩ := Q7j (o := r.1) (s := r.2) hd.2 hb h
   rw [List.drop_drop] at h3
   refine ⟨h1, by simp only [Ty.size, Ty.sh_size]; omega, by rw [Ty.sh_size]; exact h3⟩
 | .int _, _, _, _, _, _, _, _, _, _, h | .bool, _, _, _, _, _, _, _, _, _, h | .str, _, _, _, _, _, _, _, _, _, h | .unit, _, _, _, _, _, _, _, _, _, h | .arr _ _, _, _, _, _, _, _, _, _, _, h | .sl _, _, _, _, _, _, _, _, _, _, h => by
  simp [Q6E] at h
theorem Q76 {P : Program} {m : Mem} {μ : LMap} {H : Heap} {w : World} {S : TypeId} {a : AVal} {f : Nat} {v : Value} {r : Res} (rh : RH m μ H w) (hv : VRel m μ a v) (h : Q3m P H S a f = some r) :
  r.H = H ∧ ∃ u, (Instr.fieldAt S v f).run P w = .ok u w ∧ VRel m μ r.v u := by
 unfold Q3m at h
 split at h
 ·rename_i fs hu
  split at h
  ·rename_i fd hf
   split at h
   ·rename_i id p
    split at h
    ·rename_i o s hc
     split at h
     ·rename_i hok
      cases h
      simp only [Bool.and_eq_true, beq_iff_eq, bne_iff_ne] at hok
      obtain ⟨⟨h1, h2⟩, h3⟩ := hok
      cases hcc : Q21 H id p with
      | none => rw [hcc] at hc; cases hc
      | some c =>
       rw [hcc] at hc
       simp only [Option.bind_some] at hc
       obtain ⟨l, o', s', hl, ho, he⟩ := hv.one rfl rfl
       cases he
       have hs := Q3T rh hcc hl ho
       rw [hs] at hc
       refine ⟨rfl, _, Q4W hu hf h2 h3 w, ?_⟩
       refine ⟨l, _, _, hl, Q42 f ho hc, ?_⟩
       rw [h1, Nat.add_assoc]
     ·cases h
    ·cases h
   ·rename_i t x
    split at h
    ·rename_i o s t' y hfo hfd
     split at h
     ·rename_i hok
      cases h
      simp only [Bool.and_eq_true, beq_iff_eq, bne_iff_ne] at hok
      obtain ⟨⟨h1, h2⟩, h3⟩ := hok
      obtain ⟨ad, c, he, hsp, hm, hd⟩ := hv.one rfl rfl
      cases he
      obtain ⟨g1, g2, g3⟩ := Q7j hd hfo hfd
      have : ad = ⟨ad.block, ad.off, none⟩ := by cases ad; simp_all
      refine ⟨rfl, _, by rw [this]; exact Q4W hu hf h2 h3 w, ?_⟩
      obtain ⟨cs, hmb, hle, hcc⟩ := Q2v hm
      refine ⟨_, _, rfl, rfl, ?_, g3⟩
      subst hcc
      simp only [Mem.cells, hmb]
      rw [if_pos (by omega), h1, Q0Z _ _ _ _ _ g2]
     ·cases h
    ·cases h
   ·cases h
  ·cases h
 ·cases h
theorem Q4t {P : Program} {m : Mem} {μ : LMap} {T : TypeId} {x : AVal} {cs : Array Value} {o : Nat} (w : World) (h1 : Q1H P T = some x.isAgg) (h2 : Q16 P T = some x.size) (hle : o + x.size ≤ cs.size)
  (hx : CRel m μ x ((cs.toList.drop o).take x.size)) : ∃ v, (part T cs o).run P w = .ok v w ∧ VRel m μ x v := by
 cases ha : x.isAgg with
 | true =>
  rw [ha] at h1
  refine ⟨.agg (cs.extract o (o + x.size)), ?_, Q4D (by simpa using hx) ha⟩
  simp only [part, run_bind, Q2s h1, Q0N h2, if_true]; rfl
 | false =>
  rw [ha] at h1
  obtain ⟨v, hv⟩ := hx.one ha
  have hs : x.size = 1 := by rw [AVal.size, Q50 ha]; rfl
  rw [hs] at hv hle
  have hc : cs[o]? = some v := by
   have := congrArg (·[0]?) hv
   simpa [List.getElem?_take, List.getElem?_drop] using this
  refine ⟨v, ?_, Q3c (by rw [← hv, ← hs]; exact hx) ha⟩
  simp only [part, run_bind, Q2s h1, hc]
  rfl
theorem Q9M {P : Program} {m : Mem} {μ : LMap} {H : Heap} {w : World} {S : TypeId} {a : AVal} {f : Nat} {v : Value} {r : Res} (hv : VRel m μ a v) (h : Q5J P H S a f = some r) :
  r.H = H ∧ ∃ u, (Instr.field S v f).run P w = .ok u w ∧ VRel m μ r.v u := by
 unfold Q5J at h
 split at h
 ·rename_i fs hu
  split at h
  ·rename_i fd o s x hf hfo hfa
   split at h
   ·rename_i hok
    cases h
    simp only [Bool.and_eq_true, beq_iff_eq] at hok
    obtain ⟨⟨⟨⟨h1, h2⟩, h3⟩, h4⟩, h5⟩ := hok
    obtain ⟨cs, rfl, hc⟩ := hv.agg h1
    obtain ⟨hle, x', hx', hs, hr⟩ := Q2l hc hfo
    rw [hfa] at hx'; cases hx'
    subst hs
    have hl := hc.length
    simp only [AVal.size, Array.length_toList] at hl
    obtain ⟨u, hu1, hu2⟩ := Q4t (P := P) (m := m) (μ := μ) (T := fd.type) (x := x) (cs := cs) (o := fd.offset) w h4 h3 (by rw [h2, AVal.size]; omega) (by rw [h2]; exact hr)
    refine ⟨rfl, u, ?_, hu2⟩
    simp only [Instr.field, run_bind, Qa hu, hf, asAgg, QP]
    exact hu1
   ·cases h
  ·cases h
 ·cases h
theorem Q88 {x : Option AVal} {t : Ty} (h : Qbi x = some t) : ∃ y n, x = some y ∧ y.sh = .arr n t := by
 unfold Qbi at h
 split at h
 ·cases h; exact ⟨_, _, rfl, rfl⟩
 ·cases h; exact ⟨_, _, rfl, rfl⟩
 ·cases h
theorem Q3U {b o i s : Nat} : (⟨b, o, none⟩ : Addr).add (i * s) = ⟨b, o + i * s, none⟩ := Q2h _ _ _
theorem Q30 {m : Mem} {μ : LMap} {H : Heap} {w : World} (rh : RH m μ H w) {id : Nat} {t : Ty} {xs : List t.den} {v : Value} (hi : H[id]? = some (some (.vec t xs))) (hv : VRel m μ (.vsl id) v) :
  ∃ l a cap, μ id = some l ∧ l.sh = .arr xs.length t ∧ xs.length ≤ cap ∧ v = .slice a xs.length cap ∧ ((a = some ⟨l.b, l.off, none⟩ ∧ l.off + cap * t.size ≤ l.tot) ∨ cap = 0) := by
 obtain ⟨l, n, t', a, cap, hl, hs, hc, he, ha⟩ := hv.one rfl rfl
 cases he
 obtain ⟨l', hb⟩ := rh.blk _ _ hi
 have : l' = l := Option.some.inj (hb.loc.symm.trans hl)
 subst this
 have hsh := hb.sh
 rw [hs] at hsh
 cases hsh
 exact ⟨_, a, cap, hl, hs, hc, rfl, ha⟩
theorem Q89 {s : Nat} : ∀ {sh : Sh} {n i : Nat}, Q4x s sh = some n → i < n → ∃ si, sh.fieldOff i = some (i * s, si)
 | .unit, n, i, h, hi => by simp only [Q4x, Option.some.injEq] at h; omega
 | .pair a b, n, i, h, hi => by
  simp only [Q4x] at h
  split at h
  ·rename_i ha
   obtain ⟨k, hk, e⟩ := Option.map_eq_some_iff.1 h
   cases i with
   | zero => exact ⟨a, by simp [Sh.fieldOff]⟩
   | succ i =>
    obtain ⟨si, h2⟩ := Q89 hk (by omega : i < k)
    exact ⟨si, by simp only [Sh.fieldOff, h2, Option.bind_some, ha, Nat.add_mul, Nat.one_mul]; rw [Nat.add_comm]⟩
  ·cases h
 | .leaf, _, _, h, _ => by simp [Q4x] at h
 | .arr _ _, _, _, h, _ => by simp [Q4x] at h
theorem Q74 {P : Program} {m : Mem} {μ : LMap} {H : Heap} {w : World} {T : TypeId} {x i : AVal} {v vi : Value} {r : Res} (rh : RH m μ H w) (hv : VRel m μ x v) (hi : VRel m μ i vi) (h : Q3e P H T x i = some r) (hvc : r.vc = true) :
  r.H = H ∧ ∃ u, (Instr.indexAt T v vi).run P w = .ok u w ∧ VRel m μ r.v u := by
 cases i <;> simp only [Q3e] at h <;> try (cases h; done)
 rename_i k i
 have := hi.one rfl rfl
 cases this
 split at h
 ·rename_i len e hu
  split at h
  ·rename_i id p
   split at h
   ·rename_i n t xs hc
    split at h
    ·rename_i hok
     cases h
     simp only [Bool.and_eq_true, beq_iff_eq] at hok
     obtain ⟨rfl, h2⟩ := hok
     simp only [decide_eq_true_eq] at hvc
     obtain ⟨l, o, s, hl, ho, he⟩ := hv.one rfl rfl
     cases he
     have hs := Q3T rh hc hl ho
     subst hs
     refine ⟨rfl, .pointer (some ⟨l.b, l.off + o + i.toNat * t.size, none⟩), ?_, ?_⟩
     ·simp only [Instr.indexAt, asIntOf, run_bind, QP, Qa hu, Instr.sureAddr]
      rw [if_pos hvc]
      simp only [run_bind, Q0N h2, QP, Q3U]
     ·refine ⟨l, _, t.sh, hl, Q42 i.toNat ho (o2 := i.toNat * t.size) (s2 := t.sh) ?_, by rw [Nat.add_assoc]⟩
      simp only [AVal.sh, Sh.fieldOff]
      rw [if_pos (by omega)]
    ·cases h
   ·rename_i c _ hc
    split at h
    ·rename_i s hse
     split at h
     ·rename_i hok
      cases h
      have hn : Q4x s c.sh = some len := eq_of_beq hok
      simp only [decide_eq_true_eq] at hvc
      obtain ⟨l, o, sh, hl, ho, he⟩ := hv.one rfl rfl
      cases he
      have hs := Q3T rh hc hl ho
      subst hs
      obtain ⟨si, hsi⟩ := Q89 hn (i := i.toNat) (by omega)
      refine ⟨rfl, .pointer (some ⟨l.b, l.off + o + i.toNat * s, none⟩), ?_, ?_⟩
      ·simp only [Instr.indexAt, asIntOf, run_bind, QP, Qa hu, Instr.sureAddr]
       rw [if_pos hvc]
       simp only [run_bind, Q0N hse, QP, Q3U]
      ·exact ⟨l, _, si, hl, Q42 i.toNat ho hsi, by rw [Nat.add_assoc]⟩
     ·cases h
    ·cases h
   ·cases h
  ·rename_i n t xs
   split at h
   ·rename_i hok
    cases h
    simp only [Bool.and_eq_true, beq_iff_eq] at hok
    obtain ⟨rfl, h2⟩ := hok
    simp only [decide_eq_true_eq] at hvc
    obtain ⟨ad, c, he, hsp, hm, hd⟩ := hv.one rfl rfl
    cases he
    obtain ⟨cs, hmb, hle, hcc⟩ := Q2v hm
    simp only [DRel] at hd
    obtain ⟨d1, d2, d3⟩ := hd
    have ha : ad = ⟨ad.block, ad.off, none⟩ := by cases ad; simp_all
    have hin : i.toNat < n := by omega
    have hmul : (i.toNat + 1) * t.size ≤ n * t.size := Nat.mul_le_mul_right _ hin
    rw [Nat.add_mul] at hmul
    simp only [Ty.size] at hle hcc
    refine ⟨rfl, .pointer (some ⟨ad.block, ad.off + i.toNat * t.size, none⟩), ?_, ?_⟩
    ·rw [ha]
     simp only [Instr.indexAt, asIntOf, run_bind, QP, Qa hu, Instr.sureAddr]
     rw [if_pos hvc]
     simp only [run_bind, Q0N h2, QP, Q3U]
    ·refine ⟨_, _, rfl, rfl, ?_, d3 _ hin⟩
     subst hcc
     simp only [Mem.cells, hmb]
     rw [if_pos (by omega), Q0Z _ _ _ _ _ (by omega)]
   ·cases h
  ·cases h
 ·rename_i e hu
  split at h
  ·rename_i id p off len
   split at h
   ·rename_i t hc
    split at h
    ·rename_i hok
     cases h
     simp only [beq_iff_eq] at hok
     simp only [decide_eq_true_eq] at hvc
     obtain ⟨y, n', hy, hsh⟩ := Q88 hc
     obtain ⟨l, o, n, t', a, cap, hl, ho, hle, hlc, he, ha⟩ := hv.one rfl rfl
     cases he
     have hs := Q3T rh hy hl ho
     rw [hsh] at hs
     cases hs
     have ha' : a = some ⟨l.b, l.off + o + off * t.size, none⟩ := by
      rcases ha with ⟨h1, _⟩ | h1
      ·exact h1
      ·omega
     subst ha'
     refine ⟨rfl, .pointer (some ⟨l.b, l.off + o + off * t.size + i.toNat * t.size, none⟩), ?_, ?_⟩
     ·simp only [Instr.indexAt, asIntOf, run_bind, QP, Qa hu]
      rw [if_pos hvc]
      simp only [run_bind, Q0N hok, QP, Q3U]
     ·refine ⟨l, _, t.sh, hl, Q42 (off + i.toNat) ho (o2 := (off + i.toNat) * t.size) (s2 := t.sh) ?_, by rw [Nat.add_mul]; simp only [Nat.add_assoc]⟩
      simp only [Sh.fieldOff]
      rw [if_pos (by omega)]
    ·cases h
   ·cases h
  ·rename_i id
   split at h
   ·rename_i t xs hc
    split at h
    ·rename_i hok
     cases h
     simp only [beq_iff_eq] at hok
     simp only [decide_eq_true_eq] at hvc
     obtain ⟨l, a, cap, hl, hs, hcap, rfl, ha⟩ := Q30 rh hc hv
     have ha' : a = some ⟨l.b, l.off, none⟩ := by
      rcases ha with ⟨h1, _⟩ | h1
      ·exact h1
      ·omega
     subst ha'
     refine ⟨rfl, .pointer (some ⟨l.b, l.off + i.toNat * t.size, none⟩), ?_, ?_⟩
     ·simp only [Instr.indexAt, asIntOf, run_bind, QP, Qa hu]
      rw [if_pos hvc]
      simp only [run_bind, Q0N hok, QP, Q3U]
     ·refine ⟨l, i.toNat * t.size, t.sh, hl, ?_, rfl⟩
      simp only [Sh.offP, hs, Sh.fieldOff]
      rw [if_pos (by omega)]
      simp
    ·cases h
   ·cases h
  ·rename_i t xs
   split at h
   ·rename_i hok
    cases h
    simp only [beq_iff_eq] at hok
    simp only [decide_eq_true_eq] at hvc
    obtain ⟨a, cap, he, hcap, hd⟩ := hv.one rfl rfl
    cases he
    have hin : i.toNat < xs.length := by omega
    obtain ⟨ad, c, rfl, hsp, hm, hdi⟩ := hd _ hin
    have ha : ad = ⟨ad.block, ad.off, none⟩ := by cases ad; simp_all
    refine ⟨rfl, .pointer (some ⟨ad.block, ad.off + i.toNat * t.size, none⟩), ?_, ?_⟩
    ·rw [ha]
     simp only [Instr.indexAt, asIntOf, run_bind, QP, Qa hu]
     rw [if_pos hvc]
     simp only [run_bind, Q0N hok, QP, Q3U]
    ·exact ⟨_, c, rfl, rfl, hm, hdi⟩
   ·cases h
  ·cases h; cases hvc
  ·cases h
 ·cases h
theorem Qad {P : Program} {m : Mem} {μ : LMap} {H : Heap} {w : World} {T : TypeId} {x i : AVal} {v vi : Value} {r : Res} (hv : VRel m μ x v) (hi : VRel m μ i vi) (h : Q7y P H T x i = some r) (hvc : r.vc = true) :
  r.H = H ∧ ∃ u, (Instr.index T v vi).run P w = .ok u w ∧ VRel m μ r.v u := by
 cases i <;> simp only [Q7y] at h <;> try (cases h; done)
 rename_i k i
 have := hi.one rfl rfl
 cases this
 split at h
 ·rename_i len e n t xs hu
  split at h
  ·rename_i hok
   cases h
   simp only [Bool.and_eq_true, beq_iff_eq] at hok
   obtain ⟨⟨rfl, h2⟩, h3⟩ := hok
   simp only [decide_eq_true_eq] at hvc
   obtain ⟨cs, rfl, hc⟩ := hv.agg rfl
   simp only [CRel, DRel] at hc
   obtain ⟨d1, d2, d3⟩ := hc
   have hin : i.toNat < n := by omega
   have hmul : (i.toNat + 1) * t.size ≤ n * t.size := Nat.mul_le_mul_right _ hin
   rw [Nat.add_mul] at hmul
   simp only [Array.length_toList] at d2
   have hagg : (toA t (xs.getD i.toNat t.zero)).isAgg = (toA t t.zero).isAgg := by cases t <;> rfl
   obtain ⟨u, hu1, hu2⟩ := Q4t (P := P) (m := m) (μ := μ) (T := e) (x := toA t (xs.getD i.toNat t.zero)) (cs := cs) (o := i.toNat * t.size) w (by rw [hagg]; exact h3) (by rw [Q4L]; exact h2)
    (by rw [Q4L]; omega) (by rw [Q4L]; exact Q1n.2 (d3 _ hin))
   refine ⟨rfl, u, ?_, hu2⟩
   simp only [Instr.index, asIntOf, run_bind, QP, Qa hu]
   rw [if_pos hvc]
   simp only [run_bind, Q0N h2]
   exact hu1
  ·cases h
 ·rename_i s hu
  cases h
  simp only [decide_eq_true_eq] at hvc
  have := hv.one rfl rfl
  cases this
  have hin : i.toNat < s.size := by omega
  refine ⟨rfl, .int .u8 (s[i.toNat]'hin).toNat, ?_, ?_⟩
  ·simp only [Instr.index, asIntOf, run_bind, QP, Qa hu]
   rw [if_pos hvc.1, getElem?_pos s i.toNat hin]
   rfl
  ·show [Value.int .u8 _] = [Value.int .u8 _]
   simp only [Q7q]
   congr 3
   have hd : i.toNat < s.data.toList.length := by simpa using hin
   rw [List.getD_eq_getElem?_getD, List.getElem?_eq_getElem hd]
   rfl
 ·cases h
end Go.Am
namespace Go.Am
open Go
theorem Q9s {α : Type} (P : Program) (c : Prop) [Decidable c] (s t : Sem α) (w : World) : (if c then s else t).run P w = if c then s.run P w else t.run P w := by split <;> rfl
theorem Q7Y {P : Program} {k : IntKind} {e : TypeId} {xs : List Int} {cs : Array Value} {m : Mem} {n i : Nat} (hu : P.underlying e = some (.int k)) (hd : DRel m (.arr n (.int k)) xs cs.toList) (hi : i < n) (w : World) :
  (part e cs i).run P w = .ok (.int k (xs.getD i 0)) w := by
 simp only [DRel] at hd
 obtain ⟨d1, d2, d3⟩ := hd
 simp only [Ty.size, Nat.mul_one] at d2 d3
 have h := d3 i hi
 have hc : cs[i]? = some (.int k (xs.getD i 0)) := by
  have := congrArg (·[0]?) h
  simpa [List.getElem?_take, List.getElem?_drop, Ty.zero] using this
 have ha : Q1H P e = some false := by unfold Q1H; rw [hu]
 simp only [part, run_bind, Q2s ha, hc]
 rfl
theorem Qao {P : Program} {k : IntKind} {e : TypeId} {xs ys : List Int} {cs ds : Array Value} {m : Mem} {n : Nat} (d : Nat) (hu : P.underlying e = some (.int k)) (hx : DRel m (.arr n (.int k)) xs cs.toList) (hy : DRel m (.arr n (.int k)) ys ds.toList) (w : World) :
  ∀ (l s : Nat), s + l = n → (∀ j, j < s → xs.getD j 0 = ys.getD j 0) →
   (forIn (List.range' s l) ((none, ()) : Option Bool × Unit) (fun i (_ : Option Bool × Unit) => (do
     let r ← Op.equalIn (d + 1) e (← part e cs (i * 1)) (← part e ds (i * 1))
     if (!r) = true then pure (ForInStep.done (some false, ())) else pure (ForInStep.yield (none, ())) : Sem _))).run P w =
    .ok (if (xs : List Int) = ys then (none, ()) else (some false, ())) w := by
 intro l
 induction l with
 | zero =>
  intro s hs hj
  simp only [List.range'_zero, List.forIn_nil]
  rw [if_pos]
  ·rfl
  ·have h1 : xs.length = n := hx.1
   have h2 : ys.length = n := hy.1
   refine List.ext_getElem (by omega) fun i a b => ?_
   have := hj i (by omega)
   simpa [List.getD_eq_getElem?_getD, List.getElem?_eq_getElem a, List.getElem?_eq_getElem b] using this
 | succ l ih =>
  intro s hs hj
  simp only [List.range'_succ, List.forIn_cons, run_bind, Nat.mul_one, Q7Y hu hx (show s < n by omega), Q7Y hu hy (show s < n by omega), Go.run_equalIn_int w d e k k _ _ hu]
  by_cases he : xs.getD s 0 = ys.getD s 0
  ·rw [he]
   simp only [beq_self_eq_true, Bool.not_true, Bool.false_eq_true, if_false, QP]
   have := ih (s + 1) (by omega) (fun j hjs => by
    rcases Nat.lt_or_eq_of_le (Nat.lt_succ_iff.1 hjs) with h | h
    ·exact hj j h
    ·subst h; exact he)
   simpa using this
  ·have hb : (xs.getD s 0 == ys.getD s 0) = false := by simpa using he
   rw [hb]
   simp only [Bool.not_false, if_true, QP]
   rw [if_neg (fun h => he (by rw [h]))]
theorem QbB {P : Program} {k : IntKind} {t e : TypeId} {xs ys : List Int} {cs ds : Array Value} {m : Mem} {n : Nat} (d : Nat) (ht : P.underlying t = some (.array n e)) (hu : P.underlying e = some (.int k)) (hs : Q16 P e = some 1) (hx : DRel m (.arr n (.int k)) xs cs.toList)
  (hy : DRel m (.arr n (.int k)) ys ds.toList) (w : World) : (Op.equalIn (d + 2) t (.agg cs) (.agg ds)).run P w = .ok (decide ((xs : List Int) = ys)) w := by
 have h := Qao d hu hx hy w n 0 (by omega) (fun j h => absurd h (Nat.not_lt_zero j))
 rw [Op.equalIn]
 simp only [run_bind, Qa ht, Q0N hs]
 rw [Std.Legacy.Range.forIn_eq_forIn_range']
 simp only [Std.Legacy.Range.size, Nat.sub_zero, Nat.add_sub_cancel, Nat.div_one]
 rw [h]
 by_cases he : (xs : List Int) = ys
 ·simp only [he, if_true, decide_true]; rfl
 ·simp only [he, if_false, decide_false]; rfl
theorem Q6V {n : Nat} {t : Ty} {xs : List t.den} {b : AVal} {r : Bool} (h : eqA (.arr n t xs) b = some r) :
  ∃ (k : IntKind) (xs' ys' : List Int), AVal.arr n t xs = .arr n (.int k) xs' ∧ b = .arr n (.int k) ys' ∧ r = decide (xs' = ys') := by
 cases t <;> cases b <;> try (simp [eqA] at h; done)
 rename_i k n' t' ys
 cases t' <;> try (simp [eqA] at h; done)
 rename_i k'
 simp only [eqA] at h
 split at h
 ·split at h
  ·rename_i h1 h2
   subst h1; subst h2
   exact ⟨k, xs, ys, rfl, rfl, (Option.some.inj h).symm⟩
  ·cases h
 ·cases h
theorem Q9p : ∀ {a b : AVal} {r : Bool}, eqA a b = some r → a.sh = b.sh ∧ a.isAgg = b.isAgg
 | .int _ _, b, r, h => by cases b <;> simp [eqA] at h <;> exact ⟨rfl, rfl⟩
 | .bool _, b, r, h => by cases b <;> simp [eqA] at h <;> exact ⟨rfl, rfl⟩
 | .str _, b, r, h => by cases b <;> simp [eqA] at h <;> exact ⟨rfl, rfl⟩
 | .unit, b, r, h => by cases b <;> simp [eqA] at h <;> exact ⟨rfl, rfl⟩
 | .pair a c, b, r, h => by
  cases b <;> simp only [eqA] at h <;> try (cases h; done)
  rename_i b1 b2
  cases h1 : eqA a b1 with
  | none => rw [h1] at h; cases h
  | some p =>
   rw [h1] at h
   simp only [Option.bind_some] at h
   cases h2 : eqA c b2 with
   | none => rw [h2] at h; cases h
   | some q => exact ⟨by simp [AVal.sh, (Q9p h1).1, (Q9p h2).1], rfl⟩
 | .arr n t xs, b, r, h => by
  obtain ⟨k, xs', ys', e1, e2, _⟩ := Q6V h
  rw [e1, e2]; exact ⟨rfl, rfl⟩
 | .undef, b, r, h | .nilp, b, r, h | .ptr _ _, b, r, h | .nils, b, r, h | .sl _ _ _ _, b, r, h | .ros _ _, b, r, h | .rop _ _, b, r, h | .vec _ _, b, r, h | .vsl _, b, r, h | .fn _ _, b, r, h | .tup _, b, r, h | .parr _ _ _ _, b, r, h => by
  simp [eqA] at h
theorem Qak {P : Program} : ∀ {n : Nat} {T : TypeId} {a : AVal}, eqTy P n T a = true → Q1H P T = some a.isAgg ∧ Q16 P T = some (P.cellsOf T)
 | 0, _, _, h => by simp [eqTy] at h
 | n + 1, T, a, h => by
  have hsz : ∀ {d : TypeDesc}, P.underlying T = some d → Q16 P T = some (P.cellsOf T) := by
   intro d hd
   unfold Q16 Program.cellsOf
   cases hi : P.info? T with
   | none => unfold Program.underlying at hd; rw [hi] at hd; cases hd
   | some i => rfl
  simp only [eqTy] at h
  split at h
  ·rename_i hu; exact ⟨by unfold Q1H; rw [hu]; rfl, hsz hu⟩
  ·rename_i hu; exact ⟨by unfold Q1H; rw [hu]; rfl, hsz hu⟩
  ·rename_i hu; exact ⟨by unfold Q1H; rw [hu]; rfl, hsz hu⟩
  ·rename_i hu
   simp only [Bool.and_eq_true] at h
   exact ⟨by unfold Q1H; rw [hu, h.1.1], hsz hu⟩
  ·rename_i hu; exact ⟨by unfold Q1H; rw [hu]; rfl, hsz hu⟩
  ·cases h
theorem Q5P {P : Program} {m : Mem} {μ : LMap} {d : Nat} {g : TypeId → AVal → Bool} (hg : ∀ T a b r x y w, g T a = true → eqA a b = some r → VRel m μ a x → VRel m μ b y → (Op.equalIn d T x y).run P w = .ok r w)
  (hag : ∀ T a, g T a = true → Q1H P T = some a.isAgg ∧ Q16 P T = some (P.cellsOf T)) :
  ∀ (fs : List Field) (off : Nat) (a b : AVal) (r : Bool) (cs ds : Array Value) (w : World), Q7u g P.cellsOf off fs a = true → eqA a b = some r → CRel m μ a (cs.toList.drop off) → CRel m μ b (ds.toList.drop off) →
   off + a.size = cs.size → off + b.size = ds.size → (Op.eqFields d cs ds fs).run P w = .ok r w
 | [], off, a, b, r, cs, ds, w, h, he, _, _, _, _ => by
  cases a <;> simp [Q7u] at h
  cases b <;> simp [eqA] at he
  subst he; rfl
 | f :: fs, off, a, b, r, cs, ds, w, h, he, ha, hb, hla, hlb => by
  cases a <;> simp [Q7u] at h
  rename_i a1 a2
  cases b <;> simp only [eqA] at he <;> try (cases he; done)
  rename_i b1 b2
  obtain ⟨⟨⟨⟨h1, h2⟩, h3⟩, h4⟩, h5⟩ := h
  cases e1 : eqA a1 b1 with
  | none => rw [e1] at he; cases he
  | some p =>
   rw [e1] at he
   simp only [Option.bind_some] at he
   cases e2 : eqA a2 b2 with
   | none => rw [e2] at he; cases he
   | some q =>
    rw [e2] at he
    simp only [Option.bind_some, Option.some.injEq] at he
    subst he
    obtain ⟨s1, s2⟩ := Q9p e1
    simp only [AVal.size, AVal.sh, Sh.size] at hla hlb
    simp only [CRel] at ha hb
    obtain ⟨g1, g2⟩ := hag _ _ h4
    rw [h3] at g2
    have hsz : b1.size = a1.size := by rw [AVal.size, AVal.size, s1]
    obtain ⟨x, hx1, hx2⟩ := Q4t (P := P) (m := m) (μ := μ) (T := f.type) (x := a1) (cs := cs) (o := off) w g1 g2 (by rw [AVal.size]; omega) ha.1
    obtain ⟨y, hy1, hy2⟩ := Q4t (P := P) (m := m) (μ := μ) (T := f.type) (x := b1) (cs := ds) (o := off) w (by rw [← s2]; exact g1) (by rw [hsz]; exact g2) (by rw [AVal.size]; omega) hb.1
    have hr := hg _ _ _ _ _ _ w h4 e1 hx2 hy2
    simp only [Op.eqFields]
    rw [if_pos h1]
    rw [h2]
    simp only [run_bind, hx1, hy1, hr, Q9s]
    cases p with
    | false => simp
    | true =>
     simp only [Bool.not_true, Bool.false_eq_true, if_false, Bool.true_and]
     have ha2 := ha.2
     have hb2 := hb.2
     rw [List.drop_drop] at ha2 hb2
     rw [hsz] at hb2
     exact Q5P hg hag fs (off + a1.size) a2 b2 q cs ds w h5 e2 ha2 hb2 (by simp only [AVal.size]; omega) (by simp only [AVal.size] at hsz ⊢; omega)
theorem Q6A {P : Program} {m : Mem} {μ : LMap} : ∀ (n d : Nat) (T : TypeId) (a b : AVal) (r : Bool) (x y : Value) (w : World), n + 1 ≤ d → eqTy P n T a = true → eqA a b = some r → VRel m μ a x → VRel m μ b y →
  (Op.equalIn d T x y).run P w = .ok r w
 | 0, _, _, _, _, _, _, _, _, _, h, _, _, _ => by simp [eqTy] at h
 | n + 1, d, T, a, b, r, x, y, w, hd, h, he, hx, hy => by
  obtain ⟨d, rfl⟩ : ∃ e, d = e + 1 := ⟨d - 1, by omega⟩
  simp only [eqTy] at h
  split at h
  ·rename_i hu
   cases b <;> simp [eqA] at he
   have e1 := hx.one rfl rfl
   have e2 := hy.one rfl rfl
   cases e1; cases e2; subst he
   exact Go.run_equalIn_bool w d T _ _ hu
  ·rename_i k k' v hu
   cases b <;> simp [eqA] at he
   have e1 := hx.one rfl rfl
   have e2 := hy.one rfl rfl
   cases e1; cases e2
   obtain ⟨rfl, he⟩ := he
   subst he
   exact Go.run_equalIn_int w d T _ _ _ _ hu
  ·rename_i s hu
   cases b <;> simp [eqA] at he
   have e1 := hx.one rfl rfl
   have e2 := hy.one rfl rfl
   cases e1; cases e2; subst he
   exact Go.run_equalIn_string w d T _ _ hu
  ·rename_i a fs hu
   simp only [Bool.and_eq_true, Bool.not_eq_true'] at h
   obtain ⟨⟨h1, h2⟩, h3⟩ := h
   obtain ⟨s1, s2⟩ := Q9p he
   obtain ⟨cs, rfl, hc⟩ := hx.agg h1
   obtain ⟨ds, rfl, hc2⟩ := hy.agg (by rw [← s2]; exact h1)
   have hfo : P.fieldsOf T = fs := by unfold Program.fieldsOf; rw [hu]
   rw [Go.run_equalIn_struct w d T cs ds (by rw [hfo]; exact hu) h2, hfo]
   have l1 := hc.length
   have l2 := hc2.length
   exact Q5P (m := m) (μ := μ) (g := eqTy P n) (fun T a b r x y w h1 h2 h3 h4 => Q6A n d T a b r x y w (by omega) h1 h2 h3 h4) (fun T a h => Qak h) fs.toList 0 _ _ r cs ds w h3 he
    (by simpa using hc) (by simpa using hc2) (by simpa using l1.symm) (by simpa using l2.symm)
  ·rename_i len e n' k xs hu
   simp only [Bool.and_eq_true, beq_iff_eq] at h
   obtain ⟨⟨rfl, h2⟩, h3⟩ := h
   split at h2
   ·rename_i k' hk
    simp only [decide_eq_true_eq] at h2
    subst h2
    obtain ⟨k', xs', ys', e1, rfl, rfl⟩ := Q6V he
    cases e1
    obtain ⟨cs, rfl, hc⟩ := hx.agg rfl
    obtain ⟨ds, rfl, hc2⟩ := hy.agg rfl
    obtain ⟨d, rfl⟩ : ∃ e, d = e + 1 := ⟨d - 1, by omega⟩
    exact QbB d hu hk h3 hc hc2 w
   ·cases h2
  ·cases h
theorem Q46 {P : Program} {w : World} {op : BinOp} {T : TypeId} {xo yo : Operand} {v u : Value} (h1 : ¬ (v = .nilIface ∧ u = .nilIface)) (h2 : ∀ a b, ¬ (v = .agg a ∧ u = .agg b)) :
  (eqGuard op T xo yo v u).run P w = .ok () w := by
 unfold eqGuard
 generalize (!(op matches .eql | .neq)) = c
 cases c
 ·rw [if_neg (by simp)]
  split
  ·exact absurd ⟨rfl, rfl⟩ h1
  ·exact absurd ⟨rfl, rfl⟩ (h2 _ _)
  ·rfl
 ·rfl
theorem QcA {P : Program} (w : World) (d : Nat) (t e : TypeId) (a : Option Addr) (l c : Nat) (h : P.underlying t = some (.slice e)) : (Op.equalIn (d + 1) t (.slice a l c) (.slice none 0 0)).run P w = .ok a.isNone w := by
 cases a <;> simp [Op.equalIn, Qa h]
theorem QcH {P : Program} (w : World) (t e : TypeId) (a : Option Addr) (l c : Nat) (h : P.underlying t = some (.slice e)) : (Op.equal t (.slice a l c) (.slice none 0 0)).run P w = .ok a.isNone w := QcA w 9999 t e a l c h
theorem Q9j {P : Program} (w : World) (t e : TypeId) (a : Option Addr) (l c : Nat) (h : P.underlying t = some (.slice e)) : (binOp .eql t (.slice a l c) (.slice none 0 0)).run P w = .ok (.bool a.isNone) w := by
 simp [binOp, QcH w t e a l c h]
theorem Q9f {P : Program} (w : World) (t e : TypeId) (a : Option Addr) (l c : Nat) (h : P.underlying t = some (.slice e)) : (binOp .neq t (.slice a l c) (.slice none 0 0)).run P w = .ok (.bool (!a.isNone)) w := by
 simp [binOp, QcH w t e a l c h]
theorem Q8B {P : Program} {m : Mem} {μ : LMap} {w : World} {op : BinOp} {T : TypeId} {x y : AVal} {xo yo : Operand} {v u : Value} {r : Bool × AVal} (hx : VRel m μ x v) (hy : VRel m μ y u) (h : binA P op T x y = some r) (hvc : r.1 = true) :
  ∃ z, (do eqGuard op T xo yo v u; binOp op T v u : Sem Value).run P w = .ok z w ∧ VRel m μ r.2 z := by
 unfold binA at h
 split at h
 ·rename_i k a k' b
  have e1 := hx.one rfl rfl
  have e2 := hy.one rfl rfl
  cases e1; cases e2
  simp only [run_bind, Q46 (v := .int k a) (u := .int k' b) (fun h => by cases h.1) (fun _ _ h => by cases h.1)]
  split at h
  ·cases h
   simp only [decide_eq_true_eq] at hvc
   refine ⟨.int k (Q4p k a b), ?_, rfl⟩
   simp only [binOp, Op.shift]
   rw [if_neg (by omega)]; rfl
  ·cases h
   simp only [decide_eq_true_eq] at hvc
   refine ⟨.int k (Q2H k a b), ?_, rfl⟩
   simp only [binOp, Op.shift]
   rw [if_neg (by omega)]; rfl
  ·split at h
   ·rename_i n1 n2 hk
    subst hk
    obtain ⟨z, hz1, hz2⟩ := QaG (P := P) w h hvc
    refine ⟨z, ?_, hz2 m μ⟩
    rw [← hz1]
    cases op <;> first | exact absurd rfl n1 | exact absurd rfl n2 | simp [binOp]
   ·cases h
 ·rename_i a b
  have e1 := hx.one rfl rfl
  have e2 := hy.one rfl rfl
  cases e1; cases e2
  simp only [run_bind, Q46 (v := .string a) (u := .string b) (fun h => by cases h.1) (fun _ _ h => by cases h.1)]
  obtain ⟨z, hz1, hz2⟩ := QaH (P := P) w h hvc
  refine ⟨z, ?_, hz2 m μ⟩
  rw [← hz1]
  cases op <;> first | rfl | (simp [binS] at h; done)
 ·rename_i a b
  have e1 := hx.one rfl rfl
  have e2 := hy.one rfl rfl
  cases e1; cases e2
  simp only [run_bind, Q46 (v := .bool a) (u := .bool b) (fun h => by cases h.1) (fun _ _ h => by cases h.1)]
  split at h
  ·rename_i hu
   cases h
   exact ⟨.bool (a == b), by simp only [binOp, run_bind, Go.run_equal_bool w T a b hu]; rfl, rfl⟩
  ·rename_i hu
   cases h
   exact ⟨.bool (!(a == b)), by simp only [binOp, run_bind, Go.run_equal_bool w T a b hu]; rfl, rfl⟩
  ·cases h
 ·have e1 := hx.one rfl rfl
  have e2 := hy.one rfl rfl
  cases e1; cases e2
  simp only [run_bind, Q46 (v := .pointer none) (u := .pointer none) (fun h => by cases h.1) (fun _ _ h => by cases h.1)]
  split at h
  ·rename_i e hu
   cases h
   exact ⟨.bool true, by simp only [binOp, run_bind, Go.run_equal_pointer_nil w T none (by unfold Program.pointee; rw [hu])]; rfl, rfl⟩
  ·rename_i e hu
   cases h
   exact ⟨.bool false, by simp only [binOp, run_bind, Go.run_equal_pointer_nil w T none (by unfold Program.pointee; rw [hu])]; rfl, rfl⟩
  ·cases h
 ·have e1 := hx.one rfl rfl
  have e2 := hy.one rfl rfl
  cases e1; cases e2
  simp only [run_bind, Q46 (v := .slice none 0 0) (u := .slice none 0 0) (fun h => by cases h.1) (fun _ _ h => by cases h.1)]
  split at h
  ·rename_i e hu
   cases h
   exact ⟨.bool true, by rw [Q9j w T e none _ _ hu]; rfl, rfl⟩
  ·rename_i e hu
   cases h
   exact ⟨.bool false, by rw [Q9f w T e none _ _ hu]; rfl, rfl⟩
  ·cases h
 ·rename_i t xs
  obtain ⟨ad, c, e1, _, hc⟩ := hx.one rfl rfl
  have e2 := hy.one rfl rfl
  cases e1; cases e2
  have key : Nat.ble 1 xs.length = true → ad.isNone = false := by
   intro hne
   obtain ⟨a', _, h1, _⟩ := hc 0 (Nat.le_of_ble_eq_true hne)
   rw [h1]; rfl
  simp only [run_bind, Q46 (v := .slice ad xs.length c) (u := .slice none 0 0) (fun h => by cases h.1) (fun _ _ h => by cases h.1)]
  split at h
  ·rename_i e hu
   cases h
   exact ⟨.bool false, by rw [Q9j w T e ad _ c hu, key hvc], rfl⟩
  ·rename_i e hu
   cases h
   exact ⟨.bool true, by rw [Q9f w T e ad _ c hu, key hvc]; rfl, rfl⟩
  ·cases h
 ·obtain ⟨l, o, s, _, _, e1⟩ := hx.one rfl rfl
  have e2 := hy.one rfl rfl
  cases e1; cases e2
  simp only [run_bind, Q46 (v := .pointer (some ⟨l.b, l.off + o, none⟩)) (u := .pointer none) (fun h => by cases h.1) (fun _ _ h => by cases h.1)]
  split at h
  ·rename_i e hu
   cases h
   exact ⟨.bool false, by simp only [binOp, run_bind, Go.run_equal_pointer_nil w T _ (by unfold Program.pointee; rw [hu])]; rfl, rfl⟩
  ·rename_i e hu
   cases h
   exact ⟨.bool true, by simp only [binOp, run_bind, Go.run_equal_pointer_nil w T _ (by unfold Program.pointee; rw [hu])]; rfl, rfl⟩
  ·cases h
 ·obtain ⟨ad, c, e1, _⟩ := hx.one rfl rfl
  have e2 := hy.one rfl rfl
  cases e1; cases e2
  simp only [run_bind, Q46 (v := .pointer (some ad)) (u := .pointer none) (fun h => by cases h.1) (fun _ _ h => by cases h.1)]
  split at h
  ·rename_i e hu
   cases h
   exact ⟨.bool false, by simp only [binOp, run_bind, Go.run_equal_pointer_nil w T _ (by unfold Program.pointee; rw [hu])]; rfl, rfl⟩
  ·rename_i e hu
   cases h
   exact ⟨.bool true, by simp only [binOp, run_bind, Go.run_equal_pointer_nil w T _ (by unfold Program.pointee; rw [hu])]; rfl, rfl⟩
  ·cases h
 ·split at h
  ·rename_i hok
   simp only [Bool.and_eq_true, Bool.not_eq_true', decide_eq_true_eq] at hok
   obtain ⟨⟨⟨⟨⟨⟨h1, h2⟩, h3⟩, h4⟩, h5⟩, h6⟩, h7⟩ := hok
   obtain ⟨cs, rfl, hc⟩ := hx.agg h1
   obtain ⟨ds, rfl, hc2⟩ := hy.agg h2
   simp only [run_bind, Go.run_eqGuard_agg w op T xo yo cs ds h6]
   have key : ∀ r, eqA x y = some r → (Op.equalIn 10000 T (.agg cs) (.agg ds)).run P w = .ok r w := fun r hr =>
    Q6A 40 10000 T x y r _ _ w (by omega) h7 hr hx hy
   split at h
   ·cases he : eqA x y with
    | none => rw [he] at h; cases h
    | some q =>
     rw [he] at h; cases h
     refine ⟨.bool q, ?_, rfl⟩
     rw [Go.run_eql_struct, key q he]; rfl
   ·cases he : eqA x y with
    | none => rw [he] at h; cases h
    | some q =>
     rw [he] at h; cases h
     refine ⟨.bool (!q), ?_, rfl⟩
     rw [Go.run_neq_struct, key q he]; rfl
   ·cases h
  ·cases h
end Go.Am
namespace Go.Am
open Go
def Q4g (m : Mem) (μ : LMap) : Option AVal → Option Value → Prop
 | none, none => True
 | some a, some v => VRel m μ a v
 | _, _ => False
theorem Q1r {P : Program} {k : IntKind} {i : Int} {y : Nat} (code : BoundsCode) (w : World) (h : 0 ≤ i ∧ i ≤ y) : (Instr.sliceBound (.int k i) y code).run P w = .ok i.toNat w := by
 simp only [Instr.sliceBound, run_bind, asIntOf, QP]
 rw [if_pos h]; rfl
theorem Q4u {m : Mem} {μ : LMap} {o : Option AVal} {ov : Option Value} {d n : Int} (h : Q4g m μ o ov) (b : Q25 o d = some n) : (ov = none ∧ n = d) ∨ ∃ k, ov = some (.int k n) := by
 cases o with
 | none =>
  cases ov with
  | some _ => exact h.elim
  | none => simp only [Q25, Option.some.injEq] at b; exact .inl ⟨rfl, b.symm⟩
 | some a =>
  cases ov with
  | none => exact h.elim
  | some v =>
   cases a <;> simp only [Q25] at b <;> try (cases b; done)
   cases b
   rename_i k
   have hv : VRel m μ (.int k n) v := h
   have e := hv.one rfl rfl
   cases e
   exact .inr ⟨_, rfl⟩
theorem Q1t {P : Program} {m : Mem} {μ : LMap} {lo hi : Option AVal} {lv hv : Option Value} {l h : Int} {len cap : Nat} (isS : Bool) (w : World) (hlo : Q4g m μ lo lv) (hhi : Q4g m μ hi hv)
  (bl : Q25 lo 0 = some l) (bh : Q25 hi len = some h) (hb : 0 ≤ l ∧ l ≤ h ∧ h ≤ cap) :
  (Instr.sliceBounds isS len cap lv hv none).run P w = .ok (l.toNat, h.toNat, cap) w := by
 rcases Q4u hlo bl with ⟨rfl, rfl⟩ | ⟨k, rfl⟩ <;> rcases Q4u hhi bh with ⟨rfl, rfl⟩ | ⟨k', rfl⟩
 ·rfl
 ·simp only [Instr.sliceBounds, run_bind, QP, Q1r _ w (show 0 ≤ h ∧ h ≤ (cap : Int) from by omega)]; rfl
 ·simp only [Instr.sliceBounds, run_bind, QP, Q1r _ w (show 0 ≤ l ∧ l ≤ (len : Int) from by omega)]; rfl
 ·simp only [Instr.sliceBounds, run_bind, QP, Q1r _ w (show 0 ≤ h ∧ h ≤ (cap : Int) from by omega), Q1r _ w (show 0 ≤ l ∧ l ≤ (h.toNat : Int) from by omega)]
theorem Qb1 {m : Mem} {t : Ty} {xs : List t.den} {a : Option Addr} {cap len' : Nat} (l h : Nat) (hl : l ≤ h) (hh : h ≤ xs.length)
  (hd : ∀ i, i < xs.length → ∃ ad c, a = some ad ∧ ad.spot = none ∧ m.cells ad.block (ad.off + i * t.size) t.size = some c ∧ DRel m t (xs.getD i t.zero) c) (hc : xs.length ≤ cap) (hlen : len' = h - l) (cap' : Nat) (hcap : cap' = cap - l) :
  DRel m (.sl t) ((xs.take h).drop l) [.slice (if cap = l then a else a.map (·.add (l * t.size))) len' cap'] := by
 subst hlen; subst hcap
 refine ⟨if cap = l then a else a.map (·.add (l * t.size)), cap - l, by simp [Nat.min_eq_left hh], by simp [Nat.min_eq_left hh]; omega, fun i hi => ?_⟩
 simp only [List.length_drop, List.length_take, Nat.min_eq_left hh] at hi
 obtain ⟨ad, c, rfl, hsp, hm, hdi⟩ := hd (l + i) (by omega)
 rw [if_neg (by omega)]
 have ha : ad = ⟨ad.block, ad.off, none⟩ := by cases ad; simp_all
 refine ⟨⟨ad.block, ad.off + l * t.size, none⟩, c, ?_, rfl, ?_, ?_⟩
 ·simp only [Option.map_some, Option.some.injEq]
  rw [ha, Q2h]
 ·show m.cells ad.block (ad.off + l * t.size + i * t.size) t.size = some c
  rw [← hm, Nat.add_mul, Nat.add_assoc]
 ·have e : ((xs.take h).drop l).getD i t.zero = xs.getD (l + i) t.zero := by
   simp only [List.getD_eq_getElem?_getD, List.getElem?_drop, List.getElem?_take]
   rw [if_pos (by omega)]
  rw [e]; exact hdi
theorem QaY {m : Mem} {μ : LMap} {id : Nat} {p : List Nat} {l : Loc} {o n : Nat} {t : Ty} {a : Option Addr} {off len cap lo hi : Nat} (hl : μ id = some l) (ho : l.sh.offP p = some (o, .arr n t)) (hle : off + len ≤ n) (hlc : len ≤ cap)
  (ha : (a = some ⟨l.b, l.off + o + off * t.size, none⟩ ∧ (p = [] → l.off + (off + cap) * t.size ≤ l.tot)) ∨ cap = 0) (h1 : lo ≤ hi) (h2 : hi ≤ len) :
  CRel m μ (.sl id p (off + lo) (hi - lo)) [.slice (if cap = lo then a else a.map (·.add (lo * t.size))) (hi - lo) (cap - lo)] := by
 refine ⟨l, o, n, t, _, cap - lo, hl, ho, by omega, by omega, rfl, ?_⟩
 by_cases hc : cap = lo
 ·exact .inr (by omega)
 ·rw [if_neg hc]
  rcases ha with ⟨rfl, hp⟩ | h0
  ·refine .inl ⟨?_, fun e => ?_⟩
   ·simp only [Option.map_some, Q2h, Nat.add_mul, Nat.add_assoc]
   ·have := hp e
    rw [show off + lo + (cap - lo) = off + cap from by omega]; exact this
  ·omega
theorem Q9x {P : Program} {m : Mem} {μ : LMap} {H : Heap} {w : World} {T : TypeId} {x : AVal} {lo hi : Option AVal} {v : Value} {lv hv : Option Value} {r : Res} (rh : RH m μ H w) (hx : VRel m μ x v) (hlo : Q4g m μ lo lv) (hhi : Q4g m μ hi hv)
    (h : Q85 P H T x lo hi false = some r) (hvc : r.vc = true) : r.H = H ∧ ∃ u, (Instr.sliceAt T v lv hv none).run P w = .ok u w ∧ VRel m μ r.v u := by
  unfold Q85 at h
  rw [if_neg (by simp)] at h
  cases x <;> simp only at h <;> try (cases h; done)
  · rename_i s
    split at h
    · rename_i l hh hu bl bh
      cases h
      simp only [decide_eq_true_eq] at hvc
      have := hx.one rfl rfl
      cases this
      refine ⟨rfl, .string (s.extract l.toNat hh.toNat), ?_, rfl⟩
      simp only [Instr.sliceAt, run_bind, Qa hu, Instr.slice, Option.isSome_none, Bool.false_eq_true, if_false, QP]
      rw [Q1t (m := m) (μ := μ) (l := l) (h := hh) false w hlo hhi bl bh (by omega)]
    · cases h
  · rename_i id p
    split at h
    · rename_i n t xs hc
      split at h
      · rename_i n' e hu
        split at h
        · rename_i l hh bl bh
          split at h
          · rename_i hok
            cases h
            simp only [Bool.and_eq_true, beq_iff_eq] at hok
            obtain ⟨rfl, hsz⟩ := hok
            simp only [decide_eq_true_eq] at hvc
            obtain ⟨lc, o, s, hl, ho, he⟩ := hx.one rfl rfl
            cases he
            have hs := Q3T rh hc hl ho
            subst hs
            obtain ⟨c, hi', hg⟩ := Q44 hc
            have hcap : p = [] → lc.off + (0 + n') * t.size ≤ lc.tot := by
              intro e; subst e
              simp only [Sh.offP, Option.some.injEq, Prod.mk.injEq] at ho
              obtain ⟨_, hb⟩ := rh.blk _ _ hi'
              have hll := Option.some.inj (hb.loc.symm.trans hl)
              subst hll
              have hsh := hb.sh
              rw [ho.2] at hsh
              have hz : c.sh.size = n' * t.size := by rw [← hsh]; rfl
              rcases hb.cells with ⟨p1, p2, p3, _⟩ | ⟨_, _, _, _, _, _, _, _, g4, _⟩
              · rw [p1, p2, Nat.zero_add, Nat.zero_add, ← hz, p3]; omega
              · rw [Nat.zero_add, ← hz]; exact g4
            refine ⟨rfl, .slice (some (if n' = l.toNat then ⟨lc.b, lc.off + o, none⟩ else (⟨lc.b, lc.off + o, none⟩ : Addr).add (l.toNat * t.size))) (hh.toNat - l.toNat) (n' - l.toNat), ?_, ?_⟩
            · simp only [Instr.sliceAt, run_bind, Qa hu, Instr.sureAddr, QP]
              rw [Q1t (m := m) (μ := μ) (l := l) (h := hh) false w hlo hhi bl bh (by omega)]
              simp only [run_bind, Q0N hsz, QP]
            · have := QaY (m := m) (lo := l.toNat) (hi := hh.toNat) (off := 0) (len := n') (cap := n') (a := some ⟨lc.b, lc.off + o, none⟩) hl ho (by omega) (by omega) (.inl ⟨by simp, hcap⟩) (by omega) (by omega)
              rw [Nat.zero_add] at this
              have e1 : (hh - l).toNat = hh.toNat - l.toNat := by omega
              rw [e1]
              show CRel m μ _ _
              by_cases hq : n' = l.toNat
              · rw [if_pos hq] at this ⊢; exact this
              · rw [if_neg hq] at this ⊢; exact this
          · cases h
        · cases h
      · cases h
    · cases h
  · -- nils
    split at h
    · rename_i e l hh hu bl bh
      split at h
      · rename_i hs
        cases h
        simp only [decide_eq_true_eq] at hvc
        obtain ⟨rfl, rfl⟩ := hvc
        have := hx.one rfl rfl
        cases this
        obtain ⟨n, hn⟩ := Option.isSome_iff_exists.1 hs
        refine ⟨rfl, .slice none 0 0, ?_, rfl⟩
        simp only [Instr.sliceAt, run_bind, Qa hu, Instr.slice]
        rw [Q1t (m := m) (μ := μ) (l := 0) (h := 0) true w hlo hhi bl bh (by omega)]
        simp only [Q0N hn]
        rfl
      · cases h
    · cases h
  · rename_i id p off len
    split at h
    · rename_i e l hh t hu bl bh hc
      split at h
      · rename_i hok
        cases h
        simp only [beq_iff_eq] at hok
        simp only [decide_eq_true_eq] at hvc
        obtain ⟨y, N, hy, hsh⟩ := Q88 hc
        obtain ⟨lc, o, n, t', a, cap, hl, ho, hle, hlc, he, ha⟩ := hx.one rfl rfl
        cases he
        have hs := Q3T rh hy hl ho
        rw [hsh] at hs
        cases hs
        have e1 : (hh - l).toNat = hh.toNat - l.toNat := by omega
        have z := QaY (m := m) (lo := l.toNat) (hi := hh.toNat) hl ho hle hlc ha (by omega) (by omega)
        refine ⟨rfl, _, ?_, by rw [e1]; exact z⟩
        simp only [Instr.sliceAt, run_bind, Qa hu, Instr.slice]
        rw [Q1t (m := m) (μ := μ) (l := l) (h := hh) true w hlo hhi bl bh (by omega)]
        simp only [run_bind, Q0N hok, QP]
      · cases h
    · cases h
  · rename_i t xs
    split at h
    · rename_i e l hh hu bl bh
      split at h
      · rename_i hok
        cases h
        simp only [beq_iff_eq] at hok
        simp only [decide_eq_true_eq] at hvc
        obtain ⟨a, cap, he, hcap, hd⟩ := hx.one rfl rfl
        cases he
        refine ⟨rfl, .slice (if cap = l.toNat then a else a.map (·.add (l.toNat * t.size))) (hh.toNat - l.toNat) (cap - l.toNat), ?_, ?_⟩
        · simp only [Instr.sliceAt, run_bind, Qa hu, Instr.slice]
          rw [Q1t (m := m) (μ := μ) (l := l) (h := hh) true w hlo hhi bl bh (by omega)]
          simp only [run_bind, Q0N hok, QP]
        · exact Qb1 l.toNat hh.toNat (by omega) (by omega) hd hcap rfl _ rfl
      · cases h
    · cases h
  · rename_i t x
    cases t <;> simp only at h <;> try (cases h; done)
    rename_i n t
    split at h
    · rename_i n' e hu
      split at h
      · rename_i l hh bl bh
        split at h
        · rename_i hok
          cases h
          simp only [Bool.and_eq_true, beq_iff_eq] at hok
          obtain ⟨rfl, hsz⟩ := hok
          simp only [decide_eq_true_eq] at hvc
          obtain ⟨ad, c, he, hsp, hm, hd⟩ := hx.one rfl rfl
          cases he
          simp only [DRel] at hd
          obtain ⟨d1, d2, d3⟩ := hd
          obtain ⟨cs, hmb, hle, hcc⟩ := Q2v hm
          have hrow : ∀ i, i < (x : List t.den).length → ∃ ad' c', some ad = some ad' ∧ ad'.spot = none ∧ m.cells ad'.block (ad'.off + i * t.size) t.size = some c' ∧ DRel m t ((x : List t.den).getD i t.zero) c' := by
            intro i hi'
            rw [d1] at hi'
            have hmul : (i + 1) * t.size ≤ n' * t.size := Nat.mul_le_mul_right _ hi'
            rw [Nat.add_mul] at hmul
            simp only [Ty.size] at hle hcc
            refine ⟨ad, _, rfl, hsp, ?_, d3 i hi'⟩
            subst hcc
            simp only [Mem.cells, hmb]
            rw [if_pos (by omega), Q0Z _ _ _ _ _ (by omega)]
          refine ⟨rfl, .slice (some (if n' = l.toNat then ad else ad.add (l.toNat * t.size))) (hh.toNat - l.toNat) (n' - l.toNat), ?_, ?_⟩
          · simp only [Instr.sliceAt, run_bind, Qa hu, Instr.sureAddr, QP]
            rw [Q1t (m := m) (μ := μ) (l := l) (h := hh) false w hlo hhi bl bh (by omega)]
            simp only [run_bind, Q0N hsz, QP]
          · have := Qb1 (m := m) (a := some ad) (cap := n') (len' := hh.toNat - l.toNat) l.toNat hh.toNat (by omega) (by rw [d1]; omega) hrow (by omega) rfl (n' - l.toNat) rfl
            show DRel m (.sl t) _ _
            by_cases hq : n' = l.toNat
            · rw [if_pos hq] at this ⊢; exact this
            · rw [if_neg hq] at this ⊢; exact this
        · cases h
      · cases h
    · cases h
  · rename_i id
    split at h
    · rename_i t xs hc
      split at h
      · rename_i e l hh hu bl bh
        split at h
        · rename_i hok
          cases h
          simp only [beq_iff_eq] at hok
          simp only [decide_eq_true_eq] at hvc
          obtain ⟨lc, a, cap, hl, hs, hcap, rfl, ha⟩ := Q30 rh hc hx
          refine ⟨rfl, .slice (if cap = l.toNat then a else a.map (·.add (l.toNat * t.size))) (hh.toNat - l.toNat) (cap - l.toNat), ?_, ?_⟩
          · simp only [Instr.sliceAt, run_bind, Qa hu, Instr.slice]
            rw [Q1t (m := m) (μ := μ) (l := l) (h := hh) true w hlo hhi bl bh (by omega)]
            simp only [run_bind, Q0N hok, QP]
          · have := QaY (m := m) (p := []) (lo := l.toNat) (hi := hh.toNat) (off := 0) (len := xs.length) (cap := cap) (a := a) (n := xs.length) (t := t) (o := 0) hl (by simp only [Sh.offP, hs]) (by omega) hcap
              (by rcases ha with ⟨rfl, h2⟩ | h2
                  · exact .inl ⟨by simp, fun _ => by rw [Nat.zero_add]; exact h2⟩
                  · exact .inr h2) (by omega) (by omega)
            rw [Nat.zero_add] at this
            have e1 : (hh - l).toNat = hh.toNat - l.toNat := by omega
            rw [e1]; exact this
        · cases h
      · cases h
    · cases h
theorem QaX {P : Program} {m : Mem} {μ : LMap} {H : Heap} {w : World} {op : BinOp} {T : TypeId} {x y : AVal} {xo yo : Operand} {v u : Value} {r : Res} (rh : RH m μ H w) (hx : VRel m μ x v) (hy : VRel m μ y u) (h : Q9U P H op T x y = some r) (hvc : r.vc = true) :
  r.H = H ∧ ∃ z, (do eqGuard op T xo yo v u; binOp op T v u : Sem Value).run P w = .ok z w ∧ VRel m μ r.v z := by
 unfold Q9U at h
 split at h
 ·rename_i id
  split at h
  ·rename_i t xs hc
   obtain ⟨lc, a, cap, hl, hs, hcap, rfl, ha⟩ := Q30 rh hc hx
   have e2 := hy.one rfl rfl
   cases e2
   have key : Nat.ble 1 xs.length = true → a.isNone = false := by
    intro hne
    have := Nat.le_of_ble_eq_true hne
    rcases ha with ⟨rfl, _⟩ | h0
    ·rfl
    ·omega
   simp only [run_bind, Q46 (v := .slice a xs.length cap) (u := .slice none 0 0) (fun h => by cases h.1) (fun _ _ h => by cases h.1)]
   split at h
   ·rename_i e hu
    cases h
    exact ⟨rfl, .bool false, by rw [Q9j w T e a _ cap hu, key hvc], rfl⟩
   ·rename_i e hu
    cases h
    exact ⟨rfl, .bool true, by rw [Q9f w T e a _ cap hu, key hvc]; rfl, rfl⟩
   ·cases h
  ·cases h
 ·obtain ⟨q, hb, hr⟩ := Option.bind_eq_some_iff.1 h
  cases hr
  exact ⟨rfl, Q8B (P := P) (w := w) (xo := xo) (yo := yo) hx hy hb hvc⟩
theorem Q2K {P : Program} {m : Mem} {μ : LMap} {lo : Option AVal} {lv : Option Value} {kh km : IntKind} {l h mm : Int} {len cap : Nat} (isS : Bool) (w : World) (hlo : Q4g m μ lo lv)
  (bl : Q25 lo 0 = some l) (hb : 0 ≤ l ∧ l ≤ h ∧ h ≤ mm ∧ mm ≤ cap) :
  (Instr.sliceBounds isS len cap lv (some (.int kh h)) (some (.int km mm))).run P w = .ok (l.toNat, h.toNat, mm.toNat) w := by
 rcases Q4u hlo bl with ⟨rfl, rfl⟩ | ⟨k, rfl⟩
 ·simp only [Instr.sliceBounds, run_bind, QP, Q1r _ w (show 0 ≤ mm ∧ mm ≤ (cap : Int) from by omega), Q1r _ w (show 0 ≤ h ∧ h ≤ (mm.toNat : Int) from by omega)]; rfl
 ·simp only [Instr.sliceBounds, run_bind, QP, Q1r _ w (show 0 ≤ mm ∧ mm ≤ (cap : Int) from by omega), Q1r _ w (show 0 ≤ h ∧ h ≤ (mm.toNat : Int) from by omega), Q1r _ w (show 0 ≤ l ∧ l ≤ (h.toNat : Int) from by omega)]
theorem Q9i {P : Program} {m : Mem} {μ : LMap} {H : Heap} {w : World} {T : TypeId} {x : AVal} {lo hi : Option AVal} {mx : AVal} {v : Value} {lv hv : Option Value} {mv : Value} {r : Res} (rh : RH m μ H w) (hx : VRel m μ x v) (hlo : Q4g m μ lo lv) (hhi : Q4g m μ hi hv) (hmx : VRel m μ mx mv)
  (h : Q67 P H T x lo hi mx = some r) (hvc : r.vc = true) : r.H = H ∧ ∃ u, (Instr.sliceAt T v lv hv (some mv)).run P w = .ok u w ∧ VRel m μ r.v u := by
 unfold Q67 at h
 split at h
 case h_2 => cases h
 rename_i k hh k' mm
 have em := hmx.one rfl rfl
 cases em
 obtain ⟨hv, rfl⟩ : ∃ q, hv = some q := by
  cases hv with
  | none => exact hhi.elim
  | some q => exact ⟨q, rfl⟩
 have hhi' : VRel m μ (.int k hh) hv := hhi
 have eh := hhi'.one rfl rfl
 cases eh
 split at h
 ·rename_i t xs
  split at h
  ·rename_i e l hu bl
   split at h
   ·rename_i hok
    cases h
    simp only [beq_iff_eq] at hok
    simp only [decide_eq_true_eq] at hvc
    obtain ⟨a, cap, he, hcap, hd⟩ := hx.one rfl rfl
    cases he
    have hb : 0 ≤ l ∧ l ≤ hh ∧ hh ≤ mm ∧ mm ≤ (cap : Int) := by omega
    refine ⟨rfl, .slice (if mm.toNat = l.toNat then a else a.map (·.add (l.toNat * t.size))) (hh.toNat - l.toNat) (mm.toNat - l.toNat), ?_, ?_⟩
    ·simp only [Instr.sliceAt, run_bind, Qa hu, Instr.slice]
     rw [Q2K (m := m) (μ := μ) true w hlo bl hb]
     simp only [run_bind, Q0N hok, QP]
    ·by_cases hq : mm.toNat = l.toNat
     ·have z : DRel m (.sl t) ((xs.take hh.toNat).drop l.toNat) [.slice a (hh.toNat - l.toNat) (mm.toNat - l.toNat)] := by
       have e0 : (xs.take hh.toNat).drop l.toNat = [] := by
        apply List.eq_nil_of_length_eq_zero
        simp only [List.length_drop, List.length_take]; omega
       rw [e0]
       exact ⟨a, mm.toNat - l.toNat, by rw [show hh.toNat - l.toNat = 0 from by omega]; rfl, Nat.zero_le _, fun i hi => absurd hi (Nat.not_lt_zero i)⟩
      rw [if_pos hq]; exact z
     ·rw [if_neg hq]
      have hrow : ∀ i, i < (xs.take mm.toNat).length → ∃ ad c, a = some ad ∧ ad.spot = none ∧ m.cells ad.block (ad.off + i * t.size) t.size = some c ∧ DRel m t ((xs.take mm.toNat).getD i t.zero) c := by
       intro i hi'
       simp only [List.length_take] at hi'
       obtain ⟨ad, c, g1, g2, g3, g4⟩ := hd i (by omega)
       refine ⟨ad, c, g1, g2, g3, ?_⟩
       have e : (xs.take mm.toNat).getD i t.zero = xs.getD i t.zero := by
        simp only [List.getD_eq_getElem?_getD, List.getElem?_take]
        rw [if_pos (by omega)]
       rw [e]; exact g4
      have z := Qb1 (m := m) (a := a) (cap := mm.toNat) (len' := hh.toNat - l.toNat) (xs := xs.take mm.toNat) l.toNat hh.toNat (by omega) (by simp only [List.length_take]; omega) hrow (by simp only [List.length_take]; omega) rfl _ rfl
      rw [if_neg hq, List.take_take] at z
      rw [show min hh.toNat mm.toNat = hh.toNat from by omega] at z
      exact z
   ·cases h
  ·cases h
 ·rename_i id
  split at h
  ·rename_i t xs hc
   split at h
   ·rename_i e l hu bl
    split at h
    ·rename_i hok
     cases h
     simp only [beq_iff_eq] at hok
     simp only [decide_eq_true_eq] at hvc
     obtain ⟨lc, a, cap, hl, hs, hcap, rfl, ha⟩ := Q30 rh hc hx
     have hb : 0 ≤ l ∧ l ≤ hh ∧ hh ≤ mm ∧ mm ≤ (cap : Int) := by omega
     refine ⟨rfl, .slice (if mm.toNat = l.toNat then a else a.map (·.add (l.toNat * t.size))) (hh.toNat - l.toNat) (mm.toNat - l.toNat), ?_, ?_⟩
     ·simp only [Instr.sliceAt, run_bind, Qa hu, Instr.slice]
      rw [Q2K (m := m) (μ := μ) true w hlo bl hb]
      simp only [run_bind, Q0N hok, QP]
     ·have e1 : (hh - l).toNat = hh.toNat - l.toNat := by omega
      rw [e1]
      refine (⟨lc, 0, xs.length, t, _, mm.toNat - l.toNat, hl, by simp only [Sh.offP, hs], by omega, by omega, rfl, ?_⟩ : CRel m μ (.sl id [] l.toNat (hh.toNat - l.toNat)) _)
      by_cases hq : mm.toNat = l.toNat
      ·exact .inr (by omega)
      ·rw [if_neg hq]
       rcases ha with ⟨rfl, h2⟩ | h2
       ·refine .inl ⟨by simp only [Option.map_some, Q2h, Nat.add_zero], fun _ => ?_⟩
        have : (l.toNat + (mm.toNat - l.toNat)) * t.size ≤ cap * t.size := Nat.mul_le_mul_right _ (by omega)
        omega
       ·omega
    ·cases h
   ·cases h
  ·cases h
 ·split at h
  ·rename_i e l hu bl
   split at h
   ·rename_i hs
    cases h
    simp only [decide_eq_true_eq] at hvc
    obtain ⟨rfl, rfl, rfl⟩ := hvc
    have := hx.one rfl rfl
    cases this
    obtain ⟨n, hn⟩ := Option.isSome_iff_exists.1 hs
    refine ⟨rfl, .slice none 0 0, ?_, rfl⟩
    simp only [Instr.sliceAt, run_bind, Qa hu, Instr.slice]
    rw [Q2K (m := m) (μ := μ) true w hlo bl (by omega)]
    simp only [Q0N hn]
    rfl
   ·cases h
  ·cases h
 ·cases h
end Go.Am
namespace Go.Am
open Go
theorem Q3A {m : Mem} {t : Ty} {xs : List t.den} {cs : List Value} {N off k : Nat} (h : DRel m (.arr N t) xs cs) (hle : off + k ≤ N) : DRel m (.arr k t) ((xs.drop off).take k) ((cs.drop (off * t.size)).take (k * t.size)) := by
 simp only [DRel] at h ⊢
 obtain ⟨d1, d2, d3⟩ := h
 have hmul : (off + k) * t.size ≤ N * t.size := Nat.mul_le_mul_right _ hle
 rw [Nat.add_mul] at hmul
 refine ⟨by simp [d1]; omega, by simp [d2]; omega, fun i hin => ?_⟩
 have e1 : ((xs.drop off).take k).getD i t.zero = xs.getD (off + i) t.zero := by
  simp only [List.getD_eq_getElem?_getD, List.getElem?_take, if_pos hin, List.getElem?_drop]
 rw [e1]
 have hm : (i + 1) * t.size ≤ k * t.size := Nat.mul_le_mul_right _ hin
 rw [Nat.add_mul] at hm
 rw [Q0Z _ _ _ _ _ (by omega), ← Nat.add_mul]
 exact d3 _ (by omega)
theorem Q5v {m : Mem} {μ : LMap} {H : Heap} {w : World} (rh : RH m μ H w) {id : Nat} {c x : AVal} {p : List Nat} {l : Loc} {o : Nat} {s : Sh} (hi : H[id]? = some (some c)) (hg : getP c p = some x)
  (hl : μ id = some l) (ho : l.sh.offP p = some (o, s)) : ∃ cs, CRel m μ x cs := by
 obtain ⟨l', hb⟩ := rh.blk id c hi
 have : l' = l := Option.some.inj (hb.loc.symm.trans hl)
 subst this
 rw [hb.sh] at ho
 have key : ∀ cs, CRel m μ c cs → ∃ cs, CRel m μ x cs := by
  intro cs hc
  obtain ⟨_, x', hx', _, hr⟩ := Q1E hc ho
  rw [hg] at hx'; cases hx'
  exact ⟨_, hr⟩
 rcases hb.cells with ⟨_, _, _, p4⟩ | ⟨_, _, _, _, _, _, _, _, _, g5⟩
 ·exact key _ p4
 ·exact key _ g5
theorem QaJ {P : Program} {w : World} (a : Addr) : (loadCells a 0).run P w = .ok #[] w := rfl
theorem Q58 {P : Program} {m : Mem} {μ : LMap} {H : Heap} {w : World} (rh : RH m μ H w) {id : Nat} {c y : AVal} {p : List Nat} {l : Loc} {o N off len cap k : Nat} {t : Ty} {xs : List t.den} {a : Option Addr} (hi : H[id]? = some (some c)) (hg : getP c p = some y)
  (hl : μ id = some l) (ho : l.sh.offP p = some (o, .arr N t)) (hy : ∀ cs, CRel m μ y cs → DRel m (.arr N t) xs cs) (hle : off + len ≤ N) (hlc : len ≤ cap) (ha : a = some ⟨l.b, l.off + o + off * t.size, none⟩ ∨ cap = 0) (hk : k ≤ len) :
  ∃ cells, (Builtin.firstCells t.size k (.slice a len cap)).run P w = .ok cells w ∧ DRel m (.arr k t) ((xs.drop off).take k) cells.toList := by
 obtain ⟨cs0, h0⟩ := Q5v rh hi hg hl ho
 rcases Nat.eq_zero_or_pos (k * t.size) with hz | hz
 ·have := Q3A (k := k) (hy _ h0) (by omega : off + k ≤ N)
  rw [hz] at this
  refine ⟨#[], ?_, by simpa using this⟩
  cases a with
  | none => rfl
  | some ad => simp only [Builtin.firstCells, hz]; rfl
 ·have hk0 : 0 < k := Nat.pos_of_ne_zero (fun e => by subst e; simp at hz)
  have ha' : a = some ⟨l.b, l.off + o + off * t.size, none⟩ := by
   rcases ha with h | h
   ·exact h
   ·omega
  subst ha'
  obtain ⟨hs, _, hle2, hpos⟩ := Q2j rh hi hg hl ho
  have hkN : k * t.size ≤ N * t.size := Nat.mul_le_mul_right _ (by omega)
  have hmul : (off + k) * t.size ≤ N * t.size := Nat.mul_le_mul_right _ (by omega)
  rw [Nat.add_mul] at hmul
  simp only [Sh.size] at hle2 hpos
  obtain ⟨_, _, cs, E, fz, g1, g2, _, g4, _, g6⟩ := hpos (by omega)
  have := Q3A (k := k) (hy _ g6) (by omega : off + k ≤ N)
  rw [Q0Z _ _ _ _ _ (by omega)] at this
  refine ⟨((cs.toList.drop (l.off + o + off * t.size)).take (k * t.size)).toArray, ?_, by simpa using this⟩
  simp only [Builtin.firstCells]
  exact Q2i g1 (by omega)
theorem Q7K {P : Program} {m : Mem} {μ : LMap} {H : Heap} {w : World} (rh : RH m μ H w) {x : AVal} {v : Value} {t : Ty} {xs : List t.den} {ids : List Nat} (hx : VRel m μ x v) (h : Q2U H x = some ⟨t, xs, ids⟩) :
  ∃ a cap, v = .slice a xs.length cap ∧ ∀ k, k ≤ xs.length → ∃ cells, (Builtin.firstCells t.size k v).run P w = .ok cells w ∧ DRel m (.arr k t) (xs.take k) cells.toList := by
 cases x <;> simp only [Q2U] at h <;> try (cases h; done)
 ·rename_i id p off len
  split at h
  ·rename_i c hi
   split at h
   ·rename_i N t' ys hg
    cases h
    obtain ⟨l, o, n, t', a, cap, hl, ho, hle, hlc, he, ha⟩ := hx.one rfl rfl
    cases he
    obtain ⟨hs, _⟩ := Q2j rh hi hg hl ho
    cases hs
    have hlen : ((ys.drop off).take len).length = len := by
     obtain ⟨cs0, h0⟩ := Q5v rh hi hg hl ho
     have : ys.length = N := h0.1
     simp; omega
    refine ⟨a, cap, by rw [hlen], fun k hk => ?_⟩
    rw [hlen] at hk
    obtain ⟨cells, h1, h2⟩ := Q58 (P := P) (k := k) rh hi hg hl ho (fun cs h => h) hle hlc (ha.imp (fun z => z.1) (fun z => z)) hk
    refine ⟨cells, h1, ?_⟩
    rw [List.take_take, Nat.min_eq_left hk]; exact h2
   ·rename_i t' ys hg
    cases h
    obtain ⟨l, o, n, t', a, cap, hl, ho, hle, hlc, he, ha⟩ := hx.one rfl rfl
    cases he
    obtain ⟨hs, _⟩ := Q2j rh hi hg hl ho
    cases hs
    have hlen : ((ys.drop off).take len).length = len := by simp; omega
    refine ⟨a, cap, by rw [hlen], fun k hk => ?_⟩
    rw [hlen] at hk
    obtain ⟨cells, h1, h2⟩ := Q58 (P := P) (k := k) rh hi hg hl ho (fun cs h => h) hle hlc (ha.imp (fun z => z.1) (fun z => z)) hk
    refine ⟨cells, h1, ?_⟩
    rw [List.take_take, Nat.min_eq_left hk]; exact h2
   ·cases h
  ·cases h
 ·rename_i t' ys
  cases h
  obtain ⟨a, cap, he, hcap, hd⟩ := hx.one rfl rfl
  cases he
  refine ⟨a, cap, rfl, fun k hk => ?_⟩
  rcases Nat.eq_zero_or_pos k with rfl | hk0
  ·refine ⟨#[], ?_, by simp [DRel]⟩
   cases a with
   | none => rfl
   | some ad => simp only [Builtin.firstCells, Nat.zero_mul]; rfl
  ·obtain ⟨ad, c0, rfl, hsp, hm0, _⟩ := hd 0 (by omega)
   obtain ⟨cs, hmb, _, _⟩ := Q2v hm0
   obtain ⟨E, fz, hb⟩ := rh.mem _ _ hmb
   have hadd : ad = ⟨ad.block, ad.off, none⟩ := by cases ad; simp_all
   have each : ∀ i, i < xs.length → ad.off + i * t.size + t.size ≤ cs.size ∧ DRel m t (xs.getD i t.zero) ((cs.toList.drop (ad.off + i * t.size)).take t.size) := by
    intro i hi
    obtain ⟨ad', c, e, _, hm, hdi⟩ := hd i hi
    cases e
    obtain ⟨cs', hmb', hle', hc'⟩ := Q2v hm
    rw [hmb] at hmb'
    cases hmb'
    subst hc'
    exact ⟨hle', hdi⟩
   have hlast := (each (k - 1) (by omega)).1
   have hkk : k * t.size = (k - 1) * t.size + t.size := by
    rw [← Nat.succ_mul]; congr 1; omega
   refine ⟨((cs.toList.drop ad.off).take (k * t.size)).toArray, ?_, ?_⟩
   ·rw [hadd]
    simp only [Builtin.firstCells]
    exact Q2i hb (by omega)
   ·simp only [DRel]
    refine ⟨by simp; omega, by simp; omega, fun i hi => ?_⟩
    have hmi : (i + 1) * t.size ≤ k * t.size := Nat.mul_le_mul_right _ hi
    rw [Nat.add_mul] at hmi
    rw [Q0Z _ _ _ _ _ (by omega)]
    have e1 : (xs.take k).getD i t.zero = xs.getD i t.zero := by
     simp only [List.getD_eq_getElem?_getD, List.getElem?_take, if_pos hi]
    rw [e1]
    exact (each i (by omega)).2
 ·rename_i id
  split at h
  ·rename_i t' ys hi
   cases h
   obtain ⟨l, a, cap, hl, hs, hcap, rfl, ha⟩ := Q30 rh hi hx
   refine ⟨a, cap, rfl, fun k hk => ?_⟩
   have ho : l.sh.offP [] = some (0, .arr xs.length t) := by simp only [Sh.offP, hs]
   have ha' : a = some ⟨l.b, l.off + 0 + 0 * t.size, none⟩ ∨ cap = 0 := by
    rcases ha with ⟨h, _⟩ | h
    ·exact .inl (by simpa using h)
    ·exact .inr h
   obtain ⟨cells, h1, h2⟩ := Q58 (P := P) (k := k) (off := 0) (xs := xs) (y := .vec t xs) rh hi rfl hl ho (fun cs h => h) (by omega) hcap ha' hk
   exact ⟨cells, h1, by simpa using h2⟩
  ·cases h
theorem QbW (m : Mem) (s : ByteArray) (k : Nat) (hk : k ≤ s.size) : DRel m (.arr k (.int .u8)) ((Q1x s).take k) ((s.extract 0 k).data.map fun b => Value.int .u8 b.toNat).toList := by
 have hlen : (Q1x s).length = s.size := by simp [Q1x]
 have hx : (s.extract 0 k).data.toList = s.data.toList.take k := by simp [ByteArray.data_extract]
 simp only [DRel, Ty.size, Nat.mul_one]
 refine ⟨by rw [List.length_take, hlen]; omega, by simp [hx]; omega, fun i hi => ?_⟩
 simp only [Array.toList_map, hx]
 have hd : i < s.data.toList.length := by simp; omega
 apply List.ext_getElem?
 intro j
 simp only [List.getElem?_take, List.getElem?_drop, List.getElem?_map]
 rcases Nat.eq_zero_or_pos j with rfl | hj
 ·simp only [Nat.add_zero, if_pos hi, Nat.lt_one_iff, if_true, List.getElem?_eq_getElem hd, Option.map_some]
  simp only [List.getElem?_cons_zero, Option.some.injEq, Value.int.injEq, true_and]
  simp only [Q1x, List.getD_eq_getElem?_getD, List.getElem?_take, if_pos hi, List.getElem?_map, List.getElem?_eq_getElem hd, Option.map_some, Option.getD_some]
 ·rw [if_neg (by omega)]
  simp; omega
theorem Q2r {P : Program} {m : Mem} {μ : LMap} {H : Heap} {w : World} (rh : RH m μ H w) {x : AVal} {v : Value} {t : Ty} {ys : List t.den} {ids : List Nat} (hx : VRel m μ x v) (h : Q2p H t x = some (ys, ids)) :
  (Builtin.lenOf v).run P w = .ok ys.length w ∧ ∀ k, k ≤ ys.length → ∃ cells, (Builtin.firstCells t.size k v).run P w = .ok cells w ∧ DRel m (.arr k t) (ys.take k) cells.toList := by
 have viaView : ∀ {q : Option ((t : Ty) × List t.den × List Nat)}, Q2U H x = q → (match q with | some ⟨t', xs, ids⟩ => if h : t' = t then some ((h ▸ xs : List t.den), ids) else none | none => none) = some (ys, ids) →
   (Builtin.lenOf v).run P w = .ok ys.length w ∧ ∀ k, k ≤ ys.length → ∃ cells, (Builtin.firstCells t.size k v).run P w = .ok cells w ∧ DRel m (.arr k t) (ys.take k) cells.toList := by
  intro q hq hh
  cases q with
  | none => cases hh
  | some z =>
   obtain ⟨t', xs, ids'⟩ := z
   simp only at hh
   split at hh
   ·rename_i ht
    subst ht
    cases hh
    obtain ⟨a, cap, rfl, hc⟩ := Q7K (P := P) rh hx hq
    exact ⟨rfl, hc⟩
   ·cases hh
 cases x <;> first | exact viaView rfl h | skip
 ·rename_i s
  simp only [Q2p] at h
  split at h
  rotate_left
  ·cases h
  cases h
  have := hx.one rfl rfl
  cases this
  have hlen : (Q1x s).length = s.size := by simp [Q1x]
  rw [hlen]
  refine ⟨rfl, fun k hk => ⟨_, rfl, QbW m s k hk⟩⟩
 ·cases h
  have := hx.one rfl rfl
  cases this
  refine ⟨rfl, fun k hk => ⟨#[], rfl, ?_⟩⟩
  have : k = 0 := by simpa using hk
  subst this
  simp [DRel]
end Go.Am
namespace Go.Am
open Go
theorem Qa0 {m : Mem} {k : IntKind} {n : Nat} {xs : List Int} {cs : List Value} (h : DRel m (.arr n (.int k)) xs cs) : cs = xs.map (Value.int k) := by
 simp only [DRel, Ty.size, Nat.mul_one] at h
 obtain ⟨d1, d2, d3⟩ := h
 have d1' : List.length (α := Int) xs = n := d1
 apply List.ext_getElem (by simp; omega)
 intro i h1 h2
 have hi : i < n := by omega
 have := congrArg (·[0]?) (d3 i hi)
 have hxi : i < List.length (α := Int) xs := by omega
 simp only [List.getElem?_take, List.getElem?_drop, Nat.lt_one_iff, if_true, Nat.add_zero, List.getElem?_cons_zero] at this
 rw [List.getElem?_eq_getElem h1] at this
 simp only [Option.some.injEq] at this
 rw [this]
 simp [List.getD_eq_getElem?_getD, List.getElem?_eq_getElem hxi]
theorem Q9F (m : Mem) (k : IntKind) (xs : List Int) : DRel m (.arr xs.length (.int k)) xs (xs.map (Value.int k)) := by
 simp only [DRel, Ty.size, Nat.mul_one]
 refine ⟨trivial, by simp, fun i hi => ?_⟩
 apply List.ext_getElem?
 intro j
 simp only [List.getElem?_take, List.getElem?_drop, List.getElem?_map]
 rcases Nat.eq_zero_or_pos j with rfl | hj
 ·simp [List.getElem?_eq_getElem hi, List.getD_eq_getElem?_getD]
 ·rw [if_neg (by omega)]; simp; omega
theorem Q7h {m : Mem} {μ : LMap} {H : Heap} {w : World} {t : Ty} {n cap : Nat} {cs : Array Value} {E : TypeId} (hc : n ≤ cap) (h : cap * t.size ≤ cs.size) :
  CRel m (fun i => if i = H.length then some ⟨w.heap.size, 0, .arr n t, cs.size, E, false⟩ else μ i) (.vsl H.length) [.slice (some ⟨w.heap.size, 0, none⟩) n cap] :=
 ⟨⟨w.heap.size, 0, .arr n t, cs.size, E, false⟩, n, t, some ⟨w.heap.size, 0, none⟩, cap, by simp, rfl, hc, rfl, .inl ⟨rfl, by simpa using h⟩⟩
theorem Q8i {P : Program} {m : Mem} {μ : LMap} {H : Heap} {w : World} {src dst : TypeId} {x : AVal} {v : Value} {r : Res} (rh : RH m μ H w) (hx : VRel m μ x v) (h : Q4N P H src dst x = some r) :
  ∃ u w' μ', (convert src dst v).run P w = .ok u w' ∧ VRel m μ' r.v u ∧ Post m μ H w m μ' r.H w' := by
 unfold Q4N at h
 split at h
 ·rename_i ts k hs hd
  cases x <;> simp only at h <;> try (cases h; done)
  cases h
  have := hx.one rfl rfl
  cases this
  rename_i k' n
  refine ⟨.int k (k.wrap n), w, μ, ?_, rfl, Post.refl rh⟩
  simp only [convert, run_bind, Qa hs, Qa hd]; rfl
 ·rename_i hs hd
  cases x <;> simp only at h <;> try (cases h; done)
  cases h
  have := hx.one rfl rfl
  cases this
  exact ⟨_, w, μ, by simp only [convert, run_bind, Qa hs, Qa hd]; rfl, rfl, Post.refl rh⟩
 ·rename_i e hs hd
  split at h
  ·rename_i he
   cases h
   have := hx.one rfl rfl
   cases this
   refine ⟨_, w, μ, ?_, rfl, Post.refl rh⟩
   rw [Go.run_convert_bytes_string w src dst e none 0 0 hs he hd]; rfl
  ·rename_i he hne
   split at h
   ·rename_i xs ids hv
    cases h
    obtain ⟨a, cap, rfl, hc⟩ := Q7K (P := P) rh hx hv
    obtain ⟨cells, h1, h2⟩ := hc xs.length (Nat.le_refl _)
    rw [List.take_length] at h2
    have hcells := Qa0 h2
    refine ⟨.string (bytesOf xs), w, μ, ?_, rfl, Post.refl rh⟩
    rw [Go.run_convert_bytes_string w src dst e a _ cap hs he hd]
    cases a with
    | none =>
     have h1' : cells = #[] := by
      have : (Sem.run P (pure #[] : Sem (Array Value)) w) = Result.ok cells w := h1
      cases this; rfl
     subst h1'
     have hnil : (xs : List Int) = [] := by
      have : ([] : List Value) = List.map (Value.int .u8) xs := hcells
      exact List.map_eq_nil_iff.1 this.symm
     simp only [Conv.bytesToString]
     rw [hnil]; rfl
    | some ad =>
     have h1' : (loadCells ad xs.length).run P w = .ok (List.map (Value.int .u8) xs).toArray w := by
      have : (loadCells ad (xs.length * 1)).run P w = .ok cells w := h1
      rw [Nat.mul_one] at this
      rw [this, ← hcells]
     rw [Go.run_bytesToString w ad xs.length cap xs h1', Go.foldl_push_bytes]
     simp only [bytesOf]
     congr 2
     apply ByteArray.ext
     simp
   ·cases h
  ·cases h
 ·rename_i e hs hd
  split at h
  ·rename_i s he
   have h5 : (e == 5) = true := by
    cases hc : (e == 5) with
    | true => rfl
    | false => rw [hc] at h; cases h
   rw [h5] at h
   simp only [if_true] at h
   have h5' : e = 5 := by simpa using h5
   cases h
   have := hx.one rfl rfl
   cases this
   have hgr : Qa1 w (Go.Lib.bytesCells w e s) e ((Go.Lib.bytesCells w e s).size, (Go.Lib.bytesCells w e s).size + 1) (Go.Lib.bytesWorld w e s) :=
    ⟨rfl, rfl, rfl, Go.Lib.bytesWorld_size w e s, Go.Lib.bytesWorld_at_new w e s, fun j hj => Go.Lib.bytesWorld_at_old w e s j hj⟩
   have hlen : (Q1x s).length = s.size := by simp [Q1x]
   have hsz : (Go.Lib.bytesCells w e s).size = s.size + (Go.grownCap w s.size 0 e - s.size) := by
    simp [Go.Lib.bytesCells]
   have hcap : s.size ≤ Go.grownCap w s.size 0 e := by
    simp only [Go.grownCap, Question.cut]; omega
   have hp := rh.grow (a := .vec (.int .u8) (Q1x s)) hgr (by rw [hsz]; simp only [AVal.sh, Sh.size, Ty.size, hlen]; omega) (fun j hj h => by omega) (by
    have : ((Go.Lib.bytesCells w e s).toList.take (AVal.vec (.int .u8) (Q1x s)).sh.size) = List.map (Value.int .u8) (Q1x s) := by
     simp only [AVal.sh, Sh.size, Ty.size, Nat.mul_one, hlen, Go.Lib.bytesCells, Array.toList_append, Array.toList_map]
     rw [List.take_append_of_le_length (by simp), List.take_of_length_le (by simp)]
     simp [Q1x]
    rw [this]
    exact Q9F m .u8 (Q1x s)) (fun _ => h5')
   refine ⟨_, _, _, Go.Lib.run_convert_string_bytes w src dst e s hs hd he, ?_, hp⟩
   have := Q7h (m := m) (μ := μ) (H := H) (w := w) (t := .int .u8) (n := s.size) (cap := Go.grownCap w s.size 0 e) (cs := Go.Lib.bytesCells w e s) (E := e) hcap (by rw [hsz]; simp only [Ty.size]; omega)
   simp only [AVal.sh, hlen]
   exact this
  ·cases h
 ·cases h
end Go.Am
namespace Go.Am
open Go
theorem Q2P (z : Array Value) (n : Nat) : ((Array.range (n * z.size)).map fun i => z[i % z.size]!).toList = (List.replicate n z.toList).flatten := by
 induction n with
 | zero => simp
 | succ n ih =>
  apply List.ext_getElem?
  intro i
  simp only [Array.toList_map, Array.toList_range, List.getElem?_map, List.replicate_succ, List.flatten_cons] at ih ⊢
  rcases Nat.lt_or_ge i z.size with h | h
  ·rw [List.getElem?_append_left (by simpa using h), List.getElem?_range (by rw [Nat.succ_mul]; omega)]
   simp [Nat.mod_eq_of_lt h, h]
  ·rw [List.getElem?_append_right (by simpa using h), ← ih]
   simp only [List.getElem?_map, Array.length_toList]
   rcases Nat.lt_or_ge i ((n + 1) * z.size) with h2 | h2
   ·rw [Nat.succ_mul] at h2
    rw [List.getElem?_range (by rw [Nat.succ_mul]; omega), List.getElem?_range (by omega)]
    simp only [Option.map_some, Option.some.injEq]
    congr 1
    exact (Nat.mod_eq_sub_mod h).symm ▸ rfl
   ·rw [Nat.succ_mul] at h2
    rw [List.getElem?_eq_none (by simp; rw [Nat.succ_mul]; omega), List.getElem?_eq_none (by simp; omega)]
theorem Q7T (z : Array Value) (n : Nat) : (Builtin.zeroCells z n).toList = (List.replicate n z.toList).flatten := Q2P z n
theorem Q5o {m : Mem} {t : Ty} {x : t.den} {cs : List Value} (h : DRel m t x cs) (n : Nat) : DRel m (.arr n t) (List.replicate n x) ((List.replicate n cs).flatten) := by
 have hl := h.length
 refine ⟨by simp, by simp [hl], fun i hi => ?_⟩
 rw [Q1T _ _ hl n i hi, Q4M _ _ _ _ hi]
 exact h
theorem QdA {m : Mem} {μ : LMap} {P : Program} {T : TypeId} {z : AVal} {t : Ty} {d : t.den} (h : Q4s P T = some z) (hd : Q12 t z = some d) :
  ∃ i v, P.info? T = some i ∧ i.zero = some v ∧ DRel m t d v.cells.toList := by
 obtain ⟨i, v, h1, h2, h3⟩ := Q6p (m := m) (μ := μ) h
 exact ⟨i, v, h1, h2, (Q1Y (m := m) (μ := μ) hd).2 h3⟩
end Go.Am
namespace Go.Am
open Go
theorem Qac {n : Int} (h0 : 0 ≤ n) (h1 : n ≤ 140737488355328) : IntKind.i64.wrap n = n := by
 have e : n % 18446744073709551616 = n := Int.emod_eq_of_lt h0 (by omega)
 simp only [IntKind.wrap, IntKind.bits, IntKind.signed]
 simp [e]
 omega
theorem Q71 {P : Program} (b : Nat) (w : World) : (askRoom b).run P w = .ok () w := by
 unfold askRoom; split <;> rfl
theorem Q4S {i : TypeInfo} {t : Ty} (h : Q6i i t = true) : ∃ z, i.zero = some z ∧ z.cells.toList = Q2c t := by
 unfold Q6i at h
 split at h
 ·exact ⟨_, ‹_›, Q8X h⟩
 ·cases h
theorem Q4i {P : Program} {T : TypeId} {i : TypeInfo} (h : P.info? T = some i) : Q16 P T = some i.size := by
 unfold Q16; rw [h]; rfl
theorem Q75 {P : Program} {m : Mem} {μ : LMap} {H : Heap} {w : World} {T : TypeId} {l c : AVal} {vl vc : Value} {r : Res} (rh : RH m μ H w) (hl : VRel m μ l vl) (hc : VRel m μ c vc) (h : Q2O P H T l c = some r) (hvc : r.vc = true) :
  ∃ u w' μ', (Instr.makeSlice T vl vc).run P w = .ok u w' ∧ VRel m μ' r.v u ∧ Post m μ H w m μ' r.H w' := by
 unfold Q2O at h
 split at h
 ·rename_i e k1 n1 k2 n2 hu
  have e1 := hl.one rfl rfl
  have e2 := hc.one rfl rfl
  cases e1; cases e2
  split at h
  ·rename_i t i ht hi
   split at h
   ·rename_i hok
    cases h
    simp only [Bool.and_eq_true, beq_iff_eq, bne_iff_ne] at hok
    obtain ⟨⟨hs, hb⟩, hz⟩ := hok
    simp only [Bool.and_eq_true, decide_eq_true_eq, Nat.ble_eq] at hvc
    obtain ⟨⟨h0, h1⟩, h2⟩ := hvc
    obtain ⟨z, hz1, hz2⟩ := Q4S hz
    have hb1 : 1 ≤ i.bytes := Nat.pos_of_ne_zero hb
    have hcb : n2.toNat ≤ n2.toNat * i.bytes := Nat.le_mul_of_pos_right _ hb1
    have w1 := Qac h0 (by omega : n1 ≤ 140737488355328)
    have w2 := Qac (by omega : 0 ≤ n2) (by omega : n2 ≤ 140737488355328)
    have hzs : z.cells.size = t.size := by
     have := (Q1O m t).length
     rw [← hz2, Array.length_toList] at this; exact this
    have hnl : ¬ (i.bytes : Int) * n2 > 2 ^ 48 := by
     have : (i.bytes : Int) * n2 = ((n2.toNat * i.bytes : Nat) : Int) := by
      rw [Int.natCast_mul, Int.toNat_of_nonneg (by omega), Int.mul_comm]
     rw [this]; omega
    have harr1 : (Array.range (n2.toNat * t.size)).map (fun j => z.cells[j % z.cells.size]!) = ((List.replicate n2.toNat (Q2c t)).flatten).toArray := by
     apply Array.ext'
     rw [← hzs, Q2P, hz2]
    have harr0 : n2.toNat * t.size = 0 → (Array.range (n2.toNat * t.size)).map (fun j => (#[] : Array Value)[j % (#[] : Array Value).size]!) = ((List.replicate n2.toNat (Q2c t)).flatten).toArray := by
     intro hn0
     have : (List.replicate n2.toNat (Q2c t)).flatten = [] := List.eq_nil_of_length_eq_zero (by simp [(Q1O m t).length, hn0])
     rw [this, hn0]; simp
    have hrel := Q5o (Q1O m t) n2.toNat
    have hlen := hrel.length
    have hsub := Q3A (off := 0) (k := n1.toNat) hrel (by omega)
    simp only [Nat.zero_mul, List.drop_zero, List.take_replicate, Nat.min_eq_left (show n1.toNat ≤ n2.toNat by omega)] at hsub
    have hmul : n1.toNat * t.size ≤ n2.toNat * t.size := Nat.mul_le_mul_right _ (by omega)
    have hp := rh.push (a := .vec t (List.replicate n1.toNat t.zero)) (cs := ((List.replicate n2.toNat (Q2c t)).flatten).toArray) (E := e) (fz := (0, 0)) (dr := w.drawn)
     (by simp only [AVal.sh, Sh.size, List.length_replicate, List.size_toArray]; simp only [Ty.size] at hlen; omega) (fun j _ h => by omega)
     (by simp only [AVal.sh, Sh.size, List.length_replicate]; show DRel m (.arr _ t) _ _; rw [List.length_replicate]; exact hsub) (fun h => Q6D ht h)
    refine ⟨.slice (some ⟨w.heap.size, 0, none⟩) n1.toNat n2.toNat, _, _, ?_, ?_, hp⟩
    ·simp only [Instr.makeSlice, run_bind, Qa hu, asInt, asIntOf, QP, Q31 hi, w1, w2]
     rw [if_neg]
     ·simp only [run_bind, Q71, Q0N (Q4i hi), hs]
      rw [Q9s]
      split
      ·rename_i hn0
       simp only [run_bind, QP, Q3o]
       rw [harr0 hn0]
      ·simp only [run_bind, QP, Q1y hi hz1, Q3o]
       rw [harr1]
     ·simp only [Bool.or_eq_true, decide_eq_true_eq, not_or]
      refine ⟨⟨⟨by omega, hnl⟩, by omega⟩, by omega⟩
    ·have := Q7h (m := m) (μ := μ) (H := H) (w := w) (t := t) (n := n1.toNat) (cap := n2.toNat) (cs := ((List.replicate n2.toNat (Q2c t)).flatten).toArray) (E := e) (by omega) (by simp only [List.size_toArray]; simp only [Ty.size] at hlen; omega)
     simp only [AVal.sh, List.length_replicate]
     exact this
   ·cases h
  ·cases h
 ·cases h
theorem Q5x {m : Mem} {t : Ty} {a b : Nat} {xs ys : List t.den} {cs ds : List Value} (h1 : DRel m (.arr a t) xs cs) (h2 : DRel m (.arr b t) ys ds) : DRel m (.arr (a + b) t) (xs ++ ys) (cs ++ ds) := by
 simp only [DRel] at *
 obtain ⟨a1, a2, a3⟩ := h1
 obtain ⟨b1, b2, b3⟩ := h2
 refine ⟨by simp [a1, b1], by simp [a2, b2, Nat.add_mul], fun i hi => ?_⟩
 rcases Nat.lt_or_ge i a with h | h
 ·have hm : (i + 1) * t.size ≤ a * t.size := Nat.mul_le_mul_right _ h
  rw [Nat.add_mul] at hm
  rw [List.drop_append_of_le_length (by omega), List.take_append_of_le_length (by simp; omega)]
  rw [List.getD_eq_getElem?_getD, List.getElem?_append_left (by omega), ← List.getD_eq_getElem?_getD]
  exact a3 i h
 ·rw [List.getD_eq_getElem?_getD, List.getElem?_append_right (by omega), ← List.getD_eq_getElem?_getD, a1]
  have hm : a * t.size ≤ i * t.size := Nat.mul_le_mul_right _ h
  rw [List.drop_append, List.drop_eq_nil_of_le (by omega), List.nil_append, a2, ← Nat.sub_mul]
  exact b3 (i - a) (by omega)
theorem Q7o {P : Program} {m : Mem} {μ : LMap} {H : Heap} {w : World} {e : TypeId} {i : TypeInfo} {t : Ty} {xs ys : List t.den} {z : Value} {base : Option Addr} {n sCap : Nat} {old new : Array Value} (dr : Nat) (rh : RH m μ H w) (hz : i.zero = some z) (hi : P.info? e = some i)
  (hs : i.size = t.size) (hold : DRel m (.arr xs.length t) xs old.toList) (hnew : DRel m (.arr ys.length t) ys new.toList) (newCap : Nat) (hcap : xs.length + ys.length ≤ newCap) (hzs : z.cells.size = t.size) (hvb : ∀ xs : List t.den, (AVal.vec t xs).isVb = true → e = 5) :
  VRel m (fun j => if j = H.length then some ⟨w.heap.size, 0, .arr (xs.length + ys.length) t, (old ++ new ++ Builtin.zeroCells z.cells (newCap - (xs.length + ys.length))).size, e, false⟩ else μ j) (.vsl H.length) (.slice (some ⟨w.heap.size, 0, none⟩) (xs.length + ys.length) newCap) ∧
  Post m μ H w m (fun j => if j = H.length then some ⟨w.heap.size, 0, .arr (xs.length + ys.length) t, (old ++ new ++ Builtin.zeroCells z.cells (newCap - (xs.length + ys.length))).size, e, false⟩ else μ j) (H ++ [some (.vec t (xs ++ ys))])
   { w with heap := w.heap.push (.cells (old ++ new ++ Builtin.zeroCells z.cells (newCap - (xs.length + ys.length))) e), drawn := dr } := by
 have hboth := Q5x hold hnew
 have hl := hboth.length
 simp only [Ty.size, List.length_append, Array.length_toList] at hl
 have hzc : (Builtin.zeroCells z.cells (newCap - (xs.length + ys.length))).size = (newCap - (xs.length + ys.length)) * t.size := by
  rw [← Array.length_toList, Q7T]
  simp [hzs]
 have htot : (old ++ new ++ Builtin.zeroCells z.cells (newCap - (xs.length + ys.length))).size = newCap * t.size := by
  simp only [Array.size_append, hzc]
  rw [Nat.sub_mul]
  have : (xs.length + ys.length) * t.size ≤ newCap * t.size := Nat.mul_le_mul_right _ hcap
  omega
 have hmul : (xs.length + ys.length) * t.size ≤ newCap * t.size := Nat.mul_le_mul_right _ hcap
 have hp := rh.push (a := .vec t (xs ++ ys)) (cs := old ++ new ++ Builtin.zeroCells z.cells (newCap - (xs.length + ys.length))) (E := e) (fz := (0, 0)) (dr := dr)
  (by simp only [AVal.sh, Sh.size, List.length_append]; omega) (fun j _ h => by omega)
  (by
   simp only [AVal.sh, Sh.size, List.length_append, Array.toList_append]
   rw [List.take_append_of_le_length (by simp only [List.length_append, Array.length_toList]; omega), List.take_of_length_le (by simp only [List.length_append, Array.length_toList]; omega)]
   show DRel m (.arr _ t) _ _
   rw [List.length_append]; exact hboth) (hvb _)
 simp only [AVal.sh, List.length_append] at hp
 refine ⟨?_, hp⟩
 exact Q7h (m := m) (μ := μ) (H := H) (w := w) (t := t) (n := xs.length + ys.length) (cap := newCap) hcap (by omega)
end Go.Am
namespace Go.Am
open Go
section
variable {P : Program} {w : World} {S X : TypeId} {ats : Array TypeId} {as : Array Value} {e : TypeId} {i : TypeInfo} {base : Option Addr} {sLen sCap n : Nat} {x : Value} {d : TypeDesc} {new : Array Value}
theorem Q1D (ty : TypeId) (hS : ats[0]? = some S) (hX : ats[1]? = some X) (ha0 : as[0]? = some (.slice base sLen sCap)) (ha1 : as[1]? = some x) (hu : P.underlying S = some (.slice e)) (hd : P.underlying X = some d) (hni : ∀ k, d ≠ .int k)
  (hi : P.info? e = some i) (hn : (Builtin.lenOf x).run P w = .ok n w) (hf : (Builtin.firstCells i.size n x).run P w = .ok new w) (hroom : sLen + n ≤ sCap) {w' : World}
  (hst : (match base with | some a => storeCells (a.add (sLen * i.size)) new.toList | none => pure () : Sem Unit).run P w = .ok () w') :
  (Builtin.append_ ats ty as).run P w = .ok (.slice base (sLen + n) sCap) w' := by
 have hz : (match d with | .int _ => true | _ => false) = false := by cases d <;> first | rfl | exact absurd rfl (hni _)
 unfold Builtin.append_
 simp only [hS, hX, ha0, ha1, run_bind, Qa hu, Q0N (Q4i hi), Qa hd, QP, hz, Bool.false_eq_true, if_false, hn, hroom, if_true, Bool.not_false, hf]
 cases base with
 | none => simp only [QP] at hst ⊢; cases hst; rfl
 | some a => simp only [run_bind, hst] at hst ⊢; rfl
theorem Q3u (ty : TypeId) {z : Value} {old : Array Value} (hS : ats[0]? = some S) (hX : ats[1]? = some X) (ha0 : as[0]? = some (.slice base sLen sCap)) (ha1 : as[1]? = some x) (hu : P.underlying S = some (.slice e)) (hd : P.underlying X = some d) (hni : ∀ k, d ≠ .int k)
  (hi : P.info? e = some i) (hz : i.zero = some z) (hn : (Builtin.lenOf x).run P w = .ok n w) (hf : (Builtin.firstCells i.size n x).run P { w with drawn := w.drawn + 1 } = .ok new { w with drawn := w.drawn + 1 })
  (ho : (Builtin.firstCells i.size sLen (.slice base sLen sCap)).run P { w with drawn := w.drawn + 1 } = .ok old { w with drawn := w.drawn + 1 }) (hroom : ¬ (sLen + n ≤ sCap)) (hb : i.bytes ≠ 0) (hfit : (sLen + n) * i.bytes ≤ 140737488355328) :
  ∃ newCap dr, sLen + n ≤ newCap ∧ (Builtin.append_ ats ty as).run P w = .ok (.slice (some ⟨w.heap.size, 0, none⟩) (sLen + n) newCap)
   { w with heap := w.heap.push (.cells (old ++ new ++ Builtin.zeroCells z.cells (newCap - (sLen + n))) e), drawn := dr } := by
 have hzz : (match d with | .int _ => true | _ => false) = false := by cases d <;> first | rfl | exact absurd rfl (hni _)
 refine ⟨(Question.appendCap (sLen + n) sCap e).cut (w.tape w.drawn (.appendCap (sLen + n) sCap e)), w.drawn + 1, by simp only [Question.cut]; omega, ?_⟩
 have h48 : ¬ (Builtin.nextslicecap (sLen + n) sCap * i.bytes > 2 ^ 48) := by
  have := Go.growslice_fits (need := sLen + n) (old := sCap) (bytes := i.bytes) (by omega) hfit
  omega
 have hch : (choose (.appendCap (sLen + n) sCap e)).run P w = .ok ((Question.appendCap (sLen + n) sCap e).cut (w.tape w.drawn (.appendCap (sLen + n) sCap e))) { w with drawn := w.drawn + 1 } := rfl
 unfold Builtin.append_
 simp only [hS, hX, ha0, ha1, run_bind, Qa hu, Q0N (Q4i hi), Qa hd, QP, hzz, Bool.false_eq_true, if_false, hn, hroom, Q31 hi, hb, or_self, and_false, h48, false_or]
 simp only [hch, Q71, Bool.not_false, if_true, ho, hf, Q1y hi hz, Q3o]
end
theorem Qal {m : Mem} {μ : LMap} {H : Heap} {t : Ty} {b : Nat} {base : Option Addr} : CRel m (fun j => if j = H.length then some ⟨b, 0, .arr 0 t, 0, 0, false⟩ else μ j) (.vsl H.length) [.slice base 0 0] :=
 ⟨⟨b, 0, .arr 0 t, 0, 0, false⟩, 0, t, base, 0, by simp, rfl, Nat.le_refl _, rfl, .inr rfl⟩
theorem Q6e {i : TypeInfo} {t : Ty} (h : Q79 i t = true) : ∃ z, i.zero = some z ∧ z.cells.size = t.size := by
 unfold Q79 at h
 split at h
 ·rw [beq_iff_eq] at h; exact ⟨_, ‹_›, h⟩
 ·cases h
theorem Q4H (cs : List Value) (p a b : Nat) (new : List Value) (hn : new.length = b) (hle : p + a + b ≤ cs.length) : ((Q0R cs (p + a) new).drop p).take (a + b) = (cs.drop p).take a ++ new := by
 unfold Q0R
 apply List.ext_getElem?
 intro i
 simp only [List.getElem?_take, List.getElem?_drop, List.getElem?_append, List.length_append, List.length_take, List.length_drop]
 by_cases h1 : i < a
 ·rw [if_pos (by omega), if_pos (by omega), if_pos (by omega), if_pos (by omega), if_pos (by omega), if_pos h1]
 ·by_cases h2 : i < a + b
  ·rw [if_pos h2, if_pos (by omega), if_neg (by omega), if_neg (by omega)]
   congr 1; omega
  ·rw [if_neg h2, if_neg (by omega), List.getElem?_eq_none (by omega)]
theorem Q5y {P : Program} {m : Mem} {μ : LMap} {H : Heap} {w : World} {S X e : TypeId} {i : TypeInfo} {d : TypeDesc} {ats : Array TypeId} {as : Array Value} {x : AVal} {v : Value} {t : Ty} {xs ys : List t.den} {ids : List Nat} {id off len cap : Nat} {l : Loc} {a : Option Addr} (ty : TypeId)
  (rh : RH m μ H w) (hS : ats[0]? = some S) (hX : ats[1]? = some X) (ha0 : as[0]? = some (.slice a len cap)) (ha1 : as[1]? = some v) (hu : P.underlying S = some (.slice e)) (hd : P.underlying X = some d) (hni : ∀ k, d ≠ .int k)
  (hi : P.info? e = some i) (hs : i.size = t.size) (hb : i.bytes ≠ 0) (hz : Q79 i t = true) (hx : VRel m μ x v) (hit : Q2p H t x = some (ys, ids)) (hH : H[id]? = some (some (.vec t xs))) (hl : μ id = some l) (hsh : l.sh = .arr xs.length t)
  (hle : off + len ≤ xs.length) (hlc : len ≤ cap) (ha : (a = some ⟨l.b, l.off + off * t.size, none⟩ ∧ l.off + (off + cap) * t.size ≤ l.tot) ∨ cap = 0) (hfit : (len + ys.length) * i.bytes ≤ 140737488355328) (hvb : ∀ xs : List t.den, (AVal.vec t xs).isVb = true → e = 5) :
  ∃ u w' μ', (Builtin.append_ ats ty as).run P w = .ok u w' ∧ VRel m μ' (.vsl H.length) u ∧ Post m μ H w m μ' (H.set id none ++ [some (.vec t ((xs.drop off).take len ++ ys))]) w' := by
 obtain ⟨z, hz1, hz2⟩ := Q6e hz
 obtain ⟨hn, hf⟩ := Q2r (P := P) rh hx hit
 have hold : ((xs.drop off).take len).length = len := by simp; omega
 have ho : l.sh.offP [] = some (0, .arr xs.length t) := by simp only [Sh.offP, hsh]
 by_cases hroom : len + ys.length ≤ cap
 ·obtain ⟨new, hf1, hf2⟩ := hf ys.length (Nat.le_refl _)
  rw [List.take_length] at hf2
  rw [← hs] at hf1
  obtain ⟨l', hblk⟩ := rh.blk id _ hH
  have : l' = l := Option.some.inj (hblk.loc.symm.trans hl)
  subst this
  have hnl := hf2.length
  simp only [Ty.size, Array.length_toList] at hnl
  rcases hblk.cells with ⟨p1, p2, p3, p4⟩ | ⟨p0, gm, cs, E, fz, g1, g2, g3, g4, g5⟩
  ·-- a block of no cells
   have hc0 : cap * t.size = 0 := by
    rcases ha with ⟨_, h2⟩ | h2
    ·rw [p1, p2] at h2
     have : cap * t.size ≤ (off + cap) * t.size := Nat.mul_le_mul_right _ (by omega)
     omega
    ·subst h2; simp
   have hn0 : (len + ys.length) * t.size = 0 := by
    have : (len + ys.length) * t.size ≤ cap * t.size := Nat.mul_le_mul_right _ hroom
    omega
   have hnew0 : new.toList = [] := List.eq_nil_of_length_eq_zero (by
    rw [Array.length_toList, hnl]
    have : ys.length * t.size ≤ (len + ys.length) * t.size := Nat.mul_le_mul_right _ (by omega)
    omega)
   have hrel : DRel m (.arr (len + ys.length) t) ((xs.drop off).take len ++ ys) [] := by
    have h1 := Q3A (off := off) (k := len) (show DRel m (.arr xs.length t) xs [] from p4) hle
    rw [hnew0] at hf2
    have h2 := Q5x h1 hf2
    simpa using h2
   have hp := (RH.kill rh id).trans ((RH.kill rh id).rh.phantom (a := .vec t ((xs.drop off).take len ++ ys)) (by simp only [AVal.sh, Sh.size, List.length_append, hold]; exact hn0)
    (by show DRel m (.arr _ t) _ _; rw [List.length_append, hold]; exact hrel) l'.b)
   simp only [List.length_set] at hp
   refine ⟨.slice a (len + ys.length) cap, w, _, ?_, ?_, hp⟩
   ·refine Q1D ty hS hX ha0 ha1 hu hd hni hi hn hf1 hroom ?_
    rw [hnew0]
    cases a <;> rfl
   ·refine ⟨⟨l'.b, 0, (AVal.vec t ((xs.drop off).take len ++ ys)).sh, 0, 0, false⟩, len + ys.length, t, a, cap, by simp, by simp only [AVal.sh, List.length_append, hold], hroom, rfl, ?_⟩
    rcases ha with ⟨h1, h2⟩ | h2
    ·-- an element has no cell
     rcases Nat.eq_zero_or_pos cap with hc | hc
     ·exact .inr hc
     ·refine .inl ⟨?_, by rw [hc0]; simp⟩
      have ht0 : t.size = 0 := by
       rcases Nat.mul_eq_zero.1 hc0 with h | h
       ·omega
       ·exact h
      rw [h1, p2, ht0]; simp
    ·exact .inr h2
  ·-- in place
   rcases Nat.eq_zero_or_pos cap with hc0 | hc0
   ·-- no room: nothing is appended
    have hy0 : ys = [] := List.eq_nil_of_length_eq_zero (by omega)
    have hl0 : len = 0 := by omega
    subst hy0; subst hl0; subst hc0
    have hp := (RH.kill rh id).trans ((RH.kill rh id).rh.phantom (a := .vec t ((xs.drop off).take 0 ++ [])) (by simp [AVal.sh, Sh.size]) (by show DRel m (.arr _ t) _ _; simp [DRel]) l'.b)
    simp only [List.length_set] at hp
    have hnew0 : new.toList = [] := List.eq_nil_of_length_eq_zero (by rw [Array.length_toList, hnl]; simp)
    refine ⟨.slice a 0 0, w, _, ?_, ?_, hp⟩
    ·refine Q1D ty hS hX ha0 ha1 hu hd hni hi hn hf1 hroom ?_
     rw [hnew0]
     cases a <;> rfl
    ·refine ⟨_, 0, t, a, 0, by simp; rfl, by simp [AVal.sh], Nat.le_refl _, rfl, .inr rfl⟩
   ·have ha' : a = some ⟨l'.b, l'.off + off * t.size, none⟩ ∧ l'.off + (off + cap) * t.size ≤ l'.tot := by
     rcases ha with h | h
     ·exact h
     ·omega
    obtain ⟨rfl, htot⟩ := ha'
    have hm1 : (off + cap) * t.size = off * t.size + cap * t.size := Nat.add_mul _ _ _
    have hm2 : (len + ys.length) * t.size ≤ cap * t.size := Nat.mul_le_mul_right _ hroom
    rw [Nat.add_mul] at hm2
    obtain ⟨w', cs', hr, hp, hcs⟩ := Q2E (P := P) (b := l'.b) (l'.off + off * t.size + len * t.size) new.toList 0 w cs g1 (by rw [Array.length_toList, hnl]; omega) (by rw [g2]; exact g3) hf2.flat
    have hlen' : cs'.size = cs.size := by
     rw [← Array.length_toList, hcs, Q1p (by simp; rw [hnl]; omega)]; simp
    have hrel : DRel m (.arr (len + ys.length) t) ((xs.drop off).take len ++ ys) ((cs'.toList.drop (l'.off + off * t.size)).take ((len + ys.length) * t.size)) := by
     have h1 := Q3A (off := off) (k := len) (show DRel m (.arr xs.length t) xs _ from g5) hle
     simp only [AVal.sh, Sh.size] at h1
     have hm3 : (off + len) * t.size ≤ xs.length * t.size := Nat.mul_le_mul_right _ hle
     rw [Nat.add_mul] at hm3
     rw [Q0Z _ _ _ _ _ (by omega)] at h1
     have h2 := Q5x h1 hf2
     have e : ((cs'.toList.drop (l'.off + off * t.size)).take ((len + ys.length) * t.size)) = (cs.toList.drop (l'.off + off * t.size)).take (len * t.size) ++ new.toList := by
      rw [hcs, Nat.add_zero, Nat.add_mul]
      have hcl : cs.toList.length = cs.size := Array.length_toList
      exact Q4H _ _ _ _ _ (by rw [Array.length_toList, hnl]) (by omega)
     rw [e]; exact h2
    have hmv := rh.move (a' := .vec t ((xs.drop off).take len ++ ys)) (off' := l'.off + off * t.size) hH hl p0 g1 hp hlen' (by simp only [AVal.sh, Sh.size, List.length_append, hold, Nat.add_mul]; omega)
     (by simp only [AVal.sh, Sh.size]; rw [List.length_append, hold]; show DRel m (.arr _ t) _ _; rw [List.length_append, hold]; exact hrel) (fun h => by rw [Q6l _ xs] at h; exact h)
    refine ⟨.slice (some ⟨l'.b, l'.off + off * t.size, none⟩) (len + ys.length) cap, w', _, ?_, ?_, hmv⟩
    ·refine Q1D ty hS hX ha0 ha1 hu hd hni hi hn hf1 hroom ?_
     show (storeCells ((⟨l'.b, l'.off + off * t.size, none⟩ : Addr).add (len * i.size)) new.toList).run P w = _
     rw [hs, Q2h]
     exact hr
    ·exact ⟨_, len + ys.length, t, _, cap, by simp; rfl, by simp only [AVal.sh, List.length_append, hold], hroom, rfl, .inl ⟨rfl, by show l'.off + off * t.size + cap * t.size ≤ l'.tot; omega⟩⟩
 ·-- a new row
  have rhd := (rh.drawn (w.drawn + 1)).rh
  obtain ⟨_, hfd⟩ := Q2r (P := P) rhd hx hit
  obtain ⟨new, hf1, hf2⟩ := hfd ys.length (Nat.le_refl _)
  rw [List.take_length] at hf2
  rw [← hs] at hf1
  have ha2 : a = some ⟨l.b, l.off + 0 + off * t.size, none⟩ ∨ cap = 0 := by
   rcases ha with ⟨h, _⟩ | h
   ·exact .inl (by rw [Nat.add_zero]; exact h)
   ·exact .inr h
  obtain ⟨old, ho1, ho2⟩ := Q58 (P := P) (k := len) (xs := xs) (y := .vec t xs) (off := off) rhd hH rfl hl ho (fun cs h => h) hle hlc ha2 (Nat.le_refl _)
  rw [← hs] at ho1
  obtain ⟨newCap, dr, hcap, hrun⟩ := Q3u (z := z) ty hS hX ha0 ha1 hu hd hni hi hz1 hn hf1 ho1 hroom hb hfit
  have rhk := (RH.kill rh id)
  have ho2' : DRel m (.arr ((xs.drop off).take len).length t) ((xs.drop off).take len) old.toList := by rw [hold]; exact ho2
  have key := Q7o (P := P) (e := e) (i := i) (base := a) (n := 0) (sCap := 0) dr rhk.rh hz1 hi hs ho2' hf2 newCap (by rw [hold]; exact hcap) hz2 hvb
  simp only [List.length_set, hold] at key
  exact ⟨_, _, _, hrun, key.1, rhk.trans key.2⟩
end Go.Am
