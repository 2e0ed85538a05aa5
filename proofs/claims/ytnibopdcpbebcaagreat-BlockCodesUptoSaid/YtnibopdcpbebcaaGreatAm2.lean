/- A part of a proof: a machine of abstract values that tells what functions of the program compute, and the plain facts on them. -/
import Derived.Test.YtnibopdcpbebcaaGreatAm1
import Derived.Laws.BytesArg
import Derived.Lib.ConvBytes
import Derived.Laws.Small
set_option linter.unusedVariables false
set_option linter.unusedSimpArgs false
set_option linter.unnecessarySimpa false
set_option linter.unusedSectionVars false
namespace Go.Am
open Go
theorem Qbo {m : Mem} {k : IntKind} {n : Nat} {xs : List Int} {cs : List Value} (h : DRel m (.arr n (.int k)) xs cs) : cs = xs.map (Value.int k) := by
 simp only [DRel, Ty.size, Nat.mul_one] at h
 obtain ⟨d1, d2, d3⟩ := h
 have d1' : List.length (α := Int) xs = n := d1
 apply List.ext_getElem (by simp; omega)
 intro i h1 h2
 have hi : i < n := by omega
 have := congrArg (·[0]?) (d3 i hi)
 have hxi : i < List.length (α := Int) xs := by omega
 simp only [List.getElem?_take, List.getElem?_drop, Nat.lt_one_iff, if_true, Nat.add_zero, List.getElem?_cons_zero] at this
 rw [List.getElem?_eq_getElem h1] at this
 simp only [Option.some.injEq] at this
 rw [this]
 simp [List.getD_eq_getElem?_getD, List.getElem?_eq_getElem hxi]
theorem Qbi (m : Mem) (k : IntKind) (xs : List Int) : DRel m (.arr xs.length (.int k)) xs (xs.map (Value.int k)) := by
 simp only [DRel, Ty.size, Nat.mul_one]
 refine ⟨trivial, by simp, fun i hi => ?_⟩
 apply List.ext_getElem?
 intro j
 simp only [List.getElem?_take, List.getElem?_drop, List.getElem?_map]
 rcases Nat.eq_zero_or_pos j with rfl | hj
 ·simp [List.getElem?_eq_getElem hi, List.getD_eq_getElem?_getD]
 ·rw [if_neg (by omega)]; simp; omega
theorem Q8w {m : Mem} {μ : LMap} {H : Heap} {w : World} {t : Ty} {n cap : Nat} {cs : Array Value} {E : TypeId} (hc : n ≤ cap) (h : cap * t.size ≤ cs.size) :
  CRel m (fun i => if i = H.length then some ⟨w.heap.size, 0, .arr n t, cs.size, E⟩ else μ i) (.vsl H.length) [.slice (some ⟨w.heap.size, 0, none⟩) n cap] :=
 ⟨⟨w.heap.size, 0, .arr n t, cs.size, E⟩, n, t, some ⟨w.heap.size, 0, none⟩, cap, by simp, rfl, hc, rfl, .inl ⟨rfl, by simpa using h⟩⟩
theorem Q9U {P : Program} {m : Mem} {μ : LMap} {H : Heap} {w : World} {src dst : TypeId} {x : AVal} {v : Value} {r : Res} (rh : RH m μ H w) (hx : VRel m μ x v) (h : Q5q P H src dst x = some r) :
  ∃ u w' μ', (convert src dst v).run P w = .ok u w' ∧ VRel m μ' r.v u ∧ Post m μ H w m μ' r.H w' := by
 unfold Q5q at h
 split at h
 ·rename_i ts k hs hd
  cases x <;> simp only at h <;> try (cases h; done)
  cases h
  have := hx.one rfl rfl
  cases this
  rename_i k' n
  refine ⟨.int k (k.wrap n), w, μ, ?_, rfl, Post.refl rh⟩
  simp only [convert, run_bind, QV hs, QV hd]; rfl
 ·rename_i hs hd
  cases x <;> simp only at h <;> try (cases h; done)
  cases h
  have := hx.one rfl rfl
  cases this
  exact ⟨_, w, μ, by simp only [convert, run_bind, QV hs, QV hd]; rfl, rfl, Post.refl rh⟩
 ·rename_i e hs hd
  split at h
  ·rename_i he
   cases h
   have := hx.one rfl rfl
   cases this
   refine ⟨_, w, μ, ?_, rfl, Post.refl rh⟩
   rw [Go.run_convert_bytes_string w src dst e none 0 0 hs he hd]; rfl
  ·rename_i he hne
   split at h
   ·rename_i xs ids hv
    cases h
    obtain ⟨a, cap, rfl, hc⟩ := Q9g (P := P) rh hx hv
    obtain ⟨cells, h1, h2⟩ := hc xs.length (Nat.le_refl _)
    rw [List.take_length] at h2
    have hcells := Qbo h2
    refine ⟨.string (bytesOf xs), w, μ, ?_, rfl, Post.refl rh⟩
    rw [Go.run_convert_bytes_string w src dst e a _ cap hs he hd]
    cases a with
    | none =>
     have h1' : cells = #[] := by
      have : (Sem.run P (pure #[] : Sem (Array Value)) w) = Result.ok cells w := h1
      cases this; rfl
     subst h1'
     have hnil : (xs : List Int) = [] := by
      have : ([] : List Value) = List.map (Value.int .u8) xs := hcells
      exact List.map_eq_nil_iff.1 this.symm
     simp only [Conv.bytesToString]
     rw [hnil]; rfl
    | some ad =>
     have h1' : (loadCells ad xs.length).run P w = .ok (List.map (Value.int .u8) xs).toArray w := by
      have : (loadCells ad (xs.length * 1)).run P w = .ok cells w := h1
      rw [Nat.mul_one] at this
      rw [this, ← hcells]
     rw [Go.run_bytesToString w ad xs.length cap xs h1', Go.foldl_push_bytes]
     simp only [bytesOf]
     congr 2
     apply ByteArray.ext
     simp
   ·cases h
  ·cases h
 ·rename_i e hs hd
  split at h
  ·rename_i s he
   have h5 : (e == 5) = true := by
    cases hc : (e == 5) with
    | true => rfl
    | false => rw [hc] at h; cases h
   rw [h5] at h
   simp only [if_true] at h
   have h5' : e = 5 := by simpa using h5
   cases h
   have := hx.one rfl rfl
   cases this
   have hgr : Qbs w (Go.Lib.bytesCells w e s) e ((Go.Lib.bytesCells w e s).size, (Go.Lib.bytesCells w e s).size + 1) (Go.Lib.bytesWorld w e s) :=
    ⟨rfl, rfl, rfl, Go.Lib.bytesWorld_size w e s, Go.Lib.bytesWorld_at_new w e s, fun j hj => Go.Lib.bytesWorld_at_old w e s j hj⟩
   have hlen : (Qq s).length = s.size := by simp [Qq]
   have hsz : (Go.Lib.bytesCells w e s).size = s.size + (Go.grownCap w s.size 0 e - s.size) := by
    simp [Go.Lib.bytesCells]
   have hcap : s.size ≤ Go.grownCap w s.size 0 e := by
    simp only [Go.grownCap, Question.cut]; omega
   have hp := rh.grow (a := .vec (.int .u8) (Qq s)) hgr (by rw [hsz]; simp only [AVal.sh, Sh.size, Ty.size, hlen]; omega) (fun j hj h => by omega) (by
    have : ((Go.Lib.bytesCells w e s).toList.take (AVal.vec (.int .u8) (Qq s)).sh.size) = List.map (Value.int .u8) (Qq s) := by
     simp only [AVal.sh, Sh.size, Ty.size, Nat.mul_one, hlen, Go.Lib.bytesCells, Array.toList_append, Array.toList_map]
     rw [List.take_append_of_le_length (by simp), List.take_of_length_le (by simp)]
     simp [Qq]
    rw [this]
    exact Qbi m .u8 (Qq s)) (fun _ => h5')
   refine ⟨_, _, _, Go.Lib.run_convert_string_bytes w src dst e s hs hd he, ?_, hp⟩
   have := Q8w (m := m) (μ := μ) (H := H) (w := w) (t := .int .u8) (n := s.size) (cap := Go.grownCap w s.size 0 e) (cs := Go.Lib.bytesCells w e s) (E := e) hcap (by rw [hsz]; simp only [Ty.size]; omega)
   simp only [AVal.sh, hlen]
   exact this
  ·cases h
 ·cases h
end Go.Am
namespace Go.Am
open Go
theorem Q3K (z : Array Value) (n : Nat) : ((Array.range (n * z.size)).map fun i => z[i % z.size]!).toList = (List.replicate n z.toList).flatten := by
 induction n with
 | zero => simp
 | succ n ih =>
  apply List.ext_getElem?
  intro i
  simp only [Array.toList_map, Array.toList_range, List.getElem?_map, List.replicate_succ, List.flatten_cons] at ih ⊢
  rcases Nat.lt_or_ge i z.size with h | h
  ·rw [List.getElem?_append_left (by simpa using h), List.getElem?_range (by rw [Nat.succ_mul]; omega)]
   simp [Nat.mod_eq_of_lt h, h]
  ·rw [List.getElem?_append_right (by simpa using h), ← ih]
   simp only [List.getElem?_map, Array.length_toList]
   rcases Nat.lt_or_ge i ((n + 1) * z.size) with h2 | h2
   ·rw [Nat.succ_mul] at h2
    rw [List.getElem?_range (by rw [Nat.succ_mul]; omega), List.getElem?_range (by omega)]
    simp only [Option.map_some, Option.some.injEq]
    congr 1
    exact (Nat.mod_eq_sub_mod h).symm ▸ rfl
   ·rw [Nat.succ_mul] at h2
    rw [List.getElem?_eq_none (by simp; rw [Nat.succ_mul]; omega), List.getElem?_eq_none (by simp; omega)]
theorem Q8P (z : Array Value) (n : Nat) : (Builtin.zeroCells z n).toList = (List.replicate n z.toList).flatten := Q3K z n
theorem Q6a {m : Mem} {t : Ty} {x : t.den} {cs : List Value} (h : DRel m t x cs) (n : Nat) : DRel m (.arr n t) (List.replicate n x) ((List.replicate n cs).flatten) := by
 have hl := h.length
 refine ⟨by simp, by simp [hl], fun i hi => ?_⟩
 rw [Q2M _ _ hl n i hi, Q5l _ _ _ _ hi]
 exact h
theorem Qg7 {m : Mem} {μ : LMap} {P : Program} {T : TypeId} {z : AVal} {t : Ty} {d : t.den} (h : Q5u P T = some z) (hd : Q2z t z = some d) :
  ∃ i v, P.info? T = some i ∧ i.zero = some v ∧ DRel m t d v.cells.toList := by
 obtain ⟨i, v, h1, h2, h3⟩ := Q7x (m := m) (μ := μ) h
 exact ⟨i, v, h1, h2, (Q33 (m := m) (μ := μ) hd).2 h3⟩
end Go.Am
namespace Go.Am
open Go
theorem QbP {n : Int} (h0 : 0 ≤ n) (h1 : n ≤ 140737488355328) : IntKind.i64.wrap n = n := by
 have e : n % 18446744073709551616 = n := Int.emod_eq_of_lt h0 (by omega)
 simp only [IntKind.wrap, IntKind.bits, IntKind.signed]
 simp [e]
 omega
theorem Q84 {P : Program} (b : Nat) (w : World) : (askRoom b).run P w = .ok () w := by
 unfold askRoom; split <;> rfl
theorem Q82 {i : TypeInfo} {t : Ty} (h : Q8I i t = true) : ∃ z, i.zero = some z ∧ z.cells.toList = Q3q t := by
 unfold Q8I at h
 split at h
 ·exact ⟨_, ‹_›, QaQ h⟩
 ·cases h
theorem Q58 {P : Program} {T : TypeId} {i : TypeInfo} (h : P.info? T = some i) : Q20 P T = some i.size := by
 unfold Q20; rw [h]; rfl
theorem Q8n {P : Program} {m : Mem} {μ : LMap} {H : Heap} {w : World} {T : TypeId} {l c : AVal} {vl vc : Value} {r : Res} (rh : RH m μ H w) (hl : VRel m μ l vl) (hc : VRel m μ c vc) (h : Q3N P H T l c = some r) (hvc : r.vc = true) :
  ∃ u w' μ', (Instr.makeSlice T vl vc).run P w = .ok u w' ∧ VRel m μ' r.v u ∧ Post m μ H w m μ' r.H w' := by
 unfold Q3N at h
 split at h
 ·rename_i e k1 n1 k2 n2 hu
  have e1 := hl.one rfl rfl
  have e2 := hc.one rfl rfl
  cases e1; cases e2
  split at h
  ·rename_i t i ht hi
   split at h
   ·rename_i hok
    cases h
    simp only [Bool.and_eq_true, beq_iff_eq, bne_iff_ne] at hok
    obtain ⟨⟨hs, hb⟩, hz⟩ := hok
    simp only [Bool.and_eq_true, decide_eq_true_eq, Nat.ble_eq] at hvc
    obtain ⟨⟨h0, h1⟩, h2⟩ := hvc
    obtain ⟨z, hz1, hz2⟩ := Q82 hz
    have hb1 : 1 ≤ i.bytes := Nat.pos_of_ne_zero hb
    have hcb : n2.toNat ≤ n2.toNat * i.bytes := Nat.le_mul_of_pos_right _ hb1
    have w1 := QbP h0 (by omega : n1 ≤ 140737488355328)
    have w2 := QbP (by omega : 0 ≤ n2) (by omega : n2 ≤ 140737488355328)
    have hzs : z.cells.size = t.size := by
     have := (Q2U m t).length
     rw [← hz2, Array.length_toList] at this; exact this
    have hnl : ¬ (i.bytes : Int) * n2 > 2 ^ 48 := by
     have : (i.bytes : Int) * n2 = ((n2.toNat * i.bytes : Nat) : Int) := by
      rw [Int.natCast_mul, Int.toNat_of_nonneg (by omega), Int.mul_comm]
     rw [this]; omega
    have harr1 : (Array.range (n2.toNat * t.size)).map (fun j => z.cells[j % z.cells.size]!) = ((List.replicate n2.toNat (Q3q t)).flatten).toArray := by
     apply Array.ext'
     rw [← hzs, Q3K, hz2]
    have harr0 : n2.toNat * t.size = 0 → (Array.range (n2.toNat * t.size)).map (fun j => (#[] : Array Value)[j % (#[] : Array Value).size]!) = ((List.replicate n2.toNat (Q3q t)).flatten).toArray := by
     intro hn0
     have : (List.replicate n2.toNat (Q3q t)).flatten = [] := List.eq_nil_of_length_eq_zero (by simp [(Q2U m t).length, hn0])
     rw [this, hn0]; simp
    have hrel := Q6a (Q2U m t) n2.toNat
    have hlen := hrel.length
    have hsub := Q4w (off := 0) (k := n1.toNat) hrel (by omega)
    simp only [Nat.zero_mul, List.drop_zero, List.take_replicate, Nat.min_eq_left (show n1.toNat ≤ n2.toNat by omega)] at hsub
    have hmul : n1.toNat * t.size ≤ n2.toNat * t.size := Nat.mul_le_mul_right _ (by omega)
    have hp := rh.push (a := .vec t (List.replicate n1.toNat t.zero)) (cs := ((List.replicate n2.toNat (Q3q t)).flatten).toArray) (E := e) (fz := (0, 0)) (dr := w.drawn)
     (by simp only [AVal.sh, Sh.size, List.length_replicate, List.size_toArray]; simp only [Ty.size] at hlen; omega) (fun j _ h => by omega)
     (by simp only [AVal.sh, Sh.size, List.length_replicate]; show DRel m (.arr _ t) _ _; rw [List.length_replicate]; exact hsub) (fun h => Q7v ht h)
    refine ⟨.slice (some ⟨w.heap.size, 0, none⟩) n1.toNat n2.toNat, _, _, ?_, ?_, hp⟩
    ·simp only [Instr.makeSlice, run_bind, QV hu, asInt, asIntOf, Q1e, Q45 hi, w1, w2]
     rw [if_neg]
     ·simp only [run_bind, Q84, Q1E (Q58 hi), hs]
      rw [QaK]
      split
      ·rename_i hn0
       simp only [run_bind, Q1e, Q4f]
       rw [harr0 hn0]
      ·simp only [run_bind, Q1e, Q2T hi hz1, Q4f]
       rw [harr1]
     ·simp only [Bool.or_eq_true, decide_eq_true_eq, not_or]
      refine ⟨⟨⟨by omega, hnl⟩, by omega⟩, by omega⟩
    ·have := Q8w (m := m) (μ := μ) (H := H) (w := w) (t := t) (n := n1.toNat) (cap := n2.toNat) (cs := ((List.replicate n2.toNat (Q3q t)).flatten).toArray) (E := e) (by omega) (by simp only [List.size_toArray]; simp only [Ty.size] at hlen; omega)
     simp only [AVal.sh, List.length_replicate]
     exact this
   ·cases h
  ·cases h
 ·cases h
theorem Q6t {m : Mem} {t : Ty} {a b : Nat} {xs ys : List t.den} {cs ds : List Value} (h1 : DRel m (.arr a t) xs cs) (h2 : DRel m (.arr b t) ys ds) : DRel m (.arr (a + b) t) (xs ++ ys) (cs ++ ds) := by
 simp only [DRel] at *
 obtain ⟨a1, a2, a3⟩ := h1
 obtain ⟨b1, b2, b3⟩ := h2
 refine ⟨by simp [a1, b1], by simp [a2, b2, Nat.add_mul], fun i hi => ?_⟩
 rcases Nat.lt_or_ge i a with h | h
 ·have hm : (i + 1) * t.size ≤ a * t.size := Nat.mul_le_mul_right _ h
  rw [Nat.add_mul] at hm
  rw [List.drop_append_of_le_length (by omega), List.take_append_of_le_length (by simp; omega)]
  rw [List.getD_eq_getElem?_getD, List.getElem?_append_left (by omega), ← List.getD_eq_getElem?_getD]
  exact a3 i h
 ·rw [List.getD_eq_getElem?_getD, List.getElem?_append_right (by omega), ← List.getD_eq_getElem?_getD, a1]
  have hm : a * t.size ≤ i * t.size := Nat.mul_le_mul_right _ h
  rw [List.drop_append, List.drop_eq_nil_of_le (by omega), List.nil_append, a2, ← Nat.sub_mul]
  exact b3 (i - a) (by omega)
theorem Q9a {P : Program} {m : Mem} {μ : LMap} {H : Heap} {w : World} {e : TypeId} {i : TypeInfo} {t : Ty} {xs ys : List t.den} {z : Value} {base : Option Addr} {n sCap : Nat} {old new : Array Value} (dr : Nat) (rh : RH m μ H w) (hz : i.zero = some z) (hi : P.info? e = some i)
  (hs : i.size = t.size) (hold : DRel m (.arr xs.length t) xs old.toList) (hnew : DRel m (.arr ys.length t) ys new.toList) (newCap : Nat) (hcap : xs.length + ys.length ≤ newCap) (hzs : z.cells.size = t.size) (hvb : ∀ xs : List t.den, (AVal.vec t xs).isVb = true → e = 5) :
  VRel m (fun j => if j = H.length then some ⟨w.heap.size, 0, .arr (xs.length + ys.length) t, (old ++ new ++ Builtin.zeroCells z.cells (newCap - (xs.length + ys.length))).size, e⟩ else μ j) (.vsl H.length) (.slice (some ⟨w.heap.size, 0, none⟩) (xs.length + ys.length) newCap) ∧
  Post m μ H w m (fun j => if j = H.length then some ⟨w.heap.size, 0, .arr (xs.length + ys.length) t, (old ++ new ++ Builtin.zeroCells z.cells (newCap - (xs.length + ys.length))).size, e⟩ else μ j) (H ++ [some (.vec t (xs ++ ys))])
   { w with heap := w.heap.push (.cells (old ++ new ++ Builtin.zeroCells z.cells (newCap - (xs.length + ys.length))) e), drawn := dr } := by
 have hboth := Q6t hold hnew
 have hl := hboth.length
 simp only [Ty.size, List.length_append, Array.length_toList] at hl
 have hzc : (Builtin.zeroCells z.cells (newCap - (xs.length + ys.length))).size = (newCap - (xs.length + ys.length)) * t.size := by
  rw [← Array.length_toList, Q8P]
  simp [hzs]
 have htot : (old ++ new ++ Builtin.zeroCells z.cells (newCap - (xs.length + ys.length))).size = newCap * t.size := by
  simp only [Array.size_append, hzc]
  rw [Nat.sub_mul]
  have : (xs.length + ys.length) * t.size ≤ newCap * t.size := Nat.mul_le_mul_right _ hcap
  omega
 have hmul : (xs.length + ys.length) * t.size ≤ newCap * t.size := Nat.mul_le_mul_right _ hcap
 have hp := rh.push (a := .vec t (xs ++ ys)) (cs := old ++ new ++ Builtin.zeroCells z.cells (newCap - (xs.length + ys.length))) (E := e) (fz := (0, 0)) (dr := dr)
  (by simp only [AVal.sh, Sh.size, List.length_append]; omega) (fun j _ h => by omega)
  (by
   simp only [AVal.sh, Sh.size, List.length_append, Array.toList_append]
   rw [List.take_append_of_le_length (by simp only [List.length_append, Array.length_toList]; omega), List.take_of_length_le (by simp only [List.length_append, Array.length_toList]; omega)]
   show DRel m (.arr _ t) _ _
   rw [List.length_append]; exact hboth) (hvb _)
 simp only [AVal.sh, List.length_append] at hp
 refine ⟨?_, hp⟩
 exact Q8w (m := m) (μ := μ) (H := H) (w := w) (t := t) (n := xs.length + ys.length) (cap := newCap) hcap (by omega)
end Go.Am
namespace Go.Am
open Go
section
variable {P : Program} {w : World} {S X : TypeId} {ats : Array TypeId} {as : Array Value} {e : TypeId} {i : TypeInfo} {base : Option Addr} {sLen sCap n : Nat} {x : Value} {d : TypeDesc} {new : Array Value}
theorem Q2R (ty : TypeId) (hS : ats[0]? = some S) (hX : ats[1]? = some X) (ha0 : as[0]? = some (.slice base sLen sCap)) (ha1 : as[1]? = some x) (hu : P.underlying S = some (.slice e)) (hd : P.underlying X = some d) (hni : ∀ k, d ≠ .int k)
  (hi : P.info? e = some i) (hn : (Builtin.lenOf x).run P w = .ok n w) (hf : (Builtin.firstCells i.size n x).run P w = .ok new w) (hroom : sLen + n ≤ sCap) {w' : World}
  (hst : (match base with | some a => storeCells (a.add (sLen * i.size)) new.toList | none => pure () : Sem Unit).run P w = .ok () w') :
  (Builtin.append_ ats ty as).run P w = .ok (.slice base (sLen + n) sCap) w' := by
 have hz : (match d with | .int _ => true | _ => false) = false := by cases d <;> first | rfl | exact absurd rfl (hni _)
 unfold Builtin.append_
 simp only [hS, hX, ha0, ha1, run_bind, QV hu, Q1E (Q58 hi), QV hd, Q1e, hz, Bool.false_eq_true, if_false, hn, hroom, if_true, Bool.not_false, hf]
 cases base with
 | none => simp only [Q1e] at hst ⊢; cases hst; rfl
 | some a => simp only [run_bind, hst] at hst ⊢; rfl
theorem Q5G (ty : TypeId) {z : Value} {old : Array Value} (hS : ats[0]? = some S) (hX : ats[1]? = some X) (ha0 : as[0]? = some (.slice base sLen sCap)) (ha1 : as[1]? = some x) (hu : P.underlying S = some (.slice e)) (hd : P.underlying X = some d) (hni : ∀ k, d ≠ .int k)
  (hi : P.info? e = some i) (hz : i.zero = some z) (hn : (Builtin.lenOf x).run P w = .ok n w) (hf : (Builtin.firstCells i.size n x).run P { w with drawn := w.drawn + 1 } = .ok new { w with drawn := w.drawn + 1 })
  (ho : (Builtin.firstCells i.size sLen (.slice base sLen sCap)).run P { w with drawn := w.drawn + 1 } = .ok old { w with drawn := w.drawn + 1 }) (hroom : ¬ (sLen + n ≤ sCap)) (hb : i.bytes ≠ 0) (hfit : (sLen + n) * i.bytes ≤ 140737488355328) :
  ∃ newCap dr, sLen + n ≤ newCap ∧ (Builtin.append_ ats ty as).run P w = .ok (.slice (some ⟨w.heap.size, 0, none⟩) (sLen + n) newCap)
   { w with heap := w.heap.push (.cells (old ++ new ++ Builtin.zeroCells z.cells (newCap - (sLen + n))) e), drawn := dr } := by
 have hzz : (match d with | .int _ => true | _ => false) = false := by cases d <;> first | rfl | exact absurd rfl (hni _)
 refine ⟨(Question.appendCap (sLen + n) sCap e).cut (w.tape w.drawn (.appendCap (sLen + n) sCap e)), w.drawn + 1, by simp only [Question.cut]; omega, ?_⟩
 have h48 : ¬ (Builtin.nextslicecap (sLen + n) sCap * i.bytes > 2 ^ 48) := by
  have := Go.growslice_fits (need := sLen + n) (old := sCap) (bytes := i.bytes) (by omega) hfit
  omega
 have hch : (choose (.appendCap (sLen + n) sCap e)).run P w = .ok ((Question.appendCap (sLen + n) sCap e).cut (w.tape w.drawn (.appendCap (sLen + n) sCap e))) { w with drawn := w.drawn + 1 } := rfl
 unfold Builtin.append_
 simp only [hS, hX, ha0, ha1, run_bind, QV hu, Q1E (Q58 hi), QV hd, Q1e, hzz, Bool.false_eq_true, if_false, hn, hroom, Q45 hi, hb, or_self, and_false, h48, false_or]
 simp only [hch, Q84, Bool.not_false, if_true, ho, hf, Q2T hi hz, Q4f]
end
theorem Qc6 {m : Mem} {μ : LMap} {H : Heap} {t : Ty} {b : Nat} {base : Option Addr} : CRel m (fun j => if j = H.length then some ⟨b, 0, .arr 0 t, 0, 0⟩ else μ j) (.vsl H.length) [.slice base 0 0] :=
 ⟨⟨b, 0, .arr 0 t, 0, 0⟩, 0, t, base, 0, by simp, rfl, Nat.le_refl _, rfl, .inr rfl⟩
theorem Q6B {i : TypeInfo} {t : Ty} (h : Q8x i t = true) : ∃ z, i.zero = some z ∧ z.cells.size = t.size := by
 unfold Q8x at h
 split at h
 ·rw [beq_iff_eq] at h; exact ⟨_, ‹_›, h⟩
 ·cases h
theorem Q8i (cs : List Value) (p a b : Nat) (new : List Value) (hn : new.length = b) (hle : p + a + b ≤ cs.length) : ((Q1B cs (p + a) new).drop p).take (a + b) = (cs.drop p).take a ++ new := by
 unfold Q1B
 apply List.ext_getElem?
 intro i
 simp only [List.getElem?_take, List.getElem?_drop, List.getElem?_append, List.length_append, List.length_take, List.length_drop]
 by_cases h1 : i < a
 ·rw [if_pos (by omega), if_pos (by omega), if_pos (by omega), if_pos (by omega), if_pos (by omega), if_pos h1]
 ·by_cases h2 : i < a + b
  ·rw [if_pos h2, if_pos (by omega), if_neg (by omega), if_neg (by omega)]
   congr 1; omega
  ·rw [if_neg h2, if_neg (by omega), List.getElem?_eq_none (by omega)]
theorem Q6w {P : Program} {m : Mem} {μ : LMap} {H : Heap} {w : World} {S X e : TypeId} {i : TypeInfo} {d : TypeDesc} {ats : Array TypeId} {as : Array Value} {x : AVal} {v : Value} {t : Ty} {xs ys : List t.den} {ids : List Nat} {id off len cap : Nat} {l : Loc} {a : Option Addr} (ty : TypeId)
  (rh : RH m μ H w) (hS : ats[0]? = some S) (hX : ats[1]? = some X) (ha0 : as[0]? = some (.slice a len cap)) (ha1 : as[1]? = some v) (hu : P.underlying S = some (.slice e)) (hd : P.underlying X = some d) (hni : ∀ k, d ≠ .int k)
  (hi : P.info? e = some i) (hs : i.size = t.size) (hb : i.bytes ≠ 0) (hz : Q8x i t = true) (hx : VRel m μ x v) (hit : Q3j H t x = some (ys, ids)) (hH : H[id]? = some (some (.vec t xs))) (hl : μ id = some l) (hsh : l.sh = .arr xs.length t)
  (hle : off + len ≤ xs.length) (hlc : len ≤ cap) (ha : (a = some ⟨l.b, l.off + off * t.size, none⟩ ∧ l.off + (off + cap) * t.size ≤ l.tot) ∨ cap = 0) (hfit : (len + ys.length) * i.bytes ≤ 140737488355328) (hvb : ∀ xs : List t.den, (AVal.vec t xs).isVb = true → e = 5) :
  ∃ u w' μ', (Builtin.append_ ats ty as).run P w = .ok u w' ∧ VRel m μ' (.vsl H.length) u ∧ Post m μ H w m μ' (H.set id none ++ [some (.vec t ((xs.drop off).take len ++ ys))]) w' := by
 obtain ⟨z, hz1, hz2⟩ := Q6B hz
 obtain ⟨hn, hf⟩ := Q3m (P := P) rh hx hit
 have hold : ((xs.drop off).take len).length = len := by simp; omega
 have ho : l.sh.offP [] = some (0, .arr xs.length t) := by simp only [Sh.offP, hsh]
 by_cases hroom : len + ys.length ≤ cap
 ·obtain ⟨new, hf1, hf2⟩ := hf ys.length (Nat.le_refl _)
  rw [List.take_length] at hf2
  rw [← hs] at hf1
  obtain ⟨l', hblk⟩ := rh.blk id _ hH
  have : l' = l := Option.some.inj (hblk.loc.symm.trans hl)
  subst this
  have hnl := hf2.length
  simp only [Ty.size, Array.length_toList] at hnl
  rcases hblk.cells with ⟨p1, p2, p3, p4⟩ | ⟨p0, gm, cs, E, fz, g1, g2, g3, g4, g5⟩
  ·-- a block of no cells
   have hc0 : cap * t.size = 0 := by
    rcases ha with ⟨_, h2⟩ | h2
    ·rw [p1, p2] at h2
     have : cap * t.size ≤ (off + cap) * t.size := Nat.mul_le_mul_right _ (by omega)
     omega
    ·subst h2; simp
   have hn0 : (len + ys.length) * t.size = 0 := by
    have : (len + ys.length) * t.size ≤ cap * t.size := Nat.mul_le_mul_right _ hroom
    omega
   have hnew0 : new.toList = [] := List.eq_nil_of_length_eq_zero (by
    rw [Array.length_toList, hnl]
    have : ys.length * t.size ≤ (len + ys.length) * t.size := Nat.mul_le_mul_right _ (by omega)
    omega)
   have hrel : DRel m (.arr (len + ys.length) t) ((xs.drop off).take len ++ ys) [] := by
    have h1 := Q4w (off := off) (k := len) (show DRel m (.arr xs.length t) xs [] from p4) hle
    rw [hnew0] at hf2
    have h2 := Q6t h1 hf2
    simpa using h2
   have hp := (RH.kill rh id).trans ((RH.kill rh id).rh.phantom (a := .vec t ((xs.drop off).take len ++ ys)) (by simp only [AVal.sh, Sh.size, List.length_append, hold]; exact hn0)
    (by show DRel m (.arr _ t) _ _; rw [List.length_append, hold]; exact hrel) l'.b)
   simp only [List.length_set] at hp
   refine ⟨.slice a (len + ys.length) cap, w, _, ?_, ?_, hp⟩
   ·refine Q2R ty hS hX ha0 ha1 hu hd hni hi hn hf1 hroom ?_
    rw [hnew0]
    cases a <;> rfl
   ·refine ⟨⟨l'.b, 0, (AVal.vec t ((xs.drop off).take len ++ ys)).sh, 0, 0⟩, len + ys.length, t, a, cap, by simp, by simp only [AVal.sh, List.length_append, hold], hroom, rfl, ?_⟩
    rcases ha with ⟨h1, h2⟩ | h2
    ·-- an element has no cell
     rcases Nat.eq_zero_or_pos cap with hc | hc
     ·exact .inr hc
     ·refine .inl ⟨?_, by rw [hc0]; simp⟩
      have ht0 : t.size = 0 := by
       rcases Nat.mul_eq_zero.1 hc0 with h | h
       ·omega
       ·exact h
      rw [h1, p2, ht0]; simp
    ·exact .inr h2
  ·-- in place
   rcases Nat.eq_zero_or_pos cap with hc0 | hc0
   ·-- no room: nothing is appended
    have hy0 : ys = [] := List.eq_nil_of_length_eq_zero (by omega)
    have hl0 : len = 0 := by omega
    subst hy0; subst hl0; subst hc0
    have hp := (RH.kill rh id).trans ((RH.kill rh id).rh.phantom (a := .vec t ((xs.drop off).take 0 ++ [])) (by simp [AVal.sh, Sh.size]) (by show DRel m (.arr _ t) _ _; simp [DRel]) l'.b)
    simp only [List.length_set] at hp
    have hnew0 : new.toList = [] := List.eq_nil_of_length_eq_zero (by rw [Array.length_toList, hnl]; simp)
    refine ⟨.slice a 0 0, w, _, ?_, ?_, hp⟩
    ·refine Q2R ty hS hX ha0 ha1 hu hd hni hi hn hf1 hroom ?_
     rw [hnew0]
     cases a <;> rfl
    ·refine ⟨_, 0, t, a, 0, by simp; rfl, by simp [AVal.sh], Nat.le_refl _, rfl, .inr rfl⟩
   ·have ha' : a = some ⟨l'.b, l'.off + off * t.size, none⟩ ∧ l'.off + (off + cap) * t.size ≤ l'.tot := by
     rcases ha with h | h
     ·exact h
     ·omega
    obtain ⟨rfl, htot⟩ := ha'
    have hm1 : (off + cap) * t.size = off * t.size + cap * t.size := Nat.add_mul _ _ _
    have hm2 : (len + ys.length) * t.size ≤ cap * t.size := Nat.mul_le_mul_right _ hroom
    rw [Nat.add_mul] at hm2
    obtain ⟨w', cs', hr, hp, hcs⟩ := Q4h (P := P) (b := l'.b) (l'.off + off * t.size + len * t.size) new.toList 0 w cs g1 (by rw [Array.length_toList, hnl]; omega) (by rw [g2]; exact g3) hf2.flat
    have hlen' : cs'.size = cs.size := by
     rw [← Array.length_toList, hcs, Q2g (by simp; rw [hnl]; omega)]; simp
    have hrel : DRel m (.arr (len + ys.length) t) ((xs.drop off).take len ++ ys) ((cs'.toList.drop (l'.off + off * t.size)).take ((len + ys.length) * t.size)) := by
     have h1 := Q4w (off := off) (k := len) (show DRel m (.arr xs.length t) xs _ from g5) hle
     simp only [AVal.sh, Sh.size] at h1
     have hm3 : (off + len) * t.size ≤ xs.length * t.size := Nat.mul_le_mul_right _ hle
     rw [Nat.add_mul] at hm3
     rw [Q1L _ _ _ _ _ (by omega)] at h1
     have h2 := Q6t h1 hf2
     have e : ((cs'.toList.drop (l'.off + off * t.size)).take ((len + ys.length) * t.size)) = (cs.toList.drop (l'.off + off * t.size)).take (len * t.size) ++ new.toList := by
      rw [hcs, Nat.add_zero, Nat.add_mul]
      have hcl : cs.toList.length = cs.size := Array.length_toList
      exact Q8i _ _ _ _ _ (by rw [Array.length_toList, hnl]) (by omega)
     rw [e]; exact h2
    have hmv := rh.move (a' := .vec t ((xs.drop off).take len ++ ys)) (off' := l'.off + off * t.size) hH hl p0 g1 hp hlen' (by simp only [AVal.sh, Sh.size, List.length_append, hold, Nat.add_mul]; omega)
     (by simp only [AVal.sh, Sh.size]; rw [List.length_append, hold]; show DRel m (.arr _ t) _ _; rw [List.length_append, hold]; exact hrel) (fun h => by rw [Q7A _ xs] at h; exact h)
    refine ⟨.slice (some ⟨l'.b, l'.off + off * t.size, none⟩) (len + ys.length) cap, w', _, ?_, ?_, hmv⟩
    ·refine Q2R ty hS hX ha0 ha1 hu hd hni hi hn hf1 hroom ?_
     show (storeCells ((⟨l'.b, l'.off + off * t.size, none⟩ : Addr).add (len * i.size)) new.toList).run P w = _
     rw [hs, Q3Z]
     exact hr
    ·exact ⟨_, len + ys.length, t, _, cap, by simp; rfl, by simp only [AVal.sh, List.length_append, hold], hroom, rfl, .inl ⟨rfl, by show l'.off + off * t.size + cap * t.size ≤ l'.tot; omega⟩⟩
 ·-- a new row
  have rhd := (rh.drawn (w.drawn + 1)).rh
  obtain ⟨_, hfd⟩ := Q3m (P := P) rhd hx hit
  obtain ⟨new, hf1, hf2⟩ := hfd ys.length (Nat.le_refl _)
  rw [List.take_length] at hf2
  rw [← hs] at hf1
  have ha2 : a = some ⟨l.b, l.off + 0 + off * t.size, none⟩ ∨ cap = 0 := by
   rcases ha with ⟨h, _⟩ | h
   ·exact .inl (by rw [Nat.add_zero]; exact h)
   ·exact .inr h
  obtain ⟨old, ho1, ho2⟩ := Q5K (P := P) (k := len) (xs := xs) (y := .vec t xs) (off := off) rhd hH rfl hl ho (fun cs h => h) hle hlc ha2 (Nat.le_refl _)
  rw [← hs] at ho1
  obtain ⟨newCap, dr, hcap, hrun⟩ := Q5G (z := z) ty hS hX ha0 ha1 hu hd hni hi hz1 hn hf1 ho1 hroom hb hfit
  have rhk := (RH.kill rh id)
  have ho2' : DRel m (.arr ((xs.drop off).take len).length t) ((xs.drop off).take len) old.toList := by rw [hold]; exact ho2
  have key := Q9a (P := P) (e := e) (i := i) (base := a) (n := 0) (sCap := 0) dr rhk.rh hz1 hi hs ho2' hf2 newCap (by rw [hold]; exact hcap) hz2 hvb
  simp only [List.length_set, hold] at key
  exact ⟨_, _, _, hrun, key.1, rhk.trans key.2⟩
end Go.Am
namespace Go.Am
open Go
theorem QaY {P : Program} {m : Mem} {μ : LMap} {H : Heap} {w : World} {S X : TypeId} {ats : Array TypeId} {as : Array Value} {s x : AVal} {vs v : Value} {r : Res} (ty : TypeId) (rh : RH m μ H w) (hs : VRel m μ s vs) (hx : VRel m μ x v)
  (h : Q5Q P H S (some X) s x = some r) (hvc : r.vc = true) (hS : ats[0]? = some S) (hX : ats[1]? = some X) (ha0 : as[0]? = some vs) (ha1 : as[1]? = some v) :
  ∃ u w' μ', (Builtin.append_ ats ty as).run P w = .ok u w' ∧ VRel m μ' r.v u ∧ Post m μ H w m μ' r.H w' := by
 unfold Q5Q at h
 split at h
 ·cases h
 ·rename_i e d hni hu hd
  simp only [Option.bind_some] at hd
  have hni' : ∀ k, d ≠ .int k := hni
  split at h
  ·rename_i i t hi ht
   split at h
   ·rename_i hok
    simp only [Bool.and_eq_true, beq_iff_eq, bne_iff_ne] at hok
    obtain ⟨⟨hsz, hb⟩, hz⟩ := hok
    have hvb : ∀ xs : List t.den, (AVal.vec t xs).isVb = true → e = 5 := fun xs h => Q7v ht h
    cases hit : Q3j H t x with
    | none => rw [hit] at h; cases h
    | some q =>
     obtain ⟨ys, ids⟩ := q
     rw [hit] at h
     simp only [Option.bind_some] at h
     split at h
     ·cases h
      simp only [Nat.ble_eq] at hvc
      have := hs.one rfl rfl
      cases this
      obtain ⟨z, hz1, hz2⟩ := Q6B hz
      obtain ⟨hn, hf⟩ := Q3m (P := P) rh hx hit
      by_cases h0 : ys.length = 0
      ·have hy0 : ys = [] := List.eq_nil_of_length_eq_zero h0
       subst hy0
       obtain ⟨new, hf1, hf2⟩ := hf 0 (Nat.le_refl _)
       rw [← hsz] at hf1
       have hnl := hf2.length
       simp only [Ty.size, Nat.zero_mul] at hnl
       have hnew0 : new.toList = [] := List.eq_nil_of_length_eq_zero hnl
       have hp := rh.phantom (a := .vec t []) (by simp [AVal.sh, Sh.size]) (by show DRel m (.arr _ t) _ _; simp [DRel]) 0
       refine ⟨.slice none (0 + 0) 0, w, _, ?_, ?_, hp⟩
       rotate_left
       ·exact Qc6 (m := m) (μ := μ) (H := H) (t := t) (b := 0)
       refine Q2R ty hS hX ha0 ha1 hu hd hni' hi hn hf1 (Nat.le_refl _) ?_
       rfl
      ·have rhd := (rh.drawn (w.drawn + 1)).rh
       obtain ⟨_, hfd⟩ := Q3m (P := P) rhd hx hit
       obtain ⟨new, hf1, hf2⟩ := hfd ys.length (Nat.le_refl _)
       rw [List.take_length] at hf2
       rw [← hsz] at hf1
       obtain ⟨newCap, dr, hcap, hrun⟩ := Q5G (z := z) (old := #[]) ty hS hX ha0 ha1 hu hd hni' hi hz1 hn hf1 rfl (by omega) hb (by rw [Nat.zero_add]; exact hvc)
       have key := Q9a (P := P) (e := e) (i := i) (xs := ([] : List t.den)) (old := #[]) (base := none) (n := 0) (sCap := 0) dr rh hz1 hi hsz (by simp [DRel]) hf2 newCap (by simpa using hcap) hz2 hvb
       simp only [List.length_nil, Nat.zero_add, List.nil_append] at key
       simp only [Nat.zero_add] at hrun
       exact ⟨_, _, _, hrun, key.1, key.2⟩
     ·rename_i id
      split at h
      ·rename_i t' xs hH
       split at h
       ·rename_i htt
        subst htt
        cases h
        simp only [Nat.ble_eq] at hvc
        obtain ⟨l, a, cap, hl, hsh, hcap, rfl, ha⟩ := Q4V rh hH hs
        have := Q6w (off := 0) (len := xs.length) ty rh hS hX ha0 ha1 hu hd hni' hi hsz hb hz hx hit hH hl hsh (by omega) hcap (by
         rcases ha with ⟨h1, h2⟩ | h1
         ·exact .inl ⟨by simpa using h1, by simpa using h2⟩
         ·exact .inr h1) hvc hvb
        simpa using this
       ·cases h
      ·cases h
     ·rename_i id
      split at h
      ·rename_i t' xs hH
       split at h
       ·rename_i htt
        subst htt
        cases h
        simp only [Nat.ble_eq] at hvc
        obtain ⟨l, n, a, cap, hl, hsh, hcap, he, ha⟩ := hs.one rfl rfl
        cases he
        obtain ⟨l', hblk⟩ := rh.blk _ _ hH
        have hll : l' = l := Option.some.inj (hblk.loc.symm.trans hl)
        subst hll
        have hb2 := hblk.sh
        rw [hsh] at hb2
        simp only [AVal.sh, Sh.arr.injEq] at hb2
        obtain ⟨rfl, htu⟩ := hb2
        subst htu
        obtain ⟨u, w', μ', h1, h2, h3⟩ := Q6w (off := 0) (len := xs.length) ty rh hS hX ha0 ha1 hu hd hni' hi hsz hb hz hx hit hH hl hsh (by omega) hcap (by
         rcases ha with ⟨h1, _, h2⟩ | ⟨h1, _⟩
         ·exact .inl ⟨by simpa using h1, by simp only [Ty.size]; omega⟩
         ·exact .inr h1) hvc hvb
        simp only [List.drop_zero, List.take_length] at h3
        refine ⟨u, w', μ', h1, ?_, h3⟩
        obtain ⟨l2, n2, t2, a2, cap2, f1, f2, f3, f4, f5⟩ := h2.one rfl rfl
        obtain ⟨rfl, _⟩ := List.cons.inj f4
        have hnew : (H.set id none ++ [some (AVal.vec (.int .u8) (xs ++ ys))])[H.length]? = some (some (AVal.vec (.int .u8) (xs ++ ys))) := by
         rw [List.getElem?_append_right (by simp)]; simp
        obtain ⟨l3, hb3⟩ := h3.rh.blk _ _ hnew
        have : l3 = l2 := Option.some.inj (hb3.loc.symm.trans f1)
        subst this
        have hb4 := hb3.sh
        rw [f2] at hb4
        simp only [AVal.sh, Sh.arr.injEq] at hb4
        obtain ⟨rfl, rfl⟩ := hb4
        refine Q4m (a := .vbs H.length) ⟨l3, _, a2, cap2, f1, f2, f3, rfl, ?_⟩ rfl
        by_cases hc : cap2 = 0
        ·right
         refine ⟨hc, ?_⟩
         have h0 : (xs ++ ys).length = 0 := by omega
         rw [List.length_append] at h0
         have hy0 : ys = [] := List.eq_nil_of_length_eq_zero (by omega)
         have hx0 : xs = [] := List.eq_nil_of_length_eq_zero (by omega)
         subst hy0; subst hx0
         obtain ⟨hn, hf⟩ := Q3m (P := P) rh hx hit
         obtain ⟨new, hf1, hf2⟩ := hf 0 (Nat.le_refl _)
         have hnl := hf2.length
         simp only [Ty.size, Nat.zero_mul] at hnl
         have hnew0 : new.toList = [] := List.eq_nil_of_length_eq_zero hnl
         rw [← hsz] at hf1
         have hroom := Q2R (w' := w) ty hS hX ha0 ha1 hu hd hni' hi hn hf1 (Nat.zero_le _) (by
          rw [hnew0]
          cases a <;> rfl)
         rw [h1] at hroom
         cases hroom
         rcases ha with ⟨_, h5, _⟩ | ⟨_, h5⟩
         ·omega
         ·exact h5
        ·left
         rcases f5 with ⟨f5, f6⟩ | f5
         ·simp only [Ty.size, Nat.mul_one] at f6
          exact ⟨f5, by omega, f6⟩
         ·exact absurd f5 hc
       ·cases h
      ·cases h
     ·rename_i id off len
      split at h
      ·rename_i t' xs hH
       split at h
       ·rename_i htt
        subst htt
        cases h
        simp only [Nat.ble_eq] at hvc
        obtain ⟨l, o, n, t', a, cap, hl, ho, hle, hlc, he, ha⟩ := hs.one rfl rfl
        cases he
        simp only [Sh.offP, Option.some.injEq, Prod.mk.injEq] at ho
        obtain ⟨rfl, hsh⟩ := ho
        obtain ⟨l', hblk⟩ := rh.blk _ _ hH
        have hll : l' = l := Option.some.inj (hblk.loc.symm.trans hl)
        subst hll
        have hb2 := hblk.sh
        rw [hsh] at hb2
        cases hb2
        exact Q6w (off := off) (len := len) ty rh hS hX ha0 ha1 hu hd hni' hi hsz hb hz hx hit hH hl hsh hle hlc (by
         rcases ha with ⟨h1, h2⟩ | h1
         ·exact .inl ⟨by simpa using h1, h2 rfl⟩
         ·exact .inr h1) hvc hvb
       ·cases h
      ·cases h
     ·cases h
   ·cases h
  ·cases h
 ·cases h
theorem Q9R {cs xs : List Value} {o n q : Nat} (h : q + xs.length ≤ n) (hl : o + n ≤ cs.length) : Q1B cs o (Q1B ((cs.drop o).take n) q xs) = Q1B cs (o + q) xs := by
 have hlen : (Q1B ((cs.drop o).take n) q xs).length = n := by rw [Q2g (by simp; omega)]; simp; omega
 unfold Q1B at hlen ⊢
 rw [hlen]
 apply List.ext_getElem?
 intro i
 simp only [List.length_append, List.length_take, List.length_drop] at hlen
 simp only [List.getElem?_take, List.getElem?_drop, List.getElem?_append, List.length_append, List.length_take, List.length_drop]
 by_cases h1 : i < o
 ·rw [if_pos (by omega), if_pos (by omega), if_pos (by omega), if_pos (by omega), if_pos (by omega), if_pos (by omega)]
 ·by_cases h2 : i < o + q
  ·rw [if_pos (by omega), if_neg (by omega), if_pos (by omega), if_pos (by omega), if_pos (by omega), if_pos (by omega), if_pos (by omega), if_pos (by omega), if_pos (by omega)]
   congr 1; omega
  ·by_cases h3 : i < o + q + xs.length
   ·rw [if_pos (by omega), if_neg (by omega), if_pos (by omega), if_neg (by omega), if_pos (by omega), if_neg (by omega)]
    congr 1; omega
   ·by_cases h4 : i < o + n
    ·rw [if_pos (by omega), if_neg (by omega), if_neg (by omega), if_pos (by omega), if_neg (by omega)]
     congr 1; omega
    ·rw [if_neg (by omega), if_neg (by omega)]
     congr 1; omega
theorem Qfy {P : Program} {m : Mem} {μ : LMap} {H : Heap} {w : World} (rh : RH m μ H w) {id : Nat} {c c' x y : AVal} {p : List Nat} {l : Loc} {o q : Nat} {s : Sh} {cells : List Value} (hi : H[id]? = some (some c)) (hg : getP c p = some y)
  (hl : μ id = some l) (ho : l.sh.offP p = some (o, s)) (hq : q + cells.length ≤ s.size) (hfl : ∀ v ∈ cells, Q3D v = true) (hx : ∀ old, CRel m μ y old → CRel m μ x (Q1B old q cells)) (hs : x.sh = s) (hset : setP c p x = some c') (hvx : c'.isVb = true → c.isVb = true) :
  ∃ w', (storeCells ⟨l.b, l.off + o + q, none⟩ cells).run P w = .ok () w' ∧ Post m μ H w m μ (H.set id (some c')) w' := by
 obtain ⟨l', hb⟩ := rh.blk id c hi
 have : l' = l := Option.some.inj (hb.loc.symm.trans hl)
 subst this
 rw [hb.sh] at ho
 rcases hb.cells with ⟨p1, p2, p3, p4⟩ | ⟨p0, gm, cs, E, fz, g1, g2, g3, g4, g5⟩
 ·obtain ⟨hle, y', hy', _, hr⟩ := Q2q p4 ho
  rw [hg] at hy'; cases hy'
  have hnil : cells = [] := List.eq_nil_of_length_eq_zero (by omega)
  subst hnil
  have hx' := hx _ hr
  have e0 : Q1B ((([] : List Value).drop o).take s.size) q [] = [] := by simp [Q1B]
  rw [e0] at hx'
  obtain ⟨w', hr', hp⟩ := Qcb (P := P) rh hi hl (by rw [hb.sh]; exact ho) hx' hs hset hvx
  have : w' = w := by
   have : (storeCells (⟨l'.b, l'.off + o, none⟩ : Addr) []).run P w = .ok () w := rfl
   rw [this] at hr'; cases hr'; rfl
  subst this
  exact ⟨w', rfl, hp⟩
 ·obtain ⟨hle, y', hy', _, hr⟩ := Q2q g5 ho
  rw [hg] at hy'; cases hy'
  have hx' := hx _ hr
  have hsz : (((cs.toList.drop l'.off).take c.sh.size).drop o).take s.size = (cs.toList.drop (l'.off + o)).take s.size := Q1L _ _ _ _ _ hle
  obtain ⟨q1, q2⟩ := Q4L g5 ho hx' hs hset
  rw [Q9R hq (by simp; omega)] at q2
  obtain ⟨w', cs', hrun, hp, hcs⟩ := Q4h (P := P) (b := l'.b) (l'.off + o + q) cells 0 w cs g1 (by omega) (by rw [g2]; exact g3) hfl
  refine ⟨w', hrun, ?_⟩
  have hcl : cs.toList.length = cs.size := Array.length_toList
  have hn : cs'.size = cs.size := by
   rw [← Array.length_toList, hcs, Q2g (by omega)]; exact hcl
  refine rh.put hi hl p0 g1 hp q1 hn ?_ hvx
  rw [hcs, q1, Nat.add_zero, Q3M (by omega) (by omega) (by omega), show l'.off + o + q - l'.off = o + q from by omega]
  exact q2
theorem QcE {m : Mem} {t : Ty} {N off k : Nat} {xs ys : List t.den} {old new : List Value} (h : DRel m (.arr N t) xs old) (hn : DRel m (.arr k t) (ys.take k) new) (hle : off + k ≤ N) :
  DRel m (.arr N t) (Q2C xs off ys k) (Q1B old (off * t.size) new) ∧ (Q2C xs off ys k).length = xs.length := by
 have hnl := hn.length
 simp only [DRel] at h hn ⊢
 obtain ⟨a1, a2, a3⟩ := h
 obtain ⟨b1, b2, b3⟩ := hn
 simp only [Ty.size] at hnl
 have hm : (off + k) * t.size ≤ N * t.size := Nat.mul_le_mul_right _ hle
 rw [Nat.add_mul] at hm
 have hlen : (Q2C xs off ys k).length = xs.length := by
  simp only [Q2C, List.length_append, List.length_drop, b1]
  simp only [List.length_take]; omega
 refine ⟨⟨by rw [hlen]; exact a1, by rw [Q2g (by omega)]; exact a2, fun i hi => ?_⟩, hlen⟩
 have hmi : (i + 1) * t.size ≤ N * t.size := Nat.mul_le_mul_right _ hi
 rw [Nat.add_mul] at hmi
 have hto : (xs.take off).length = off := by simp; omega
 simp only [Q2C, List.getD_eq_getElem?_getD, List.getElem?_append, List.length_append, hto, b1]
 by_cases h1 : i < off
 ·have hm1 : (i + 1) * t.size ≤ off * t.size := Nat.mul_le_mul_right _ h1
  rw [Nat.add_mul] at hm1
  rw [if_pos (by omega), if_pos h1, List.getElem?_take, if_pos h1, Q3c (by omega) (by omega), ← List.getD_eq_getElem?_getD]
  exact a3 i hi
 ·by_cases h2 : i < off + k
  ·have hm2 : off * t.size ≤ i * t.size := Nat.mul_le_mul_right _ (by omega)
   have hm3 : (i + 1) * t.size ≤ (off + k) * t.size := Nat.mul_le_mul_right _ (by omega)
   rw [Nat.add_mul, Nat.add_mul] at hm3
   rw [if_pos h2, if_neg h1]
   have e : ((Q1B old (off * t.size) new).drop (i * t.size)).take t.size = (new.drop ((i - off) * t.size)).take t.size := by
    have h4 := Q8i old 0 (off * t.size) (k * t.size) new hnl (by omega)
    simp only [Nat.zero_add, List.drop_zero] at h4
    have h5 : ((Q1B old (off * t.size) new).drop (i * t.size)).take t.size = (((Q1B old (off * t.size) new).take (off * t.size + k * t.size)).drop (i * t.size)).take t.size := by
     rw [List.drop_take, List.take_take, Nat.min_eq_left (by omega)]
    rw [h5, h4, List.drop_append, List.drop_eq_nil_of_le (by simp; omega), List.nil_append]
    congr 2
    simp only [List.length_take]
    rw [Nat.min_eq_left (by omega), Nat.sub_mul]
   rw [e, ← List.getD_eq_getElem?_getD]
   exact b3 (i - off) (by omega)
  ·have hm2 : (off + k) * t.size ≤ i * t.size := Nat.mul_le_mul_right _ (by omega)
   rw [Nat.add_mul] at hm2
   rw [if_neg h2, List.getElem?_drop, show off + k + (i - (off + k)) = i from by omega, Q3v (by omega) (by omega), ← List.getD_eq_getElem?_getD]
   exact a3 i hi
theorem Qei {P : Program} {w w' : World} {D : TypeId} {ats : Array TypeId} {as : Array Value} {e : TypeId} {base : Option Addr} {dLen dCap n size : Nat} {x : Value} {cells : Array Value} (ty : TypeId)
  (hD : ats[0]? = some D) (ha0 : as[0]? = some (.slice base dLen dCap)) (ha1 : as[1]? = some x) (hu : P.underlying D = some (.slice e)) (hs : Q20 P e = some size) (hn : (Builtin.lenOf x).run P w = .ok n w)
  (hf : (Builtin.firstCells size (min n dLen) x).run P w = .ok cells w) (hst : (match base with | some a => storeCells a cells.toList | none => pure () : Sem Unit).run P w = .ok () w') :
  (Builtin.copy_ ats ty as).run P w = .ok (.int .i64 (min n dLen : Nat)) w' := by
 unfold Builtin.copy_
 simp only [hD, ha0, ha1, run_bind, QV hu, hn, Q1E hs]
 rw [show Nat.min n dLen = min n dLen from rfl, hf]
 cases base with
 | none => simp only [Q1e] at hst ⊢; cases hst; rfl
 | some a => simp only [run_bind] at hst ⊢; rw [hst]; rfl
theorem Qgf {α : Type} (xs : List α) (off : Nat) (ys : List α) : Q2C xs off ys 0 = xs := by simp [Q2C]
theorem QcL {P : Program} {m : Mem} {μ : LMap} {H : Heap} {w : World} {D : TypeId} {ats : Array TypeId} {as : Array Value} {d x : AVal} {vd v : Value} {r : Res} (ty : TypeId) (rh : RH m μ H w) (hd : VRel m μ d vd) (hx : VRel m μ x v)
    (h : QbK P H D d x = some r) (hD : ats[0]? = some D) (ha0 : as[0]? = some vd) (ha1 : as[1]? = some v) :
    ∃ u w' μ', (Builtin.copy_ ats ty as).run P w = .ok u w' ∧ VRel m μ' r.v u ∧ Post m μ H w m μ' r.H w' := by
  have core : ∀ {e : TypeId} {t : Ty} {ys : List t.den} {ids : List Nat} {id : Nat} {c c' y y' : AVal} {p : List Nat} {l : Loc} {o N off len cap : Nat} {xs : List t.den} {a : Option Addr}, P.underlying D = some (.slice e) → Q20 P e = some t.size → Q3j H t x = some (ys, ids) →
      vd = .slice a len cap → H[id]? = some (some c) → getP c p = some y → μ id = some l → l.sh.offP p = some (o, .arr N t) → (∀ cs, CRel m μ y cs → DRel m (.arr N t) xs cs) → off + len ≤ N → len ≤ cap →
      (a = some ⟨l.b, l.off + o + off * t.size, none⟩ ∨ cap = 0) → y'.sh = .arr N t → (∀ cs, DRel m (.arr N t) (Q2C xs off ys (min ys.length len)) cs → CRel m μ y' cs) → setP c p y' = some c' → y'.isVb = y.isVb →
      ∃ u w' μ', (Builtin.copy_ ats ty as).run P w = .ok u w' ∧ VRel m μ' (.int .i64 (min ys.length len : Nat)) u ∧ Post m μ H w m μ' (H.set id (some c')) w' := by
    intro e t ys ids id c c' y y' p l o N off len cap xs a hu hsz hit hvd hi hg hl ho hy hle hlc ha hy's hy' hset hvb
    subst hvd
    obtain ⟨hn, hf⟩ := Q3m (P := P) rh hx hit
    obtain ⟨cells, hf1, hf2⟩ := hf (min ys.length len) (by omega)
    have hcl := hf2.length
    simp only [Ty.size, Array.length_toList] at hcl
    have hm : (off + min ys.length len) * t.size ≤ N * t.size := Nat.mul_le_mul_right _ (by omega)
    rw [Nat.add_mul] at hm
    obtain ⟨w', hr, hp⟩ := Qfy (P := P) (cells := cells.toList) (q := off * t.size) rh hi hg hl ho (by simp only [Sh.size, Array.length_toList]; omega) hf2.flat
      (fun old hold => hy' _ (QcE (hy _ hold) hf2 (by omega)).1) hy's hset (Qf2 hg hset hvb)
    refine ⟨_, w', μ, Qei ty hD ha0 ha1 hu hsz hn hf1 ?_, rfl, hp⟩
    rcases ha with rfl | hc
    · exact hr
    · have hk : min ys.length len = 0 := by omega
      have hnil : cells.toList = [] := List.eq_nil_of_length_eq_zero (by rw [Array.length_toList, hcl, hk]; simp)
      rw [hnil] at hr ⊢
      have : w' = w := by
        have : (storeCells (⟨l.b, l.off + o + off * t.size, none⟩ : Addr) []).run P w = .ok () w := rfl
        rw [this] at hr; cases hr; rfl
      subst this
      cases a <;> rfl
  unfold QbK at h
  split at h
  · rename_i e hu
    split at h
    · cases h
    · rename_i id p off len
      split at h
      · rename_i c hi
        split at h
        · rename_i n t xs hg
          split at h
          · rename_i hsz
            rw [beq_iff_eq] at hsz
            cases hit : Q3j H t x with
            | none => rw [hit] at h; cases h
            | some q =>
              obtain ⟨ys, ids⟩ := q
              rw [hit] at h
              simp only [Option.bind_some] at h
              cases hset : setP c p (.arr n t (Q2C xs off ys (min ys.length len))) with
              | none => rw [hset] at h; cases h
              | some c' =>
                rw [hset] at h
                cases h
                obtain ⟨l, o, N, t', a, cap, hl, ho, hle, hlc, he, ha⟩ := hd.one rfl rfl
                cases he
                have hs := (Q3e rh hi hg hl ho).1
                cases hs
                exact core (y' := .arr n t (Q2C xs off ys (min ys.length len))) (xs := xs) hu hsz hit rfl hi hg hl ho (fun cs h => h) hle hlc (ha.imp (fun z => z.1) (fun z => z)) rfl (fun cs h => h) hset rfl
          · cases h
        · rename_i t xs hg
          split at h
          · rename_i hok
            simp only [Bool.and_eq_true, beq_iff_eq] at hok
            obtain ⟨hsz, hpe⟩ := hok
            cases hit : Q3j H t x with
            | none => rw [hit] at h; cases h
            | some q =>
              obtain ⟨ys, ids⟩ := q
              rw [hit] at h
              simp only [Option.bind_some] at h
              cases h
              have hp0 : p = [] := by cases p <;> first | rfl | (simp at hpe; done)
              subst hp0
              obtain ⟨l, o, N, t', a, cap, hl, ho, hle, hlc, he, ha⟩ := hd.one rfl rfl
              cases he
              have hs := (Q3e rh hi hg hl ho).1
              cases hs
              cases hg
              have hlen : (Q2C xs off ys (min ys.length len)).length = xs.length := by
                simp only [Q2C, List.length_append, List.length_drop, List.length_take]; omega
              exact core (y := .vec t xs) (xs := xs) (y' := .vec t (Q2C xs off ys (min ys.length len))) hu hsz hit rfl hi rfl hl ho (fun cs h => h) hle hlc (ha.imp (fun z => z.1) (fun z => z)) (by simp only [AVal.sh, hlen])
                (fun cs h => by show DRel m (.arr _ t) _ _; rw [hlen]; exact h) rfl (Q7A _ _)
          · cases h
        · cases h
      · cases h
    · rename_i id
      split at h
      · rename_i t xs hi
        split at h
        · rename_i hsz
          rw [beq_iff_eq] at hsz
          cases hit : Q3j H t x with
          | none => rw [hit] at h; cases h
          | some q =>
            obtain ⟨ys, ids⟩ := q
            rw [hit] at h
            simp only [Option.bind_some] at h
            cases h
            obtain ⟨l, a, cap, hl, hsh, hcap, rfl, ha⟩ := Q4V rh hi hd
            have hlen : (Q2C xs 0 ys (min ys.length xs.length)).length = xs.length := by
              simp only [Q2C, List.length_append, List.length_drop, List.length_take]; omega
            exact core (off := 0) (p := []) (o := 0) (N := xs.length) (y := .vec t xs) (xs := xs) (y' := .vec t (Q2C xs 0 ys (min ys.length xs.length))) hu hsz hit rfl hi rfl hl (by simp only [Sh.offP, hsh]) (fun cs h => h) (by omega) hcap
              (by rcases ha with ⟨h1, _⟩ | h1
                  · exact .inl (by simpa using h1)
                  · exact .inr h1) (by simp only [AVal.sh, hlen])
              (fun cs h => by show DRel m (.arr _ t) _ _; rw [hlen]; exact h) rfl (Q7A _ _)
        · cases h
      · cases h
    · cases h
  · cases h
end Go.Am
namespace Go.Am
open Go
theorem Q90 {α β γ : Type} (s : Sem α) (f : α → Sem β) (g : β → Sem γ) : (s.bind f).bind g = s.bind fun a => (f a).bind g := by
 induction s with
 | pure a => rfl
 | load m a k ih => simp only [Sem.bind]; congr; funext v; exact ih v
 | store m a v k ih => simp only [Sem.bind]; congr
 | new o k ih => simp only [Sem.bind]; congr; funext v; exact ih v
 | shape r k ih => simp only [Sem.bind]; congr; funext v; exact ih v
 | freeze a n k ih => simp only [Sem.bind]; congr
 | frozen a k ih => simp only [Sem.bind]; congr; funext v; exact ih v
 | getObj r k ih => simp only [Sem.bind]; congr; funext v; exact ih v
 | setObj r o k ih => simp only [Sem.bind]; congr
 | choose q k ih => simp only [Sem.bind]; congr; funext v; exact ih v
 | sys c k ih => simp only [Sem.bind]; congr; funext v; exact ih v
 | program k ih => simp only [Sem.bind]; congr; funext v; exact ih v
 | mark m k ih => simp only [Sem.bind]; congr
 | halt h => rfl
theorem Q9N {α : Type} (s : Sem α) : s.bind Sem.pure = s := by
 induction s with
 | pure a => rfl
 | load m a k ih => simp only [Sem.bind]; congr; funext v; exact ih v
 | store m a v k ih => simp only [Sem.bind]; congr
 | new o k ih => simp only [Sem.bind]; congr; funext v; exact ih v
 | shape r k ih => simp only [Sem.bind]; congr; funext v; exact ih v
 | freeze a n k ih => simp only [Sem.bind]; congr
 | frozen a k ih => simp only [Sem.bind]; congr; funext v; exact ih v
 | getObj r k ih => simp only [Sem.bind]; congr; funext v; exact ih v
 | setObj r o k ih => simp only [Sem.bind]; congr
 | choose q k ih => simp only [Sem.bind]; congr; funext v; exact ih v
 | sys c k ih => simp only [Sem.bind]; congr; funext v; exact ih v
 | program k ih => simp only [Sem.bind]; congr; funext v; exact ih v
 | mark m k ih => simp only [Sem.bind]; congr
 | halt h => rfl
theorem Q4N : LawfulMonad Sem := LawfulMonad.mk' Sem (id_map := fun x => Q9N x) (pure_bind := fun _ _ => rfl) (bind_assoc := fun s f g => Q90 s f g)
theorem Q62 {α β : Type} {P : Program} {w : World} {f : α → Sem β} {g : α → β} : ∀ (l : List α), (∀ x ∈ l, (f x).run P w = .ok (g x) w) → (l.mapM f).run P w = .ok (l.map g) w
 | [], _ => by simp only [List.mapM_nil, Q1e]; rfl
 | x :: l, h => by
  haveI := Q4N
  have ih := Q62 l (fun y hy => h y (by simp [hy]))
  simp only [List.mapM_cons, run_bind, h x (by simp), ih, Q1e]
  rfl
theorem Q9K {α β : Type} {P : Program} {w : World} {f : α → Sem β} {g : α → β} (l : Array α) (h : ∀ x ∈ l.toList, (f x).run P w = .ok (g x) w) : (l.mapM f).run P w = .ok (l.map g) w := by
 haveI := Q4N
 rw [Array.mapM_eq_mapM_toList]
 show (List.toArray <$> (l.toList.mapM f) : Sem _).run P w = _
 rw [map_eq_pure_bind]
 simp only [run_bind, Q62 l.toList h, Q1e]
 congr 1
 simp [← Array.toList_map]
theorem QbL (off : Nat) : ∀ (vs : List Value) (k : Nat) (cells : Array Value), off + k + vs.length ≤ cells.size →
  ((vs.zipIdx k).foldl (fun cs (cj : Value × Nat) => cs.setIfInBounds (off + cj.2) cj.1) cells).toList = Q1B cells.toList (off + k) vs
 | [], k, cells, _ => by simp [Q1B]
 | v :: vs, k, cells, h => by
  simp only [List.length_cons] at h
  simp only [List.zipIdx_cons, List.foldl_cons]
  rw [QbL off vs (k + 1) _ (by simp; omega), Array.toList_setIfInBounds, ← Nat.add_assoc, Q8R _ _ _ _ (by simp; omega)]
theorem Qal {place : Nat → Option (Nat × Nat)} {cells : Array Value} {i off size : Nat} {v : Value} {rest : List (Nat × Value)} (hp : place i = some (off, size)) (hv : v.cells.size = size) (hle : off + size ≤ cells.size) :
  ∃ cells', cells'.toList = Q1B cells.toList off v.cells.toList ∧ Instr.fill place cells ((i, v) :: rest) = Instr.fill place cells' rest := by
 refine ⟨v.cells.zipIdx.foldl (fun cs (cj : Value × Nat) => cs.setIfInBounds (off + cj.2) cj.1) cells, ?_, ?_⟩
 ·have := QbL off v.cells.toList 0 cells (by simp; omega)
  rw [Nat.add_zero] at this
  rw [← this]
  congr 1
  rw [← Array.foldl_toList, Array.toList_zipIdx]
 ·simp only [Instr.fill, hp]
  rw [if_neg (by simp [hv]; omega)]
def Q4O (m : Mem) (μ : LMap) : List (Nat × AVal) → List (Nat × Value) → Prop
 | [], [] => True
 | (i, x) :: l, (j, v) :: r => i = j ∧ VRel m μ x v ∧ Q4O m μ l r
 | _, _ => False
theorem Q6p {P : Program} {m : Mem} {μ : LMap} {T : TypeId} {place : Nat → Option (Nat × Nat)} (hplace : (∀ fs i f n, P.underlying T = some (.struct fs) → fs[i]? = some f → Q20 P f.type = some n → place i = some (f.offset, n)) ∧ (∀ len e n i, P.underlying T = some (.array len e) → Q20 P e = some n → place i = some (i * n, n))) :
  ∀ (parts : List (Nat × AVal)) (vals : List (Nat × Value)) (z z' : AVal) (cells : Array Value), CRel m μ z cells.toList → Q4O m μ parts vals → Q53 P T z parts = some z' →
   ∃ cells', Instr.fill place cells vals = some cells' ∧ CRel m μ z' cells'.toList ∧ z'.sh = z.sh
 | [], vals, z, z', cells, hz, hp, h => by
  cases vals with
  | cons _ _ => exact hp.elim
  | nil =>
   simp only [Q53, Option.some.injEq] at h
   subst h
   exact ⟨cells, rfl, hz, rfl⟩
 | (i, x) :: parts, vals, z, z', cells, hz, hp, h => by
  cases vals with
  | nil => exact hp.elim
  | cons jv vals =>
   obtain ⟨j, v⟩ := jv
   obtain ⟨rfl, hv, hp⟩ := hp
   have hzl := hz.length
   simp only [AVal.size, Array.length_toList] at hzl
   have one : ∀ {o n : Nat} {s : Sh} {z1 : AVal}, place i = some (o, n) → z.sh.fieldOff i = some (o, s) → n = s.size → Q2K x = true → x.sh = s → setF z i x = some z1 → Q53 P T z1 parts = some z' →
     ∃ cells', Instr.fill place cells ((i, v) :: vals) = some cells' ∧ CRel m μ z' cells'.toList ∧ z'.sh = z.sh := by
    intro o n s z1 hpl hfo hn hok hxs hset hrest
    have hc := Q44 hv hok
    have hcl := hc.length
    simp only [AVal.size, Array.length_toList] at hcl
    obtain ⟨hle, _⟩ := Q3i hz hfo
    obtain ⟨q1, q2⟩ := Q6I hz hfo hc hxs hset
    obtain ⟨cells1, hc1, hf⟩ := Qal (cells := cells) (rest := vals) (v := v) hpl (by rw [hcl, hxs, hn]) (by omega)
    rw [← hc1] at q2
    obtain ⟨cells', hf', hr', hs'⟩ := Q6p hplace parts vals z1 z' cells1 q2 hp hrest
    exact ⟨cells', by rw [hf]; exact hf', hr', by rw [hs', q1]⟩
   simp only [Q53] at h
   split at h
   ·rename_i fs hu
    split at h
    ·rename_i f o s hf hfo
     split at h
     ·rename_i hok
      simp only [Bool.and_eq_true, beq_iff_eq, decide_eq_true_eq] at hok
      obtain ⟨⟨⟨h1, h2⟩, h3⟩, h4⟩ := hok
      cases hset : setF z i x with
      | none => rw [hset] at h; cases h
      | some z1 =>
       rw [hset] at h
       simp only [Option.bind_some] at h
       exact one (by rw [hplace.1 fs i f s.size hu hf h2, h1]) hfo rfl h3 h4 hset h
     ·cases h
    ·cases h
   ·rename_i len e hu
    split at h
    ·rename_i n t xs
     split at h
     ·rename_i hin
      split at h
      ·rename_i hok
       simp only [Bool.and_eq_true, beq_iff_eq, decide_eq_true_eq] at hok
       obtain ⟨⟨h2, h3⟩, h4⟩ := hok
       cases hset : setF (.arr n t xs) i x with
       | none => rw [hset] at h; cases h
       | some z1 =>
        rw [hset] at h
        simp only [Option.bind_some] at h
        exact one (s := t.sh) (hplace.2 len e t.size i hu h2) (by simp only [AVal.sh, Sh.fieldOff]; rw [if_pos hin.1]) (by rw [Ty.sh_size]) h3 h4 hset h
      ·cases h
     ·cases h
    ·cases h
   ·cases h
theorem QbQ {P : Program} {m : Mem} {μ : LMap} {w : World} {T : TypeId} {z v : AVal} {parts : List (Nat × AVal)} {vals : Array (Nat × Value)} (hz : Q5u P T = some z) (hok : Q9D P T = true) (hp : Q4O m μ parts vals.toList) (h : Q53 P T z parts = some v) :
  ∃ u, (Instr.build T vals).run P w = .ok u w ∧ VRel m μ v u := by
 obtain ⟨i, zv, hi, hzv, hr⟩ := Q7x (m := m) (μ := μ) hz
 have agg : ∀ {d : TypeDesc}, P.underlying T = some d → (∃ fs, d = .struct fs) ∨ (∃ n e, d = .array n e) → z.isAgg = true := by
  intro d hd hcase
  unfold Q5u at hz
  rw [hi] at hz
  simp only [hzv] at hz
  simp only [absZ, hd] at hz
  rcases hcase with ⟨fs, rfl⟩ | ⟨n, e, rfl⟩
  ·simp only at hz
   exact (Q94 (m := m) (μ := μ) (fun T cs a => Q95 39 T cs a) _ _ _ hz).2
  ·simp only at hz
   cases ht : tyOf P 39 e with
   | none => rw [ht] at hz; cases hz
   | some t =>
    rw [ht] at hz
    simp only [Option.bind_some] at hz
    split at hz
    ·cases hz; rfl
    ·cases hz
 have aggsh : ∀ {a b : AVal}, a.sh = b.sh → b.isAgg = true → Q2K a = true ∨ True → a.isAgg = true := by
  intro a b hs hb _
  cases a <;> cases b <;> first | rfl | (cases hb; done) | (simp [AVal.sh] at hs; done)
 unfold Q9D at hok
 split at hok
 ·rename_i fs hu
  have hfs : ∀ f ∈ fs.toList, Q20 P f.type = some (P.cellsOf f.type) := by
   intro f hf
   have := List.all_eq_true.1 hok f hf
   obtain ⟨n, hn⟩ := Option.isSome_iff_exists.1 this
   rw [hn]
   unfold Q20 at hn
   unfold Program.cellsOf
   rw [hn]; rfl
  have hpl := Q9K (P := P) (w := w) (f := fun f : Field => (do pure (f.offset, ← sizeOf f.type) : Sem (Nat × Nat))) (g := fun f => (f.offset, P.cellsOf f.type)) fs (fun f hf => by
   simp only [run_bind, Q1E (hfs f hf)]; rfl)
  obtain ⟨cells', hf, hc, hsh⟩ := Q6p (m := m) (μ := μ) (place := fun i => (fs.map fun f => (f.offset, P.cellsOf f.type))[i]?) (T := T)
   ⟨fun fs' i f n hu' hf hn => by
    rw [hu] at hu'; cases hu'
    have hmem : f ∈ fs.toList := by
     have := Array.mem_of_getElem? hf
     simpa using this
    rw [hfs f hmem] at hn
    cases hn
    simp [Array.getElem?_map, hf], fun len e n i hu' => (by rw [hu] at hu'; cases hu')⟩ parts vals.toList z v zv.cells hr hp h
  refine ⟨.agg cells', ?_, Q5o hc (aggsh hsh (agg hu (.inl ⟨fs, rfl⟩)) (.inr trivial))⟩
  simp only [Instr.build, run_bind, Q2T hi hzv, QV hu]
  rw [hpl]
  simp only [hf]
  rfl
 ·rename_i len e hu
  obtain ⟨n, hn⟩ := Option.isSome_iff_exists.1 hok
  obtain ⟨cells', hf, hc, hsh⟩ := Q6p (m := m) (μ := μ) (place := fun i => some (i * n, n)) (T := T)
   ⟨fun fs' i f n hu' => (by rw [hu] at hu'; cases hu'), fun len' e' n' i hu' hn' => (by rw [hu] at hu'; cases hu'; rw [hn] at hn'; cases hn'; rfl)⟩ parts vals.toList z v zv.cells hr hp h
  refine ⟨.agg cells', ?_, Q5o hc (aggsh hsh (agg hu (.inr ⟨len, e, rfl⟩)) (.inr trivial))⟩
  simp only [Instr.build, run_bind, Q2T hi hzv, QV hu, Q1E hn, hf]
  rfl
 ·cases hok
end Go.Am
namespace Go.Am
open Go
theorem Q71 {m : Mem} {μ : LMap} {size : Nat} : ∀ (parts : List (Nat × AVal)) (vals : List (Nat × Value)) (z z' : AVal) (cells : Array Value), CRel m μ z cells.toList → Q4O m μ parts vals → Q37 size z parts = some z' →
   ∃ cells', Instr.fill (fun i => some (i * size, size)) cells vals = some cells' ∧ CRel m μ z' cells'.toList ∧ z'.sh = z.sh
 | [], vals, z, z', cells, hz, hp, h => by
  cases vals with
  | cons _ _ => exact hp.elim
  | nil =>
   simp only [Q37, Option.some.injEq] at h
   subst h
   exact ⟨cells, rfl, hz, rfl⟩
 | (i, x) :: parts, vals, z, z', cells, hz, hp, h => by
  cases vals with
  | nil => exact hp.elim
  | cons jv vals =>
   obtain ⟨j, v⟩ := jv
   obtain ⟨rfl, hv, hp⟩ := hp
   have hzl := hz.length
   simp only [AVal.size, Array.length_toList] at hzl
   simp only [Q37] at h
   split at h
   ·rename_i t xs
    split at h
    ·rename_i hin
     split at h
     ·rename_i hok
      simp only [Bool.and_eq_true, beq_iff_eq, decide_eq_true_eq] at hok
      obtain ⟨⟨rfl, h3⟩, h4⟩ := hok
      cases hset : setF (.vec t xs) i x with
      | none => rw [hset] at h; cases h
      | some z1 =>
       rw [hset] at h
       simp only [Option.bind_some] at h
       have hc := Q44 hv h3
       have hcl := hc.length
       simp only [AVal.size, Array.length_toList] at hcl
       have hfo : (AVal.vec t xs).sh.fieldOff i = some (i * t.size, t.sh) := by simp only [AVal.sh, Sh.fieldOff]; rw [if_pos hin]
       obtain ⟨hle, _⟩ := Q3i hz hfo
       obtain ⟨q1, q2⟩ := Q6I hz hfo hc h4 hset
       rw [Ty.sh_size] at hle
       obtain ⟨cells1, hc1, hf⟩ := Qal (place := fun i => some (i * t.size, t.size)) (cells := cells) (rest := vals) (v := v) (i := i) rfl (by rw [hcl, h4, Ty.sh_size]) (by omega)
       rw [← hc1] at q2
       obtain ⟨cells', hf', hr', hs'⟩ := Q71 parts vals z1 z' cells1 q2 hp h
       exact ⟨cells', by rw [hf]; exact hf', hr', by rw [hs', q1]⟩
     ·cases h
    ·cases h
   ·cases h
theorem Q8C {size : Nat} : ∀ (parts : List (Nat × AVal)) {z c : AVal}, Q37 size z parts = some c → c.isVb = z.isVb
 | [], z, c, h => by simp only [Q37, Option.some.injEq] at h; subst h; rfl
 | (i, x) :: rest, z, c, h => by
  cases z <;> simp only [Q37] at h <;> try (cases h; done)
  split at h
  ·split at h
   ·obtain ⟨z', h1, h2⟩ := Option.bind_eq_some_iff.1 h
    rw [Q8C rest h2, QaU h1]
   ·cases h
  ·cases h
theorem Q7n {P : Program} {m : Mem} {μ : LMap} {H : Heap} {w : World} {T e : TypeId} {i : TypeInfo} {t : Ty} {len : Nat} {c : AVal} {parts : List (Nat × AVal)} {vals : Array (Nat × Value)} (rh : RH m μ H w) (hu : P.underlying T = some (.slice e)) (hi : P.info? e = some i)
  (hs : i.size = t.size) (hz : Q8I i t = true) (ht : t.size ≠ 0) (hlen : len * t.size ≤ 16777216) (hp : Q4O m μ parts vals.toList) (h : Q37 t.size (.vec t (List.replicate len t.zero)) parts = some c) (hvb : ∀ xs : List t.den, (AVal.vec t xs).isVb = true → e = 5) :
  ∃ u w' μ', (Instr.buildSlice T len vals).run P w = .ok u w' ∧ VRel m μ' (.vsl H.length) u ∧ Post m μ H w m μ' (H ++ [some c]) w' := by
 obtain ⟨z, hz1, hz2⟩ := Q82 hz
 have hzs : z.cells.size = t.size := by
  have := (Q2U m t).length
  rw [← hz2, Array.length_toList] at this; exact this
 have hrel := Q6a (Q2U m t) len
 have hl0 := hrel.length
 simp only [Ty.size] at hl0
 have harr1 : (Array.range (len * t.size)).map (fun j => z.cells[j % z.cells.size]!) = ((List.replicate len (Q3q t)).flatten).toArray := by
  apply Array.ext'
  rw [← hzs, Q3K, hz2]
 have harr0 : len * t.size = 0 → (Array.range (len * t.size)).map (fun j => (#[] : Array Value)[j % (#[] : Array Value).size]!) = ((List.replicate len (Q3q t)).flatten).toArray := by
  intro hn0
  have : (List.replicate len (Q3q t)).flatten = [] := List.eq_nil_of_length_eq_zero (by simp [(Q2U m t).length, hn0])
  rw [this, hn0]; simp
 obtain ⟨cells', hf, hc, hsh⟩ := Q71 (m := m) (μ := μ) parts vals.toList (.vec t (List.replicate len t.zero)) c ((List.replicate len (Q3q t)).flatten).toArray
  (by show DRel m (.arr _ t) _ _; rw [List.length_replicate]; simpa using hrel) hp h
 have hcl := hc.length
 simp only [AVal.size, Array.length_toList] at hcl
 have hsz : c.sh = .arr len t := by rw [hsh]; simp [AVal.sh]
 have hpo := rh.push (a := c) (cs := cells') (E := e) (fz := (0, 0)) (dr := w.drawn) (by omega) (fun j _ h => by omega) (by rw [← hcl, ← Array.length_toList, List.take_length]; exact hc) (fun hq => hvb _ (by rw [← Q8C parts h]; exact hq))
 refine ⟨.slice (some ⟨w.heap.size, 0, none⟩) len len, _, _, ?_, ?_, hpo⟩
 ·simp only [Instr.buildSlice, run_bind, QV hu, Q1E (Q58 hi), hs]
  rw [if_neg (by omega)]
  rw [QaK]
  split
  ·rename_i hn0
   simp only [run_bind, Q1e]
   rw [harr0 hn0]
   simp only [hf, Q4f, run_bind, Q1e]
  ·simp only [run_bind, Q1e, Q2T hi hz1]
   rw [harr1]
   simp only [hf, Q4f, run_bind, Q1e]
 ·have := Q8w (m := m) (μ := μ) (H := H) (w := w) (t := t) (n := len) (cap := len) (cs := cells') (E := e) (Nat.le_refl _) (by rw [hcl, hsz]; exact Nat.le_refl _)
  rw [hsz]
  exact this
theorem QaS {P : Program} {m : Mem} {μ : LMap} {H : Heap} {w : World} {arr : TypeId} {x : AVal} {v : Value} {r : Res} (rh : RH m μ H w) (hx : VRel m μ x v)
  (h : Q6M P H arr x = some r) (hvc : r.vc = true) :
  r.H = H ∧ ∃ u, (Instr.arrayAt arr v).run P w = .ok u w ∧ VRel m μ r.v u := by
 unfold Q6M at h
 split at h
 ·rename_i n e t xs hu
  split at h
  ·cases h
  ·rename_i hn
   cases h
   simp only [decide_eq_true_eq] at hvc
   obtain ⟨a, cap, he, hcap, hd⟩ := hx.one rfl rfl
   cases he
   obtain ⟨ad, c0, rfl, hsp, hm0, _⟩ := hd 0 (by omega)
   refine ⟨rfl, .pointer (some ad), ?_, ?_⟩
   ·simp only [Instr.arrayAt, run_bind, QV hu]
    rw [if_neg (by omega)]; rfl
   ·obtain ⟨cs, hmb, _, _⟩ := Q3s hm0
    have each : ∀ i, i < xs.length → ad.off + i * t.size + t.size ≤ cs.size ∧ DRel m t (xs.getD i t.zero) ((cs.toList.drop (ad.off + i * t.size)).take t.size) := by
     intro i hi
     obtain ⟨ad', c, e, _, hm, hdi⟩ := hd i hi
     cases e
     obtain ⟨cs', hmb', hle', hc'⟩ := Q3s hm
     rw [hmb] at hmb'
     cases hmb'
     subst hc'
     exact ⟨hle', hdi⟩
    have hlast := (each (n - 1) (by omega)).1
    have hkk : n * t.size = (n - 1) * t.size + t.size := by
     rw [← Nat.succ_mul]; congr 1; omega
    refine ⟨ad, (cs.toList.drop ad.off).take (n * t.size), rfl, hsp, ?_, ?_⟩
    ·show m.cells ad.block ad.off (n * t.size) = _
     simp only [Mem.cells, hmb]
     rw [if_pos (by omega)]
    ·simp only [DRel]
     refine ⟨by simp; omega, by simp; omega, fun i hi => ?_⟩
     have hmi : (i + 1) * t.size ≤ n * t.size := Nat.mul_le_mul_right _ hi
     rw [Nat.add_mul] at hmi
     rw [Q1L _ _ _ _ _ (by omega)]
     have e1 : (xs.take n).getD i t.zero = xs.getD i t.zero := by
      simp only [List.getD_eq_getElem?_getD, List.getElem?_take, if_pos hi]
     rw [e1]
     exact (each i (by omega)).2
 ·rename_i n e id hu
  split at h
  ·rename_i t xs hi
   split at h
   ·cases h
   ·rename_i hn
    cases h
    simp only [decide_eq_true_eq] at hvc
    obtain ⟨l, a, cap, hl, hsh, hcap, rfl, ha⟩ := Q4V rh hi hx
    have ha' : a = some ⟨l.b, l.off, none⟩ := by
     rcases ha with ⟨h, _⟩ | h
     ·exact h
     ·omega
    subst ha'
    refine ⟨rfl, .pointer (some ⟨l.b, l.off, none⟩), ?_, ?_⟩
    ·simp only [Instr.arrayAt, run_bind, QV hu]
     rw [if_neg (by omega)]; rfl
    ·exact ⟨l, 0, xs.length, t, hl, by simp only [Sh.offP, hsh], by omega, by simp⟩
  ·cases h
 ·rename_i n e id p off len hu
  split at h
  ·cases h
  ·rename_i hn
   cases h
   simp only [decide_eq_true_eq] at hvc
   obtain ⟨l, o, N, t, a, cap, hl, ho, hle, hlc, he, ha⟩ := hx.one rfl rfl
   cases he
   have ha' : a = some ⟨l.b, l.off + o + off * t.size, none⟩ := by
    rcases ha with ⟨h, _⟩ | h
    ·exact h
    ·omega
   subst ha'
   refine ⟨rfl, .pointer (some ⟨l.b, l.off + o + off * t.size, none⟩), ?_, ?_⟩
   ·simp only [Instr.arrayAt, run_bind, QV hu]
    rw [if_neg (by omega)]; rfl
   ·exact ⟨l, o, N, t, hl, ho, by omega, rfl⟩
 ·cases h
theorem Qdd {m : Mem} {μ : LMap} : ∀ {s : AVal} {i : Nat} {x : AVal} {vs : List Value}, TRel m μ s vs → nthA s i = some x → ∃ v, vs[i]? = some v ∧ Q2v m μ x v
 | .pair a b, 0, x, vs, h, hn => by
  simp only [TRel] at h
  obtain ⟨v, r, rfl, hv, _⟩ := h
  simp only [nthA, Option.some.injEq] at hn
  subst hn
  exact ⟨v, rfl, hv⟩
 | .pair a b, i + 1, x, vs, h, hn => by
  simp only [TRel] at h
  obtain ⟨v, r, rfl, _, hr⟩ := h
  simp only [nthA] at hn
  obtain ⟨u, h1, h2⟩ := Qdd hr hn
  exact ⟨u, by simpa using h1, h2⟩
 | .unit, _, _, _, _, hn | .undef, _, _, _, _, hn | .int _ _, _, _, _, _, hn | .bool _, _, _, _, _, hn | .str _, _, _, _, _, hn | .nilp, _, _, _, _, hn | .ptr _ _, _, _, _, _, hn | .nils, _, _, _, _, hn
 | .sl _ _ _ _, _, _, _, _, hn | .ros _ _, _, _, _, _, hn | .rop _ _, _, _, _, _, hn | .arr _ _ _, _, _, _, _, hn | .vec _ _, _, _, _, _, hn | .vsl _, _, _, _, _, hn | .parr _ _ _ _, _, _, _, _, hn | .fn _ _, _, _, _, _, hn
 | .tup _, _, _, _, _, hn => by simp [nthA] at hn
theorem Qf5 {m : Mem} {μ : LMap} {x : AVal} {v : Value} (h : Q2v m μ x v) : VRel m μ x v := by
 cases x <;> first | exact h | exact h.elim
theorem Does.ofVal {P : Program} {m : Mem} {μ : LMap} {H H' : Heap} {w : World} {s : Sem Value} {x : AVal} (h : ∃ u w' μ', s.run P w = .ok u w' ∧ VRel m μ' x u ∧ Post m μ H w m μ' H' w') : Does P m μ H w (do pure (.value (← s))) x H' := by
 obtain ⟨u, w', μ', h1, h2, h3⟩ := h
 exact ⟨.value u, u, w', μ', by simp only [run_bind, h1]; rfl, .inl rfl, h2, h3⟩
theorem Does.ofSame {P : Program} {m : Mem} {μ : LMap} {H H' : Heap} {w : World} {s : Sem Value} {x : AVal} (rh : RH m μ H w) (h : H' = H ∧ ∃ u, s.run P w = .ok u w ∧ VRel m μ x u) : Does P m μ H w (do pure (.value (← s))) x H' := by
 obtain ⟨rfl, u, h1, h2⟩ := h
 exact Does.val rh h1 h2
theorem Qdb {m : Mem} {μ : LMap} {sl : List AVal} {a : Act} (rs : RS m μ sl a) (o : Option Operand) : Q7z m μ (o.map (Q17 sl)) (o.map a.eval) := by
 cases o with
 | none => trivial
 | some x => exact Q1i rs x
theorem Q7y {m : Mem} {μ : LMap} {sl : List AVal} {a : Act} (rs : RS m μ sl a) : ∀ (l : List (Nat × Operand)), Q4O m μ (l.map fun p => (p.1, Q17 sl p.2)) (l.map fun p => (p.1, a.eval p.2))
 | [] => trivial
 | p :: l => ⟨rfl, Q1i rs p.2, Q7y rs l⟩
theorem QbC {m : Mem} {μ : LMap} {sl : List AVal} {a : Act} (rs : RS m μ sl a) : ∀ (l : List Operand), (∀ x ∈ l, Q2K (Q17 sl x) = true ∧ (Q17 sl x).isAgg = false) →
  CRel m μ (l.foldr (fun x r => .pair (Q17 sl x) r) .unit) (l.map a.eval)
 | [], _ => rfl
 | x :: l, h => by
  have hx := h x (by simp)
  have h1 := (Q1i rs x).one hx.2 hx.1
  have h2 := QbC rs l (fun y hy => h y (by simp [hy]))
  simp only [List.foldr_cons, List.map_cons, CRel]
  have hs : (Q17 sl x).size = 1 := by rw [AVal.size, Q5N hx.2]; rfl
  rw [hs]
  exact ⟨h1, h2⟩
end Go.Am
namespace Go.Am
open Go
set_option maxHeartbeats 2000000 in
theorem Qbw {P : Program} {m : Mem} {μ : LMap} {sl : List AVal} {H : Heap} {w : World} {a : Act} {o : Oper} {r : Res} (rh : RH m μ H w) (rs : RS m μ sl a) (h : Q63 P sl H o = some r) (hvc : r.vc = true) :
  Does P m μ H w (execOp a.eval o) r.v r.H := by
 obtain ⟨dst, op, type, pos, after, guard⟩ := o
 unfold Q63 at h
 simp only at h
 split at h <;> simp only [execOp]
 ·cases h; exact Does.pureV rh (Q1i rs _)
 ·cases h; exact Does.pureV rh (Q1i rs _)
 ·rename_i c x y
  split at h
  ·rename_i t hc
   cases h
   have hv := Q1i rs c
   rw [hc] at hv
   have e' : a.eval c = .bool t := hv.isBool
   refine ⟨.value (if t then a.eval x else a.eval y), _, w, μ, ?_, .inl rfl, ?_, .refl rh⟩
   ·rw [e']; simp only [run_bind, asBool, Q1e]
   ·cases t
    ·exact Q1i rs y
    ·exact Q1i rs x
  ·cases h
 ·rename_i T
  cases hz : Q5u P T with
  | none => rw [hz] at h; cases h
  | some z =>
   rw [hz] at h
   cases h
   obtain ⟨i, zv, h1, h2, h3⟩ := Q7x (m := m) (μ := μ) hz
   have := Does.allocA T rh h3 (Qef hz) (P := P)
   obtain ⟨nx, v, w', μ', q1, q2, q3, q4⟩ := this
   refine ⟨nx, v, w', μ', ?_, q2, q3, q4⟩
   rw [← q1]
   simp only [Instr.alloc, run_bind, Q2T h1 h2]
 ·rename_i T x
  split at h
  ·rename_i hok
   cases h
   exact Does.allocA T rh (Q44 (Q1i rs x) hok) (Qa2 hok)
  ·cases h
 ·rename_i T parts
  cases hz : Q5u P T with
  | none => rw [hz] at h; cases h
  | some z =>
   rw [hz] at h
   simp only [Option.bind_some] at h
   split at h
   ·rename_i hok
    cases hb : Q53 P T z (parts.toList.map fun p => (p.1, Q17 sl p.2)) with
    | none => rw [hb] at h; cases h
    | some v =>
     rw [hb] at h
     cases h
     obtain ⟨u, h1, h2⟩ := QbQ (P := P) (m := m) (μ := μ) (w := w) (vals := parts.map fun (i, x) => (i, a.eval x)) hz hok (by simpa using Q7y rs parts.toList) hb
     exact Does.val rh h1 h2
   ·cases h
 ·rename_i T len parts
  split at h
  ·rename_i e hu
   split at h
   ·rename_i t i ht hi
    split at h
    ·rename_i hok
     simp only [Bool.and_eq_true, beq_iff_eq, bne_iff_ne, decide_eq_true_eq] at hok
     obtain ⟨⟨⟨h1, h2⟩, h3⟩, h4⟩ := hok
     cases hb : Q37 t.size (.vec t (List.replicate len t.zero)) (parts.toList.map fun p => (p.1, Q17 sl p.2)) with
     | none => rw [hb] at h; cases h
     | some c =>
      rw [hb] at h
      cases h
      exact Does.ofVal (Q7n (vals := parts.map fun (i, x) => (i, a.eval x)) rh hu hi h1 h2 h3 h4 (by simpa using Q7y rs parts.toList) hb (fun _ h => Q7v ht h))
    ·cases h
   ·cases h
  ·cases h
 ·exact Does.ofSame rh (Q9i rh (Q1i rs _) h)
 ·rename_i T x y
  obtain ⟨hv, w', h1, h2⟩ := QbG rh (Q1i rs x) (Q1i rs y) h
  refine ⟨.skip, undef, w', μ, by simp only [run_bind, h1, Q1e], .inr ⟨rfl, rfl⟩, by rw [hv]; trivial, h2⟩
 ·rename_i x
  have hv := Q1i rs x
  split at h
  ·rename_i i p hx
   cases h
   rw [hx] at hv
   obtain ⟨l, o, s, g1, g2, he⟩ := hv.one rfl rfl
   have e' : a.eval x = .pointer (some ⟨l.b, l.off + o, none⟩) := (List.cons.inj he).1
   rw [e']
   exact Does.pureV rh ⟨l, o, s, g1, g2, rfl⟩
  ·rename_i t y hx
   cases h
   rw [hx] at hv
   obtain ⟨ad, c, he, g⟩ := hv.one rfl rfl
   have e' : a.eval x = .pointer (some ad) := (List.cons.inj he).1
   rw [e']
   exact Does.pureV rh ⟨ad, c, rfl, g⟩
  ·rename_i f c hx
   cases h
   rw [hx] at hv
   obtain ⟨cap, he, g⟩ := hv.one rfl rfl
   have e' : a.eval x = .func (.func f) #[] cap := (List.cons.inj he).1
   rw [e']
   exact Does.pureV rh ⟨cap, rfl, g⟩
  ·cases h
 ·rename_i op T x y yT
  cases hb : binA P op T (Q17 sl x) (Q17 sl y) with
  | none => rw [hb] at h; cases h
  | some q =>
   rw [hb] at h
   cases h
   obtain ⟨z, h1, h2⟩ := QdR (P := P) (w := w) (xo := x) (yo := y) (Q1i rs x) (Q1i rs y) hb hvc
   exact Does.val rh h1 h2
 ·rename_i op T x
  cases hb : unA op (Q17 sl x) with
  | none => rw [hb] at h; cases h
  | some q =>
   rw [hb] at h
   cases h
   obtain ⟨u, h1, h2⟩ := Qe3 (P := P) w hb (Q1i rs x)
   exact Does.val rh h1 h2
 ·exact Does.ofVal (Q9U rh (Q1i rs _) h)
 ·exact Does.ofSame rh (QaS rh (Q1i rs _) h hvc)
 ·rename_i f first caps
  split at h
  ·rename_i hok
   cases h
   simp only [Bool.and_eq_true] at hok
   obtain ⟨h1, h2⟩ := hok
   have hf : first.map a.eval = #[] := by
    have : first = #[] := by simpa using h1
    rw [this]; simp
   rw [hf]
   refine Does.val rh (v := .func (.func f) #[] (caps.map a.eval)) rfl ⟨caps.map a.eval, rfl, ?_⟩
   have := QbC rs caps.toList (fun x hx => by
    have := List.all_eq_true.1 h2 x hx
    simp only [Bool.and_eq_true, Bool.not_eq_true'] at this
    exact this)
   simpa using this
  ·cases h
 ·exact Does.ofVal (Q8n rh (Q1i rs _) (Q1i rs _) h hvc)
 ·rename_i T x lo hi mx
  cases mx with
  | some _ => simp [Q7w] at h
  | none => exact Does.ofSame rh (Qbc rh (Q1i rs x) (Qdb rs lo) (Qdb rs hi) h hvc)
 ·exact Does.ofSame rh (Q8m rh (Q1i rs _) h)
 ·exact Does.ofSame rh (Qca (Q1i rs _) h)
 ·exact Does.ofSame rh (Q8p rh (Q1i rs _) (Q1i rs _) h hvc)
 ·exact Does.ofSame rh (Qbe (Q1i rs _) (Q1i rs _) h hvc)
 ·rename_i t i
  have hv := Q1i rs t
  split at h
  ·rename_i s hs
   rw [hs] at hv
   cases hn : nthA s i with
   | none => rw [hn] at h; cases h
   | some x =>
    rw [hn] at h
    cases h
    obtain ⟨vs, he, ht⟩ := hv
    obtain ⟨v, h1, h2⟩ := Qdd ht hn
    refine Does.val rh (v := v) ?_ (Qf5 h2)
    rw [he]
    simp only [Instr.extract]
    have : vs[i]? = some v := by simpa using h1
    rw [this]; rfl
  ·cases h
 ·rename_i b args ats
  have hA : ∀ (i : Nat) (x : Operand), args.toList[i]? = some x → (args.map a.eval)[i]? = some (a.eval x) := by
   intro i x hx
   have : args[i]? = some x := by simpa using hx
   simp [Array.getElem?_map, this]
  have hT : ∀ (i : Nat) (T : TypeId), ats.toList[i]? = some T → ats[i]? = some T := by
   intro i T hx; simpa using hx
  split at h
  ·rename_i T tl x xl h1 h2
   have := Qeb (ty := type) (ats := ats) (as := args.map a.eval) rh (Q1i rs x) h (hT 0 T (by rw [h1]; rfl)) (hA 0 x (by rw [h2]; rfl))
   exact Does.ofSame rh this
  ·rename_i S X tl s x xl h1 h2
   exact Does.ofVal (QaY (ats := ats) (as := args.map a.eval) type rh (Q1i rs s) (Q1i rs x) h hvc (hT 0 S (by rw [h1]; rfl)) (hT 1 X (by rw [h1]; rfl)) (hA 0 s (by rw [h2]; rfl)) (hA 1 x (by rw [h2]; rfl)))
  ·rename_i D tl d x xl h1 h2
   exact Does.ofVal (QcL (ats := ats) (as := args.map a.eval) type rh (Q1i rs d) (Q1i rs x) h (hT 0 D (by rw [h1]; rfl)) (hA 0 d (by rw [h2]; rfl)) (hA 1 x (by rw [h2]; rfl)))
  ·rename_i x y h2
   have hl : (args.map a.eval).toList = [a.eval x, a.eval y] := by simp [h2]
   have vx := Q1i rs x
   have vy := Q1i rs y
   split at h
   ·rename_i k p k' q hp hq
    split at h
    ·rename_i hk
     subst hk
     cases h
     rw [hp] at vx; rw [hq] at vy
     have e1 := vx.isInt
     have e2 := vy.isInt
     refine Does.val rh (v := .int k (if q < p then q else p)) ?_ rfl
     simp only [Builtin.min_, hl, e1, e2]
     rfl
    ·cases h
   ·cases h
  ·rename_i x y h2
   have hl : (args.map a.eval).toList = [a.eval x, a.eval y] := by simp [h2]
   have vx := Q1i rs x
   have vy := Q1i rs y
   split at h
   ·rename_i k p k' q hp hq
    split at h
    ·rename_i hk
     subst hk
     cases h
     rw [hp] at vx; rw [hq] at vy
     have e1 := vx.isInt
     have e2 := vy.isInt
     refine Does.val rh (v := .int k (if q > p then q else p)) ?_ rfl
     simp only [Builtin.max_, hl, e1, e2]
     rfl
    ·cases h
   ·cases h
  ·cases h
 ·cases h
end Go.Am
namespace Go.Am
open Go
theorem Qeq {sl sl2 : List AVal} {x : Operand} (h : ∀ t, x = .tmp t → sl2.getD t .undef = sl.getD t .undef) : Q17 sl2 x = Q17 sl x := by
 cases x <;> first | rfl | exact h _ rfl
theorem Q3n {P : Program} {sl sl2 : List AVal} {H : Heap} {o : Oper} (h : ∀ x ∈ o.op.operands, Q17 sl2 x = Q17 sl x) : Q63 P sl2 H o = Q63 P sl H o := by
 obtain ⟨dst, op, type, pos, after, guard⟩ := o
 have pairs : ∀ ps : Array (Nat × Operand), (∀ x, x ∈ (ps.toList.map (·.2)).toArray → Q17 sl2 x = Q17 sl x) →
   (ps.toList.map fun p => (p.1, Q17 sl2 p.2)) = (ps.toList.map fun p => (p.1, Q17 sl p.2)) := fun ps hp =>
  List.map_congr_left fun p hm => by
   rw [hp p.2 (by simp; exact ⟨p.1, by simpa using hm⟩)]
 cases op <;> simp only [Op.operands] at h <;> simp only [Q63]
 case build t ps => rw [pairs ps h]
 case buildSlice t n ps => rw [pairs ps h]
 case makeFunc fn first captured =>
  cases fn <;> try rfl
  have hc : ∀ x ∈ captured.toList, Q17 sl2 x = Q17 sl x := fun x hx => h x (by simp at hx; simp [hx])
  have h1 : (captured.toList.all fun x => Q2K (Q17 sl2 x) && !(Q17 sl2 x).isAgg) = (captured.toList.all fun x => Q2K (Q17 sl x) && !(Q17 sl x).isAgg) := by
   rw [Bool.eq_iff_iff]
   simp only [List.all_eq_true]
   exact ⟨fun g x hx => by rw [← hc x hx]; exact g x hx, fun g x hx => by rw [hc x hx]; exact g x hx⟩
  have h2 : (captured.toList.foldr (fun x r => AVal.pair (Q17 sl2 x) r) .unit) = (captured.toList.foldr (fun x r => AVal.pair (Q17 sl x) r) .unit) := by
   have : ∀ l : List Operand, (∀ x ∈ l, Q17 sl2 x = Q17 sl x) → (l.foldr (fun x r => AVal.pair (Q17 sl2 x) r) .unit) = (l.foldr (fun x r => AVal.pair (Q17 sl x) r) .unit) := by
    intro l
    induction l with
    | nil => intro _; rfl
    | cons x l ih => intro g; simp only [List.foldr_cons]; rw [g x (by simp), ih fun y hy => g y (by simp [hy])]
   exact this _ hc
  dsimp only
  rw [h1, h2]
 case slice t x lo hi mx =>
  rw [h x (by simp)]
  have g : ∀ y : Option Operand, (∀ x ∈ y.toArray, Q17 sl2 x = Q17 sl x) → y.map (Q17 sl2) = y.map (Q17 sl) := by
   intro y hy; cases y with
   | none => rfl
   | some y => simp only [Option.map_some]; rw [hy y (by simp)]
  rw [g lo fun x hx => h x (by simp at hx; simp [hx]), g hi fun x hx => h x (by simp at hx; simp [hx])]
 case call c =>
  obtain ⟨callee, args, argTypes⟩ := c
  cases callee <;> try rfl
  rename_i b
  have hc : ∀ x ∈ args.toList, Q17 sl2 x = Q17 sl x := fun x hx => h x (by simp at hx; simp [Call.operands, hx])
  revert hc
  dsimp only
  generalize args.toList = l
  intro hc
  generalize argTypes.toList = ts
  rcases l with _ | ⟨y, _ | ⟨z, _ | ⟨u, l⟩⟩⟩ <;> rcases ts with _ | ⟨S, _ | ⟨X, ts⟩⟩ <;> cases b <;> try rfl
  all_goals dsimp only
  all_goals first
   | done
   | rfl
   | (have e1 := hc _ (.head _); rw [e1]; done)
   | (have e1 := hc _ (.head _); have e2 := hc _ (.tail _ (.head _)); rw [e1, e2]; done)
   | (have e1 := hc _ (.head _); have e2 := hc _ (.tail _ (.head _)); simp only [e1, e2]; done)
 all_goals first | rfl | (simp_all; done)
end Go.Am
namespace Go.Am
open Go
def Q6e (ts : List Tmp) (sl2 sl : List AVal) : Prop := ∀ t, t ∈ ts → sl2.getD t .undef = sl.getD t .undef
def Q1Z (m : Mem) (μ : LMap) : List AVal → List Value → Prop
 | [], [] => True
 | a :: as, v :: vs => VRel m μ a v ∧ Q1Z m μ as vs
 | _, _ => False
theorem Q1Z.append {m : Mem} {μ : LMap} : ∀ {as bs : List AVal} {vs us : List Value}, Q1Z m μ as vs → Q1Z m μ bs us → Q1Z m μ (as ++ bs) (vs ++ us)
 | [], _, [], _, _, h => h
 | _ :: _, _, _ :: _, _, ⟨h1, h2⟩, h => ⟨h1, Q1Z.append h2 h⟩
 | [], _, _ :: _, _, h, _ | _ :: _, _, [], _, h, _ => h.elim
theorem Q1Z.length {m : Mem} {μ : LMap} : ∀ {as : List AVal} {vs : List Value}, Q1Z m μ as vs → vs.length = as.length
 | [], [], _ => rfl
 | _ :: _, _ :: _, ⟨_, h2⟩ => by simp [Q1Z.length h2]
 | [], _ :: _, h | _ :: _, [], h => h.elim
theorem Q1Z.get {m : Mem} {μ : LMap} : ∀ {as : List AVal} {vs : List Value}, Q1Z m μ as vs → ∀ {i : Nat} {x : AVal}, as[i]? = some x → ∃ v, vs[i]? = some v ∧ VRel m μ x v
 | [], [], _, i, x, hx => by simp at hx
 | a :: as, v :: vs, ⟨h1, h2⟩, i, x, hx => by
  cases i with
  | zero => simp only [List.getElem?_cons_zero, Option.some.injEq] at hx; subst hx; exact ⟨v, rfl, h1⟩
  | succ i => simp only [List.getElem?_cons_succ] at hx ⊢; exact Q1Z.get h2 hx
 | [], _ :: _, h, _, _, _ | _ :: _, [], h, _, _, _ => h.elim
def Came (m : Mem) (μ : LMap) (H : Heap) (w : World) (v : AVal) (H' : Heap) (e : Ending) (w' : World) : Prop :=
 ∃ u m' μ', e = .returned u ∧ VRel m' μ' v u ∧ Post m μ H w m' μ' H' w'
def Q7q (P : Program) (f : Nat) (args : List AVal) (H : Heap) (v : AVal) (H' : Heap) : Prop :=
 ∀ (m : Mem) (μ : LMap) (w : World) (vs : List Value), RH m μ H w → Q1Z m μ args vs →
  ∃ nx w1, (callFunc f vs.toArray).run P w = .ok nx w1 ∧
   ((∃ g as, nx = .enter g as ∧ Calls P g as w1 (Came m μ H w v H')) ∨ (∃ u, nx = .value u ∧ Came m μ H w v H' (.returned u) w1))
def Qd6 (P : Program) (f : Nat) (args : List AVal) (H : Heap) (v : AVal) (H' : Heap) : Eff → Prop
 | .pure => H' = H ∧ ∀ H2, Q7q P f args H2 v H2
 | .read ids => H' = H ∧ ∀ H2 : Heap, (∀ i, i ∈ ids → H2[i]? = H[i]?) → Q7q P f args H2 v H2
 | .push _ _ => False
 | .wr _ => False
 | .touch n ts => (∀ i, i < n → i ∉ ts → H'[i]? = H[i]?) ∧ Q7q P f args H v H'
 | .mut => Q7q P f args H v H'
def QI (P : Program) (f : Nat) (s : QT) : Prop :=
 ∀ {ρ : Type} (args : List AVal) (H : Heap) (k : AVal → Heap → Eff → Option ρ) (r : ρ), s.f args H k = some r → ∃ v H' e, k v H' e = some r ∧ Qd6 P f args H v H' e
def OpDo (P : Program) (o : Oper) (sl : List AVal) (H : Heap) (v : AVal) (H' : Heap) : Prop :=
 ∀ (m : Mem) (μ : LMap) (w : World) (a : Act) (Q : Exit → Act → World → Prop) (K : Act → World → Prop), RH m μ H w → RS m μ sl a →
  (∀ u w' m' μ', VRel m' μ' v u → Post m μ H w m' μ' H' w' → K (a.put o.dst u) w') → o.wp P a w K Q
def OpOK (P : Program) (ops : Array Oper) (i : Nat) (o : Oper) (sl : List AVal) (H : Heap) (v : AVal) (H' : Heap) : Prop :=
 ∀ (m : Mem) (μ : LMap) (w : World) (a : Act) (Q : Exit → Act → World → Prop) (K : Act → World → Prop), RH m μ H w → RS m μ sl a →
  (∀ u w' m' μ', VRel m' μ' v u → Post m μ H w m' μ' H' w' → K (a.put o.dst u) w') → wpOp P ops Q i K a w
def Stp (P : Program) (ops : Array Oper) (i : Nat) (o : Oper) (sl : List AVal) (H : Heap) (v : AVal) (H' : Heap) : Eff → Prop
 | .pure => H' = H ∧ ∀ sl2 H2, Q6e (o.looksAt ops) sl2 sl → OpOK P ops i o sl2 H2 v H2
 | .read ids => H' = H ∧ ∀ sl2 (H2 : Heap), Q6e (o.looksAt ops) sl2 sl → (∀ i, i ∈ ids → H2[i]? = H[i]?) → OpOK P ops i o sl2 H2 v H2
 | .push n ids => n = H.length ∧ ∃ b fr, Qdj fr ∧ dryA b = true ∧ v = fr n ∧ H' = H ++ [some b] ∧
   ∀ sl2 (H2 : Heap), Q6e (o.looksAt ops) sl2 sl → (∀ i, i ∈ ids → H2[i]? = H[i]?) → OpOK P ops i o sl2 H2 (fr H2.length) (H2 ++ [some b])
 | .wr id => id < H.length ∧ ∃ c', H' = H.set id (some c') ∧ ∀ sl2 (H2 : Heap), Q6e (o.looksAt ops) sl2 sl → H2[id]? = H[id]? → OpOK P ops i o sl2 H2 v (H2.set id (some c'))
 | .touch n ts => (∀ i, i < n → i ∉ ts → H'[i]? = H[i]?) ∧ ∀ sl2, Q6e (o.looksAt ops) sl2 sl → OpOK P ops i o sl2 H v H'
 | .mut => ∀ sl2, Q6e (o.looksAt ops) sl2 sl → OpOK P ops i o sl2 H v H'
def Qdl (P : Program) (o : Oper) (sl : List AVal) (H : Heap) (v : AVal) (H' : Heap) : Eff → Prop
 | .pure => H' = H ∧ ∀ sl2 H2, (∀ x ∈ o.op.operands, Q17 sl2 x = Q17 sl x) → OpDo P o sl2 H2 v H2
 | .read ids => H' = H ∧ ∀ sl2 (H2 : Heap), (∀ x ∈ o.op.operands, Q17 sl2 x = Q17 sl x) → (∀ i, i ∈ ids → H2[i]? = H[i]?) → OpDo P o sl2 H2 v H2
 | .push n ids => n = H.length ∧ ∃ b fr, Qdj fr ∧ dryA b = true ∧ v = fr n ∧ H' = H ++ [some b] ∧
   ∀ sl2 (H2 : Heap), (∀ x ∈ o.op.operands, Q17 sl2 x = Q17 sl x) → (∀ i, i ∈ ids → H2[i]? = H[i]?) → OpDo P o sl2 H2 (fr H2.length) (H2 ++ [some b])
 | .wr id => id < H.length ∧ ∃ c', H' = H.set id (some c') ∧ ∀ sl2 (H2 : Heap), (∀ x ∈ o.op.operands, Q17 sl2 x = Q17 sl x) → H2[id]? = H[id]? → OpDo P o sl2 H2 v (H2.set id (some c'))
 | .touch n ts => (∀ i, i < n → i ∉ ts → H'[i]? = H[i]?) ∧ ∀ sl2, (∀ x ∈ o.op.operands, Q17 sl2 x = Q17 sl x) → OpDo P o sl2 H v H'
 | .mut => ∀ sl2, (∀ x ∈ o.op.operands, Q17 sl2 x = Q17 sl x) → OpDo P o sl2 H v H'
theorem Q46 {P : Program} {o : Oper} {sl : List AVal} {H : Heap} {r : Res} (h : Q63 P sl H o = some r) (hvc : r.vc = true) : OpDo P o sl H r.v r.H := by
 intro m μ w a Q K rh rs hK
 obtain ⟨nx, v, w', μ', h1, h2, h3, h4⟩ := Qbw rh rs h hvc
 unfold Oper.wp
 rw [h1]
 rcases h2 with rfl | ⟨rfl, rfl⟩
 ·exact hK _ _ _ _ h3 h4
 ·exact hK _ _ _ _ h3 h4
theorem Qch {P : Program} {o : Oper} {sl : List AVal} {H : Heap} {r : Res} (h : Q63 P sl H o = some r) (hvc : r.vc = true) : Qdl P o sl H r.v r.H r.e := by
 have hh := Qb6 P sl H o r h
 obtain ⟨vc, v, H', e⟩ := r
 dsimp only at *
 subst hvc
 cases e with
 | pure => exact ⟨hh.1, fun sl2 H2 hs => Q46 (r := ⟨true, v, H2, .pure⟩) (by rw [Q3n hs]; exact hh.2 H2) rfl⟩
 | read ids => exact ⟨hh.1, fun sl2 H2 hs hi => Q46 (r := ⟨true, v, H2, .read ids⟩) (by rw [Q3n hs]; exact hh.2 H2 hi) rfl⟩
 | push n ids =>
  obtain ⟨h1, b, fr, h2, h3, h4, h5, h6⟩ := hh
  exact ⟨h1, b, fr, h2, h3, h4, h5, fun sl2 H2 hs hi => Q46 (r := ⟨true, fr H2.length, H2 ++ [some b], .push H2.length ids⟩) (by rw [Q3n hs]; exact h6 H2 hi) rfl⟩
 | wr id =>
  obtain ⟨h1, c', h2, h3⟩ := hh
  exact ⟨h1, c', h2, fun sl2 H2 hs hi => Q46 (r := ⟨true, v, H2.set id (some c'), .wr id⟩) (by rw [Q3n hs]; exact h3 H2 hi) rfl⟩
 | touch n ts => exact ⟨hh, fun sl2 hs => Q46 (r := ⟨true, v, H', .touch n ts⟩) (by rw [Q3n hs]; exact h) rfl⟩
 | «mut» => exact fun sl2 hs => Q46 (r := ⟨true, v, H', .mut⟩) (by rw [Q3n hs]; exact h) rfl
theorem Q9X {m : Mem} {μ : LMap} : ∀ {c : AVal} {cs : List Value}, Q6i c = true → CRel m μ c cs → Q1Z m μ (Qdw c) cs
 | .unit, cs, _, h => by simp only [CRel] at h; subst h; trivial
 | .pair a b, cs, hc, h => by
  simp only [Q6i, Bool.and_eq_true, Bool.not_eq_true'] at hc
  simp only [CRel] at h
  obtain ⟨v, hv⟩ := h.1.one hc.1
  have hs : a.size = 1 := by unfold AVal.size; rw [Q5N hc.1]; rfl
  rw [hs] at hv h
  cases cs with
  | nil => cases hv
  | cons x l =>
   rw [hv] at h
   have : v = x := by simpa using hv.symm
   subst this
   exact ⟨Q4m h.1 hc.1, Q9X hc.2 (by simpa using h.2)⟩
 | .undef, _, h, _ | .int _ _, _, h, _ | .bool _, _, h, _ | .str _, _, h, _ | .nilp, _, h, _ | .nils, _, h, _ | .ptr _ _, _, h, _ | .sl _ _ _ _, _, h, _ | .ros _ _, _, h, _ | .rop _ _, _, h, _
 | .parr _ _ _ _, _, h, _ | .arr _ _ _, _, h, _ | .vec _ _, _, h, _ | .vsl _, _, h, _ | .fn _ _, _, h, _ | .tup _, _, h, _ => by simp [Q6i] at h
theorem Qbp {m : Mem} {μ : LMap} {sl : List AVal} {a : Act} (rs : RS m μ sl a) : ∀ l : List Operand, Q1Z m μ (l.map (Q17 sl)) (l.map a.eval)
 | [] => trivial
 | x :: l => ⟨Q1i rs x, Qbp rs l⟩
theorem Q60 {P : Program} {o : Oper} {sl : List AVal} {H H' : Heap} {v : AVal} {f : Operand} {args : Array Operand} {ats : Array TypeId} {i : Nat} {caps : AVal}
  (ho : o.op = .call ⟨.value f, args, ats⟩) (hf : Q17 sl f = .fn i caps) (hc : Q6i caps = true) (h : Q7q P i (args.toList.map (Q17 sl) ++ Qdw caps) H v H') : OpDo P o sl H v H' := by
 intro m μ w a Q K rh rs hK
 have hfr := Q1i rs f
 rw [hf] at hfr
 obtain ⟨cap, h1, h2⟩ : ∃ cap : Array Value, [a.eval f] = [.func (.func i) #[] cap] ∧ CRel m μ caps cap.toList := hfr
 have h1' : a.eval f = .func (.func i) #[] cap := by simpa using h1
 obtain ⟨nx, w1, h3, h4⟩ := h m μ w (args.toList.map a.eval ++ cap.toList) rh ((Qbp rs _).append (Q9X hc h2))
 have he : execOp a.eval o = callFunc i (args.toList.map a.eval ++ cap.toList).toArray := by
  unfold execOp
  rw [ho]
  simp only [resolve, h1', Deferred.ofValue, invoke]
  show callFunc i ((#[] ++ args.map a.eval) ++ cap) = _
  congr 1
  apply Array.toList_inj.1
  simp
 unfold Oper.wp
 rw [he, h3]
 rcases h4 with ⟨g, as, rfl, h5⟩ | ⟨u, rfl, h5⟩
 ·simp only [Oper.upon]
  refine h5.mono fun e w' h6 => ?_
  obtain ⟨u, m', μ', rfl, h7, h8⟩ := h6
  exact hK _ _ _ _ h7 h8
 ·obtain ⟨u', m', μ', hu, h7, h8⟩ := h5
  cases hu
  exact hK _ _ _ _ h7 h8
theorem Q9I {ρ : Type} {C : Ctx} (hΓ : ∀ f, QI C.P f (C.Γ f)) {o : Oper} {st : St} {k : St → Eff → Option ρ} {r : ρ} (h : evOp C o st k = some r) :
  ∃ v H' e, Qdl C.P o st.sl st.H v H' e ∧ k ⟨putA st.sl o.dst v, H'⟩ e = some r := by
 unfold evOp at h
 split at h
 ·rename_i f args ats ho
  split at h
  ·rename_i i caps hf
   cases hc : Q6i caps with
   | false => rw [hc] at h; cases h
   | true =>
    rw [hc] at h
    simp only [cond_true] at h
    obtain ⟨v, H', e, h1, h2⟩ := hΓ i _ _ _ _ h
    refine ⟨v, H', e, ?_, h1⟩
    have key : ∀ sl2 : List AVal, (∀ x ∈ o.op.operands, Q17 sl2 x = Q17 st.sl x) → Q17 sl2 f = .fn i caps ∧ args.toList.map (Q17 sl2) = args.toList.map (Q17 st.sl) := by
     intro sl2 hs
     rw [ho] at hs
     refine ⟨by rw [hs f (by simp [Op.operands, Call.operands])]; exact hf, List.map_congr_left fun x hx => hs x ?_⟩
     have : x ∈ args := by simpa using hx
     simp [Op.operands, Call.operands, this]
    cases e with
    | pure => exact ⟨h2.1, fun sl2 H2 hs => Q60 ho (key sl2 hs).1 hc (by rw [(key sl2 hs).2]; exact h2.2 H2)⟩
    | read ids => exact ⟨h2.1, fun sl2 H2 hs hi => Q60 ho (key sl2 hs).1 hc (by rw [(key sl2 hs).2]; exact h2.2 H2 hi)⟩
    | push n ids => exact h2.elim
    | wr id => exact h2.elim
    | touch n ts => exact ⟨h2.1, fun sl2 hs => Q60 ho (key sl2 hs).1 hc (by rw [(key sl2 hs).2]; exact h2.2)⟩
    | «mut» => exact fun sl2 hs => Q60 ho (key sl2 hs).1 hc (by rw [(key sl2 hs).2]; exact h2)
  ·cases h
 ·split at h
  ·rename_i r' hr
   cases hv : r'.vc with
   | false => rw [hv] at h; cases h
   | true => rw [hv] at h; exact ⟨_, _, _, Qch hr hv, h⟩
  ·cases h
end Go.Am
namespace Go.Am
open Go
theorem Q4a {ops : Array Oper} {o : Oper} {sl2 sl : List AVal} (h : Q6e (o.looksAt ops) sl2 sl) : ∀ x ∈ o.op.operands, Q17 sl2 x = Q17 sl x := by
 intro x hx
 refine Qeq fun t ht => h t ?_
 subst ht
 exact List.mem_append_left _ (List.mem_filterMap.2 ⟨.tmp t, by simpa using hx, rfl⟩)
theorem Q5t {ops : Array Oper} {o : Oper} {sl2 sl : List AVal} {j d : Nat} {want : Bool} (h : Q6e (o.looksAt ops) sl2 sl) (hg : o.guard = some (j, want)) (hd : (ops[j]?).bind (·.dst) = some d) :
  sl2.getD d .undef = sl.getD d .undef := by
 refine h d ?_
 simp [Oper.looksAt, hg, hd]
theorem Qav {sl : List AVal} {d : Nat} {x : AVal} (h : sl.getD d .undef = x) (hx : x ≠ .undef) : sl[d]? = some x := by
 rw [List.getD_eq_getElem?_getD] at h
 cases hs : sl[d]? with
 | none => rw [hs] at h; exact absurd h.symm hx
 | some y => rw [hs] at h; simpa using h
theorem Q6F {m : Mem} {μ : LMap} {ops : Array Oper} {sl : List AVal} {a : Act} {j d : Nat} {b : Bool} (rs : RS m μ sl a) (hd : (ops[j]?).bind (·.dst) = some d) (h : sl.getD d .undef = .bool b) :
  yielded ops a.tmps j = some b := by
 obtain ⟨v, h1, h2⟩ := rs.rel d _ (Qav h (by simp))
 have : v = .bool b := by simpa [VRel, Q2v, AVal.isAgg, CRel] using h2
 subst this
 simp [yielded, hd, h1]
theorem QaI {m : Mem} {μ : LMap} {ops : Array Oper} {sl : List AVal} {a : Act} {j d : Nat} (rs : RS m μ sl a) (hd : (ops[j]?).bind (·.dst) = some d) (h : sl.getD d .undef = .tup .unit) :
  yielded ops a.tmps j = none := by
 obtain ⟨v, h1, h2⟩ := rs.rel d _ (Qav h (by simp))
 obtain ⟨vs, h3, h4⟩ := h2
 subst h3
 simp [yielded, hd, h1]
theorem QcS {m : Mem} {μ : LMap} : VRel m μ (.tup .unit) undef := ⟨#[], rfl, rfl⟩
theorem OpDo.ok {P : Program} {ops : Array Oper} {i : Nat} {o : Oper} {sl : List AVal} {H H' : Heap} {v : AVal} (hi : ops[i]? = some o) (h : OpDo P o sl H v H')
  (hw : ∀ (m : Mem) (μ : LMap) (a : Act), RS m μ sl a → Region.wanted o (yielded ops a.tmps) = true) : OpOK P ops i o sl H v H' := by
 intro m μ w a Q K rh rs hK
 unfold wpOp
 simp only [hi, hw m μ a rs, if_true]
 exact .inl (h m μ w a Q K rh rs hK)
theorem OpOK.skip {P : Program} {ops : Array Oper} {i : Nat} {o : Oper} {sl : List AVal} {H : Heap} (hi : ops[i]? = some o)
  (hw : ∀ (m : Mem) (μ : LMap) (a : Act), RS m μ sl a → Region.wanted o (yielded ops a.tmps) = false) : OpOK P ops i o sl H (.tup .unit) H := by
 intro m μ w a Q K rh rs hK
 unfold wpOp
 simp only [hi, hw m μ a rs, Bool.false_eq_true, if_false]
 exact hK _ _ _ _ QcS (.refl rh)
theorem Qdl.stp {P : Program} {ops : Array Oper} {i : Nat} {o : Oper} {sl : List AVal} {H H' : Heap} {v : AVal} {e : Eff} (hi : ops[i]? = some o) (h : Qdl P o sl H v H' e)
  (hw : ∀ sl2, Q6e (o.looksAt ops) sl2 sl → ∀ (m : Mem) (μ : LMap) (a : Act), RS m μ sl2 a → Region.wanted o (yielded ops a.tmps) = true) : Stp P ops i o sl H v H' e := by
 cases e with
 | pure => exact ⟨h.1, fun sl2 H2 hs => (h.2 sl2 H2 (Q4a hs)).ok hi (hw sl2 hs)⟩
 | read ids => exact ⟨h.1, fun sl2 H2 hs hx => (h.2 sl2 H2 (Q4a hs) hx).ok hi (hw sl2 hs)⟩
 | push n ids =>
  obtain ⟨h1, b, fr, h2, h3, h4, h5, h6⟩ := h
  exact ⟨h1, b, fr, h2, h3, h4, h5, fun sl2 H2 hs hx => (h6 sl2 H2 (Q4a hs) hx).ok hi (hw sl2 hs)⟩
 | wr id =>
  obtain ⟨h1, c', h2, h3⟩ := h
  exact ⟨h1, c', h2, fun sl2 H2 hs hx => (h3 sl2 H2 (Q4a hs) hx).ok hi (hw sl2 hs)⟩
 | touch n ts => exact ⟨h.1, fun sl2 hs => (h.2 sl2 (Q4a hs)).ok hi (hw sl2 hs)⟩
 | «mut» => exact fun sl2 hs => (h sl2 (Q4a hs)).ok hi (hw sl2 hs)
theorem Qek {sl : List AVal} {d : Nat} {x : AVal} (h : sl.getD d .undef = x) (hx : x ≠ .undef) : sl.set d x = sl := by
 apply List.ext_getElem?
 intro i
 by_cases hi : d = i
 ·subst hi
  have h1 := Qav h hx
  have hl : d < sl.length := (List.getElem?_eq_some_iff.1 h1).1
  rw [List.getElem?_set_self hl, h1]
 ·rw [List.getElem?_set_ne hi]
theorem Stp.norm {P : Program} {ops : Array Oper} {i : Nat} {o : Oper} {sl : List AVal} {H H' : Heap} {v : AVal} {e : Eff} (h : Stp P ops i o sl H v H' e) : Stp P ops i o sl H v H' (e.norm H.length) := by
 cases e with
 | pure => exact h
 | read ids =>
  show Stp P ops i o sl H v H' (cond (ltB H.length ids) (.read ids) .mut)
  cases ltB H.length ids with
  | true => exact h
  | false => obtain ⟨rfl, h2⟩ := h; exact fun sl2 hs => h2 sl2 _ hs fun _ _ => rfl
 | push n ids =>
  show Stp P ops i o sl H v H' (cond (ltB H.length ids) (.push n ids) .mut)
  cases ltB H.length ids with
  | true => exact h
  | false =>
   obtain ⟨h1, b, fr, _, _, h4, h5, h6⟩ := h
   subst h1 h4 h5
   exact fun sl2 hs => h6 sl2 _ hs fun _ _ => rfl
 | touch n ts => exact h
 | wr id => exact h
 | «mut» => exact h
theorem Q92 {n : Nat} : ∀ {l : List Nat}, ltB n l = true → ∀ i, i ∈ l → i < n
 | [], _, _, hi => by simp at hi
 | a :: l, h, i, hi => by
  simp only [ltB, Bool.and_eq_true] at h
  rcases List.mem_cons.1 hi with rfl | hi
  ·simpa [Nat.blt_eq] using h.1
  ·exact Q92 h.2 i hi
def Eff.within (n : Nat) : Eff → Prop
 | .read ids => ∀ i, i ∈ ids → i < n
 | .push _ ids => ∀ i, i ∈ ids → i < n
 | _ => True
theorem Eff.norm_within (n : Nat) (e : Eff) : (e.norm n).within n := by
 cases e with
 | pure => trivial
 | read ids =>
  show (cond (ltB n ids) (.read ids) .mut : Eff).within n
  cases h : ltB n ids with
  | true => exact Q92 h
  | false => trivial
 | push m ids =>
  show (cond (ltB n ids) (.push m ids) .mut : Eff).within n
  cases h : ltB n ids with
  | true => exact Q92 h
  | false => trivial
 | touch m ts => trivial
 | wr id => trivial
 | «mut» => trivial
theorem QcF {ρ : Type} {C : Ctx} (hΓ : ∀ f, QI C.P f (C.Γ f)) {ops : Array Oper} {i : Nat} {o : Oper} (hi : ops[i]? = some o) {rest : List Oper} {st : St} {es : List Eff} {k : St → List Eff → Option ρ} {r : ρ}
  (h : Q4k C ops (o :: rest) st es k = some r) : ∃ v H' e, Stp C.P ops i o st.sl st.H v H' e ∧ e.within st.H.length ∧ Q4k C ops rest ⟨putA st.sl o.dst v, H'⟩ (e :: es) k = some r := by
 unfold Q4k at h
 cases hg : o.guard with
 | none =>
  rw [hg] at h
  obtain ⟨v, H', e, h1, h2⟩ := Q9I hΓ h
  exact ⟨v, H', _, (h1.stp hi fun sl2 _ m μ a _ => by simp [Region.wanted, hg]).norm, Eff.norm_within _ _, h2⟩
 | some gw =>
  obtain ⟨j, want⟩ := gw
  rw [hg] at h
  dsimp only at h
  cases hd : (ops[j]?).bind (·.dst) with
  | none => rw [hd] at h; cases h
  | some d =>
   rw [hd] at h
   dsimp only at h
   have yes : ∀ b, st.sl.getD d .undef = .bool b → want = b → evOp C o st (fun st' e => Q4k C ops rest st' (e.norm st.H.length :: es) k) = some r →
     ∃ v H' e, Stp C.P ops i o st.sl st.H v H' e ∧ e.within st.H.length ∧ Q4k C ops rest ⟨putA st.sl o.dst v, H'⟩ (e :: es) k = some r := by
    intro b hb hw h
    obtain ⟨v, H', e, h1, h2⟩ := Q9I hΓ h
    exact ⟨v, H', _, (h1.stp hi fun sl2 hs m μ a rs => by
     rw [Region.wanted, hg]
     simp only [Q6F rs hd ((Q5t hs hg hd).trans hb), hw, beq_self_eq_true]).norm, Eff.norm_within _ _, h2⟩
   have no : ∀ b, st.sl.getD d .undef = .bool b → want = !b → Q4k C ops rest ⟨putA st.sl o.dst (.tup .unit), st.H⟩ (.pure :: es) k = some r →
     ∃ v H' e, Stp C.P ops i o st.sl st.H v H' e ∧ e.within st.H.length ∧ Q4k C ops rest ⟨putA st.sl o.dst v, H'⟩ (e :: es) k = some r := by
    intro b hb hw h
    refine ⟨_, _, .pure, ⟨rfl, fun sl2 H2 hs => OpOK.skip hi fun m μ a rs => ?_⟩, trivial, h⟩
    rw [Region.wanted, hg]
    simp only [Q6F rs hd ((Q5t hs hg hd).trans hb), hw]
    cases b <;> rfl
   split at h
   ·rename_i b hb
    have e0 : ∀ c, b = c → st.sl.set d (.bool c) = st.sl := fun c hc => Qek (by rw [hb, hc]) (by simp)
    cases want <;> cases b <;> simp only [cond_true, cond_false] at h
    ·rw [e0 _ rfl] at h; exact yes _ hb rfl h
    ·rw [e0 _ rfl] at h; exact no _ hb rfl h
    ·rw [e0 _ rfl] at h; exact no _ hb rfl h
    ·rw [e0 _ rfl] at h; exact yes _ hb rfl h
   ·rename_i hb
    refine ⟨_, _, .pure, ⟨rfl, fun sl2 H2 hs => OpOK.skip hi fun m μ a rs => ?_⟩, trivial, h⟩
    rw [Region.wanted, hg]
    simp only [QaI rs hd ((Q5t hs hg hd).trans hb)]
    rfl
   ·cases h
def Q2F (P : Program) (ops : Array Oper) (i0 : Nat) (os : List Oper) (S : Nat → St) (V : Nat → AVal) (E : Nat → Eff) : Prop :=
 ∀ j o, os[j]? = some o → Stp P ops (i0 + j) o (S j).sl (S j).H (V j) (S (j + 1)).H (E j) ∧ (S (j + 1)).sl = putA (S j).sl o.dst (V j) ∧ (E j).within (S j).H.length
def Qdp {α : Type} (x : α) (f : Nat → α) : Nat → α
 | 0 => x
 | n + 1 => f n
theorem Q7V {ρ : Type} {C : Ctx} (hΓ : ∀ f, QI C.P f (C.Γ f)) {ops : Array Oper} {k : St → List Eff → Option ρ} {r : ρ} : ∀ (os : List Oper) (i0 : Nat) (st : St) (es : List Eff),
  (∀ j o, os[j]? = some o → ops[i0 + j]? = some o) → Q4k C ops os st es k = some r →
  ∃ S V E es', S 0 = st ∧ Q2F C.P ops i0 os S V E ∧ k (S os.length) es' = some r ∧ es'.reverse = es.reverse ++ (List.range os.length).map E
 | [], i0, st, es, _, h => ⟨fun _ => st, fun _ => .undef, fun _ => .pure, es, rfl, fun j o hj => by simp at hj, h, by simp⟩
 | o :: os, i0, st, es, hos, h => by
  obtain ⟨v, H', e, h1, hwi, h2⟩ := QcF hΓ (i := i0) (hos 0 o rfl) h
  obtain ⟨S, V, E, es', h3, h4, h5, h6⟩ := Q7V hΓ os (i0 + 1) _ _ (fun j o' hj => by
   have := hos (j + 1) o' (by simpa using hj)
   rw [← this]; congr 1; omega) h2
  refine ⟨Qdp st S, Qdp v V, Qdp e E, es', rfl, ?_, h5, ?_⟩
  ·intro j o' hj
   cases j with
   | zero =>
    simp only [List.getElem?_cons_zero, Option.some.injEq] at hj
    subst hj
    show Stp _ _ _ _ st.sl st.H v (S 0).H e ∧ (S 0).sl = _ ∧ e.within st.H.length
    rw [h3]; exact ⟨h1, rfl, hwi⟩
   | succ j =>
    have := h4 j o' (by simpa using hj)
    rw [show i0 + (j + 1) = i0 + 1 + j by omega]
    exact this
  ·rw [h6, List.length_cons, List.range_succ_eq_map]
   simp [Qdp, Function.comp_def]
theorem Qdf {m m' : Mem} {μ μ' : LMap} {sl : List AVal} {a : Act} {dst : Option Nat} {v : AVal} {u : Value} (hm : m.le m') (hμ : μ.le μ') (rs : RS m μ sl a) (hv : VRel m' μ' v u) : RS m' μ' (putA sl dst v) (a.put dst u) := by
 cases dst with
 | none => exact rs.mono hm hμ
 | some d => exact (rs.mono hm hμ).put hv
theorem Stp.now {P : Program} {ops : Array Oper} {i : Nat} {o : Oper} {sl : List AVal} {H H' : Heap} {v : AVal} {e : Eff} (h : Stp P ops i o sl H v H' e) : OpOK P ops i o sl H v H' := by
 cases e with
 | pure => obtain ⟨rfl, h⟩ := h; exact h _ _ fun _ _ => rfl
 | read ids => obtain ⟨rfl, h⟩ := h; exact h _ _ (fun _ _ => rfl) fun _ _ => rfl
 | push n ids => obtain ⟨rfl, b, fr, _, _, rfl, rfl, h⟩ := h; exact h _ _ (fun _ _ => rfl) fun _ _ => rfl
 | wr id => obtain ⟨_, c', rfl, h⟩ := h; exact h _ _ (fun _ _ => rfl) rfl
 | touch n ts => exact h.2 _ fun _ _ => rfl
 | «mut» => exact h _ fun _ _ => rfl
theorem Q8N {P : Program} {ops : Array Oper} {Q : Exit → Act → World → Prop} {S : Nat → St} {V : Nat → AVal} {E : Nat → Eff} (hc : Q2F P ops 0 ops.toList S V E) :
  ∀ (n j : Nat), j + n = ops.size → ∀ (m : Mem) (μ : LMap) (w : World) (a : Act), RH m μ (S j).H w → RS m μ (S j).sl a →
   (∀ a' w' m' μ', RS m' μ' (S ops.size).sl a' → Post m μ (S j).H w m' μ' (S ops.size).H w' → Q .normal a' w') → wpOps P ops Q (List.range' j n) a w
 | 0, j, hj, m, μ, w, a, rh, rs, hQ => by
  have : j = ops.size := by omega
  subst this
  exact hQ _ _ _ _ rs (.refl rh)
 | n + 1, j, hj, m, μ, w, a, rh, rs, hQ => by
  rw [List.range'_succ, wpOps_cons]
  have hlt : j < ops.size := by omega
  have ho : ops.toList[j]? = some ops[j] := by simp [hlt]
  obtain ⟨h1, h2, _⟩ := hc j _ ho
  rw [Nat.zero_add] at h1
  refine h1.now m μ w a Q _ rh rs fun u w' m' μ' hv hp => ?_
  refine Q8N hc n (j + 1) (by omega) m' μ' w' _ hp.rh ?_ fun a' w'' m'' μ'' hs hp' => hQ _ _ _ _ hs (hp.trans hp')
  rw [h2]
  exact Qdf hp.ml hp.μl rs hv
end Go.Am
