/- A part of a proof: a machine of abstract values that tells what functions of the program compute, and the plain facts on them. -/
import Derived.Test.YtpoofchknajlgaaAm2
import Derived.MapKept
import Derived.Laws.Small
import Derived.Test.YtpoofchknajlgaaAm1
set_option linter.unusedVariables false
set_option linter.unusedSimpArgs false
set_option linter.unnecessarySimpa false
set_option linter.unusedSectionVars false
namespace Go.Am
open Go
theorem Q8s {α β γ : Type} (s : Sem α) (f : α → Sem β) (g : β → Sem γ) : (s.bind f).bind g = s.bind fun a => (f a).bind g := by
 induction s with
 | pure a => rfl
 | load m a k ih => simp only [Sem.bind]; congr; funext v; exact ih v
 | store m a v k ih => simp only [Sem.bind]; congr
 | new o k ih => simp only [Sem.bind]; congr; funext v; exact ih v
 | shape r k ih => simp only [Sem.bind]; congr; funext v; exact ih v
 | freeze a n k ih => simp only [Sem.bind]; congr
 | frozen a k ih => simp only [Sem.bind]; congr; funext v; exact ih v
 | getObj r k ih => simp only [Sem.bind]; congr; funext v; exact ih v
 | setObj r o k ih => simp only [Sem.bind]; congr
 | choose q k ih => simp only [Sem.bind]; congr; funext v; exact ih v
 | sys c k ih => simp only [Sem.bind]; congr; funext v; exact ih v
 | program k ih => simp only [Sem.bind]; congr; funext v; exact ih v
 | mark m k ih => simp only [Sem.bind]; congr
 | halt h => rfl
theorem Q8B {α : Type} (s : Sem α) : s.bind Sem.pure = s := by
 induction s with
 | pure a => rfl
 | load m a k ih => simp only [Sem.bind]; congr; funext v; exact ih v
 | store m a v k ih => simp only [Sem.bind]; congr
 | new o k ih => simp only [Sem.bind]; congr; funext v; exact ih v
 | shape r k ih => simp only [Sem.bind]; congr; funext v; exact ih v
 | freeze a n k ih => simp only [Sem.bind]; congr
 | frozen a k ih => simp only [Sem.bind]; congr; funext v; exact ih v
 | getObj r k ih => simp only [Sem.bind]; congr; funext v; exact ih v
 | setObj r o k ih => simp only [Sem.bind]; congr
 | choose q k ih => simp only [Sem.bind]; congr; funext v; exact ih v
 | sys c k ih => simp only [Sem.bind]; congr; funext v; exact ih v
 | program k ih => simp only [Sem.bind]; congr; funext v; exact ih v
 | mark m k ih => simp only [Sem.bind]; congr
 | halt h => rfl
theorem Q3W : LawfulMonad Sem := LawfulMonad.mk' Sem (id_map := fun x => Q8B x) (pure_bind := fun _ _ => rfl) (bind_assoc := fun s f g => Q8s s f g)
theorem Q5j {α β : Type} {P : Program} {w : World} {f : α → Sem β} {g : α → β} : ∀ (l : List α), (∀ x ∈ l, (f x).run P w = .ok (g x) w) → (l.mapM f).run P w = .ok (l.map g) w
 | [], _ => by simp only [List.mapM_nil, Q0S]; rfl
 | x :: l, h => by
  haveI := Q3W
  have ih := Q5j l (fun y hy => h y (by simp [hy]))
  simp only [List.mapM_cons, run_bind, h x (by simp), ih, Q0S]
  rfl
theorem Q80 {α β : Type} {P : Program} {w : World} {f : α → Sem β} {g : α → β} (l : Array α) (h : ∀ x ∈ l.toList, (f x).run P w = .ok (g x) w) : (l.mapM f).run P w = .ok (l.map g) w := by
 haveI := Q3W
 rw [Array.mapM_eq_mapM_toList]
 show (List.toArray <$> (l.toList.mapM f) : Sem _).run P w = _
 rw [map_eq_pure_bind]
 simp only [run_bind, Q5j l.toList h, Q0S]
 congr 1
 simp [← Array.toList_map]
theorem Qal (off : Nat) : ∀ (vs : List Value) (k : Nat) (cells : Array Value), off + k + vs.length ≤ cells.size →
  ((vs.zipIdx k).foldl (fun cs (cj : Value × Nat) => cs.setIfInBounds (off + cj.2) cj.1) cells).toList = Q1d cells.toList (off + k) vs
 | [], k, cells, _ => by simp [Q1d]
 | v :: vs, k, cells, h => by
  simp only [List.length_cons] at h
  simp only [List.zipIdx_cons, List.foldl_cons]
  rw [Qal off vs (k + 1) _ (by simp; omega), Array.toList_setIfInBounds, ← Nat.add_assoc, Q7P _ _ _ _ (by simp; omega)]
theorem Q8R {place : Nat → Option (Nat × Nat)} {cells : Array Value} {i off size : Nat} {v : Value} {rest : List (Nat × Value)} (hp : place i = some (off, size)) (hv : v.cells.size = size) (hle : off + size ≤ cells.size) :
  ∃ cells', cells'.toList = Q1d cells.toList off v.cells.toList ∧ Instr.fill place cells ((i, v) :: rest) = Instr.fill place cells' rest := by
 refine ⟨v.cells.zipIdx.foldl (fun cs (cj : Value × Nat) => cs.setIfInBounds (off + cj.2) cj.1) cells, ?_, ?_⟩
 ·have := Qal off v.cells.toList 0 cells (by simp; omega)
  rw [Nat.add_zero] at this
  rw [← this]
  congr 1
  rw [← Array.foldl_toList, Array.toList_zipIdx]
 ·simp only [Instr.fill, hp]
  rw [if_neg (by simp [hv]; omega)]
def Q3R (m : Mem) (μ : LMap) : List (Nat × AVal) → List (Nat × Value) → Prop
 | [], [] => True
 | (i, x) :: l, (j, v) :: r => i = j ∧ VRel m μ x v ∧ Q3R m μ l r
 | _, _ => False
theorem Q5u {P : Program} {m : Mem} {μ : LMap} {T : TypeId} {place : Nat → Option (Nat × Nat)} (hplace : (∀ fs i f n, P.underlying T = some (.struct fs) → fs[i]? = some f → Q1q P f.type = some n → place i = some (f.offset, n)) ∧ (∀ len e n i, P.underlying T = some (.array len e) → Q1q P e = some n → place i = some (i * n, n))) :
  ∀ (parts : List (Nat × AVal)) (vals : List (Nat × Value)) (z z' : AVal) (cells : Array Value), CRel m μ z cells.toList → Q3R m μ parts vals → Q48 P T z parts = some z' →
   ∃ cells', Instr.fill place cells vals = some cells' ∧ CRel m μ z' cells'.toList ∧ z'.sh = z.sh
 | [], vals, z, z', cells, hz, hp, h => by
  cases vals with
  | cons _ _ => exact hp.elim
  | nil =>
   simp only [Q48, Option.some.injEq] at h
   subst h
   exact ⟨cells, rfl, hz, rfl⟩
 | (i, x) :: parts, vals, z, z', cells, hz, hp, h => by
  cases vals with
  | nil => exact hp.elim
  | cons jv vals =>
   obtain ⟨j, v⟩ := jv
   obtain ⟨rfl, hv, hp⟩ := hp
   have hzl := hz.length
   simp only [AVal.size, Array.length_toList] at hzl
   have one : ∀ {o n : Nat} {s : Sh} {z1 : AVal}, place i = some (o, n) → z.sh.fieldOff i = some (o, s) → n = s.size → Q1Y x = true → x.sh = s → setF z i x = some z1 → Q48 P T z1 parts = some z' →
     ∃ cells', Instr.fill place cells ((i, v) :: vals) = some cells' ∧ CRel m μ z' cells'.toList ∧ z'.sh = z.sh := by
    intro o n s z1 hpl hfo hn hok hxs hset hrest
    have hc := Q3b hv hok
    have hcl := hc.length
    simp only [AVal.size, Array.length_toList] at hcl
    obtain ⟨hle, _⟩ := Q2u hz hfo
    obtain ⟨q1, q2⟩ := Q68 hz hfo hc hxs hset
    obtain ⟨cells1, hc1, hf⟩ := Q8R (cells := cells) (rest := vals) (v := v) hpl (by rw [hcl, hxs, hn]) (by omega)
    rw [← hc1] at q2
    obtain ⟨cells', hf', hr', hs'⟩ := Q5u hplace parts vals z1 z' cells1 q2 hp hrest
    exact ⟨cells', by rw [hf]; exact hf', hr', by rw [hs', q1]⟩
   simp only [Q48] at h
   split at h
   ·rename_i fs hu
    split at h
    ·rename_i f o s hf hfo
     split at h
     ·rename_i hok
      simp only [Bool.and_eq_true, beq_iff_eq, decide_eq_true_eq] at hok
      obtain ⟨⟨⟨h1, h2⟩, h3⟩, h4⟩ := hok
      cases hset : setF z i x with
      | none => rw [hset] at h; cases h
      | some z1 =>
       rw [hset] at h
       simp only [Option.bind_some] at h
       exact one (by rw [hplace.1 fs i f s.size hu hf h2, h1]) hfo rfl h3 h4 hset h
     ·cases h
    ·cases h
   ·rename_i len e hu
    split at h
    ·rename_i n t xs
     split at h
     ·rename_i hin
      split at h
      ·rename_i hok
       simp only [Bool.and_eq_true, beq_iff_eq, decide_eq_true_eq] at hok
       obtain ⟨⟨h2, h3⟩, h4⟩ := hok
       cases hset : setF (.arr n t xs) i x with
       | none => rw [hset] at h; cases h
       | some z1 =>
        rw [hset] at h
        simp only [Option.bind_some] at h
        exact one (s := t.sh) (hplace.2 len e t.size i hu h2) (by simp only [AVal.sh, Sh.fieldOff]; rw [if_pos hin.1]) (by rw [Ty.sh_size]) h3 h4 hset h
      ·cases h
     ·cases h
    ·cases h
   ·cases h
theorem Qar {P : Program} {m : Mem} {μ : LMap} {w : World} {T : TypeId} {z v : AVal} {parts : List (Nat × AVal)} {vals : Array (Nat × Value)} (hz : Q4s P T = some z) (hok : Q7w P T = true) (hp : Q3R m μ parts vals.toList) (h : Q48 P T z parts = some v) :
  ∃ u, (Instr.build T vals).run P w = .ok u w ∧ VRel m μ v u := by
 obtain ⟨i, zv, hi, hzv, hr⟩ := Q6e (m := m) (μ := μ) hz
 have agg : ∀ {d : TypeDesc}, P.underlying T = some d → (∃ fs, d = .struct fs) ∨ (∃ n e, d = .array n e) → z.isAgg = true := by
  intro d hd hcase
  unfold Q4s at hz
  rw [hi] at hz
  simp only [hzv] at hz
  simp only [absZ, hd] at hz
  rcases hcase with ⟨fs, rfl⟩ | ⟨n, e, rfl⟩
  ·simp only at hz
   exact (Q8m (m := m) (μ := μ) (fun T cs a => Q8v 39 T cs a) _ _ _ hz).2
  ·simp only at hz
   cases ht : tyOf P 39 e with
   | none => rw [ht] at hz; cases hz
   | some t =>
    rw [ht] at hz
    simp only [Option.bind_some] at hz
    split at hz
    ·cases hz; rfl
    ·cases hz
 have aggsh : ∀ {a b : AVal}, a.sh = b.sh → b.isAgg = true → Q1Y a = true ∨ True → a.isAgg = true := by
  intro a b hs hb _
  cases a <;> cases b <;> first | rfl | (cases hb; done) | (simp [AVal.sh] at hs; done)
 unfold Q7w at hok
 split at hok
 ·rename_i fs hu
  have hfs : ∀ f ∈ fs.toList, Q1q P f.type = some (P.cellsOf f.type) := by
   intro f hf
   have := List.all_eq_true.1 hok f hf
   obtain ⟨n, hn⟩ := Option.isSome_iff_exists.1 this
   rw [hn]
   unfold Q1q at hn
   unfold Program.cellsOf
   rw [hn]; rfl
  have hpl := Q80 (P := P) (w := w) (f := fun f : Field => (do pure (f.offset, ← sizeOf f.type) : Sem (Nat × Nat))) (g := fun f => (f.offset, P.cellsOf f.type)) fs (fun f hf => by
   simp only [run_bind, Q1e (hfs f hf)]; rfl)
  obtain ⟨cells', hf, hc, hsh⟩ := Q5u (m := m) (μ := μ) (place := fun i => (fs.map fun f => (f.offset, P.cellsOf f.type))[i]?) (T := T)
   ⟨fun fs' i f n hu' hf hn => by
    rw [hu] at hu'; cases hu'
    have hmem : f ∈ fs.toList := by
     have := Array.mem_of_getElem? hf
     simpa using this
    rw [hfs f hmem] at hn
    cases hn
    simp [Array.getElem?_map, hf], fun len e n i hu' => (by rw [hu] at hu'; cases hu')⟩ parts vals.toList z v zv.cells hr hp h
  refine ⟨.agg cells', ?_, Q4E hc (aggsh hsh (agg hu (.inl ⟨fs, rfl⟩)) (.inr trivial))⟩
  simp only [Instr.build, run_bind, Q1U hi hzv, Qp hu]
  rw [hpl]
  simp only [hf]
  rfl
 ·rename_i len e hu
  obtain ⟨n, hn⟩ := Option.isSome_iff_exists.1 hok
  obtain ⟨cells', hf, hc, hsh⟩ := Q5u (m := m) (μ := μ) (place := fun i => some (i * n, n)) (T := T)
   ⟨fun fs' i f n hu' => (by rw [hu] at hu'; cases hu'), fun len' e' n' i hu' hn' => (by rw [hu] at hu'; cases hu'; rw [hn] at hn'; cases hn'; rfl)⟩ parts vals.toList z v zv.cells hr hp h
  refine ⟨.agg cells', ?_, Q4E hc (aggsh hsh (agg hu (.inr ⟨len, e, rfl⟩)) (.inr trivial))⟩
  simp only [Instr.build, run_bind, Q1U hi hzv, Qp hu, Q1e hn, hf]
  rfl
 ·cases hok
end Go.Am
namespace Go.Am
open Go
theorem Q5X {m : Mem} {μ : LMap} {size : Nat} : ∀ (parts : List (Nat × AVal)) (vals : List (Nat × Value)) (z z' : AVal) (cells : Array Value), CRel m μ z cells.toList → Q3R m μ parts vals → Q2k size z parts = some z' →
   ∃ cells', Instr.fill (fun i => some (i * size, size)) cells vals = some cells' ∧ CRel m μ z' cells'.toList ∧ z'.sh = z.sh
 | [], vals, z, z', cells, hz, hp, h => by
  cases vals with
  | cons _ _ => exact hp.elim
  | nil =>
   simp only [Q2k, Option.some.injEq] at h
   subst h
   exact ⟨cells, rfl, hz, rfl⟩
 | (i, x) :: parts, vals, z, z', cells, hz, hp, h => by
  cases vals with
  | nil => exact hp.elim
  | cons jv vals =>
   obtain ⟨j, v⟩ := jv
   obtain ⟨rfl, hv, hp⟩ := hp
   have hzl := hz.length
   simp only [AVal.size, Array.length_toList] at hzl
   simp only [Q2k] at h
   split at h
   ·rename_i t xs
    split at h
    ·rename_i hin
     split at h
     ·rename_i hok
      simp only [Bool.and_eq_true, beq_iff_eq, decide_eq_true_eq] at hok
      obtain ⟨⟨rfl, h3⟩, h4⟩ := hok
      cases hset : setF (.vec t xs) i x with
      | none => rw [hset] at h; cases h
      | some z1 =>
       rw [hset] at h
       simp only [Option.bind_some] at h
       have hc := Q3b hv h3
       have hcl := hc.length
       simp only [AVal.size, Array.length_toList] at hcl
       have hfo : (AVal.vec t xs).sh.fieldOff i = some (i * t.size, t.sh) := by simp only [AVal.sh, Sh.fieldOff]; rw [if_pos hin]
       obtain ⟨hle, _⟩ := Q2u hz hfo
       obtain ⟨q1, q2⟩ := Q68 hz hfo hc h4 hset
       rw [Ty.sh_size] at hle
       obtain ⟨cells1, hc1, hf⟩ := Q8R (place := fun i => some (i * t.size, t.size)) (cells := cells) (rest := vals) (v := v) (i := i) rfl (by rw [hcl, h4, Ty.sh_size]) (by omega)
       rw [← hc1] at q2
       obtain ⟨cells', hf', hr', hs'⟩ := Q5X parts vals z1 z' cells1 q2 hp h
       exact ⟨cells', by rw [hf]; exact hf', hr', by rw [hs', q1]⟩
     ·cases h
    ·cases h
   ·cases h
theorem Q7H {size : Nat} : ∀ (parts : List (Nat × AVal)) {z c : AVal}, Q2k size z parts = some c → c.isVb = z.isVb
 | [], z, c, h => by simp only [Q2k, Option.some.injEq] at h; subst h; rfl
 | (i, x) :: rest, z, c, h => by
  cases z <;> simp only [Q2k] at h <;> try (cases h; done)
  split at h
  ·split at h
   ·obtain ⟨z', h1, h2⟩ := Option.bind_eq_some_iff.1 h
    rw [Q7H rest h2, Q9P h1]
   ·cases h
  ·cases h
theorem Q6l {P : Program} {m : Mem} {μ : LMap} {H : Heap} {w : World} {T e : TypeId} {i : TypeInfo} {t : Ty} {len : Nat} {c : AVal} {parts : List (Nat × AVal)} {vals : Array (Nat × Value)} (rh : RH m μ H w) (hu : P.underlying T = some (.slice e)) (hi : P.info? e = some i)
  (hs : i.size = t.size) (hz : Q6C i t = true) (ht : t.size ≠ 0) (hlen : len * t.size ≤ 16777216) (hp : Q3R m μ parts vals.toList) (h : Q2k t.size (.vec t (List.replicate len t.zero)) parts = some c) (hvb : ∀ xs : List t.den, (AVal.vec t xs).isVb = true → e = 5) :
  ∃ u w' μ', (Instr.buildSlice T len vals).run P w = .ok u w' ∧ VRel m μ' (.vsl H.length) u ∧ Post m μ H w m μ' (H ++ [some c]) w' := by
 obtain ⟨z, hz1, hz2⟩ := Q4K hz
 have hzs : z.cells.size = t.size := by
  have := (Q20 m t).length
  rw [← hz2, Array.length_toList] at this; exact this
 have hrel := Q5k (Q20 m t) len
 have hl0 := hrel.length
 simp only [Ty.size] at hl0
 have harr1 : (Array.range (len * t.size)).map (fun j => z.cells[j % z.cells.size]!) = ((List.replicate len (Q2m t)).flatten).toArray := by
  apply Array.ext'
  rw [← hzs, Q2Q, hz2]
 have harr0 : len * t.size = 0 → (Array.range (len * t.size)).map (fun j => (#[] : Array Value)[j % (#[] : Array Value).size]!) = ((List.replicate len (Q2m t)).flatten).toArray := by
  intro hn0
  have : (List.replicate len (Q2m t)).flatten = [] := List.eq_nil_of_length_eq_zero (by simp [(Q20 m t).length, hn0])
  rw [this, hn0]; simp
 obtain ⟨cells', hf, hc, hsh⟩ := Q5X (m := m) (μ := μ) parts vals.toList (.vec t (List.replicate len t.zero)) c ((List.replicate len (Q2m t)).flatten).toArray
  (by show DRel m (.arr _ t) _ _; rw [List.length_replicate]; simpa using hrel) hp h
 have hcl := hc.length
 simp only [AVal.size, Array.length_toList] at hcl
 have hsz : c.sh = .arr len t := by rw [hsh]; simp [AVal.sh]
 have hpo := rh.push (a := c) (cs := cells') (E := e) (fz := (0, 0)) (dr := w.drawn) (by omega) (fun j _ h => by omega) (by rw [← hcl, ← Array.length_toList, List.take_length]; exact hc) (fun hq => hvb _ (by rw [← Q7H parts h]; exact hq))
 refine ⟨.slice (some ⟨w.heap.size, 0, none⟩) len len, _, _, ?_, ?_, hpo⟩
 ·simp only [Instr.buildSlice, run_bind, Qp hu, Q1e (Q4f hi), hs]
  rw [if_neg (by omega)]
  rw [Q9w]
  split
  ·rename_i hn0
   simp only [run_bind, Q0S]
   rw [harr0 hn0]
   simp only [hf, Q3h, run_bind, Q0S]
  ·simp only [run_bind, Q0S, Q1U hi hz1]
   rw [harr1]
   simp only [hf, Q3h, run_bind, Q0S]
 ·have := Q7s (m := m) (μ := μ) (H := H) (w := w) (t := t) (n := len) (cap := len) (cs := cells') (E := e) (Nat.le_refl _) (by rw [hcl, hsz]; exact Nat.le_refl _)
  rw [hsz]
  exact this
theorem Q9k {P : Program} {m : Mem} {μ : LMap} {H : Heap} {w : World} {arr : TypeId} {x : AVal} {v : Value} {r : Res} (rh : RH m μ H w) (hx : VRel m μ x v)
  (h : Q5V P H arr x = some r) (hvc : r.vc = true) :
  r.H = H ∧ ∃ u, (Instr.arrayAt arr v).run P w = .ok u w ∧ VRel m μ r.v u := by
 unfold Q5V at h
 split at h
 ·rename_i n e t xs hu
  split at h
  ·cases h
  ·rename_i hn
   cases h
   simp only [decide_eq_true_eq] at hvc
   obtain ⟨a, cap, he, hcap, hd⟩ := hx.one rfl rfl
   cases he
   obtain ⟨ad, c0, rfl, hsp, hm0, _⟩ := hd 0 (by omega)
   refine ⟨rfl, .pointer (some ad), ?_, ?_⟩
   ·simp only [Instr.arrayAt, run_bind, Qp hu]
    rw [if_neg (by omega)]; rfl
   ·obtain ⟨cs, hmb, _, _⟩ := Q2A hm0
    have each : ∀ i, i < xs.length → ad.off + i * t.size + t.size ≤ cs.size ∧ DRel m t (xs.getD i t.zero) ((cs.toList.drop (ad.off + i * t.size)).take t.size) := by
     intro i hi
     obtain ⟨ad', c, e, _, hm, hdi⟩ := hd i hi
     cases e
     obtain ⟨cs', hmb', hle', hc'⟩ := Q2A hm
     rw [hmb] at hmb'
     cases hmb'
     subst hc'
     exact ⟨hle', hdi⟩
    have hlast := (each (n - 1) (by omega)).1
    have hkk : n * t.size = (n - 1) * t.size + t.size := by
     rw [← Nat.succ_mul]; congr 1; omega
    refine ⟨ad, (cs.toList.drop ad.off).take (n * t.size), rfl, hsp, ?_, ?_⟩
    ·show m.cells ad.block ad.off (n * t.size) = _
     simp only [Mem.cells, hmb]
     rw [if_pos (by omega)]
    ·simp only [DRel]
     refine ⟨by simp; omega, by simp; omega, fun i hi => ?_⟩
     have hmi : (i + 1) * t.size ≤ n * t.size := Nat.mul_le_mul_right _ hi
     rw [Nat.add_mul] at hmi
     rw [Q1i _ _ _ _ _ (by omega)]
     have e1 : (xs.take n).getD i t.zero = xs.getD i t.zero := by
      simp only [List.getD_eq_getElem?_getD, List.getElem?_take, if_pos hi]
     rw [e1]
     exact (each i (by omega)).2
 ·rename_i n e id hu
  split at h
  ·rename_i t xs hi
   split at h
   ·cases h
   ·rename_i hn
    cases h
    simp only [decide_eq_true_eq] at hvc
    obtain ⟨l, a, cap, hl, hsh, hcap, rfl, ha⟩ := Q3Z rh hi hx
    have ha' : a = some ⟨l.b, l.off, none⟩ := by
     rcases ha with ⟨h, _⟩ | h
     ·exact h
     ·omega
    subst ha'
    refine ⟨rfl, .pointer (some ⟨l.b, l.off, none⟩), ?_, ?_⟩
    ·simp only [Instr.arrayAt, run_bind, Qp hu]
     rw [if_neg (by omega)]; rfl
    ·exact ⟨l, 0, xs.length, t, hl, by simp only [Sh.offP, hsh], by omega, by simp⟩
  ·cases h
 ·rename_i n e id p off len hu
  split at h
  ·cases h
  ·rename_i hn
   cases h
   simp only [decide_eq_true_eq] at hvc
   obtain ⟨l, o, N, t, a, cap, hl, ho, hle, hlc, he, ha⟩ := hx.one rfl rfl
   cases he
   have ha' : a = some ⟨l.b, l.off + o + off * t.size, none⟩ := by
    rcases ha with ⟨h, _⟩ | h
    ·exact h
    ·omega
   subst ha'
   refine ⟨rfl, .pointer (some ⟨l.b, l.off + o + off * t.size, none⟩), ?_, ?_⟩
   ·simp only [Instr.arrayAt, run_bind, Qp hu]
    rw [if_neg (by omega)]; rfl
   ·exact ⟨l, o, N, t, hl, ho, by omega, rfl⟩
 ·cases h
theorem Qbs {m : Mem} {μ : LMap} : ∀ {s : AVal} {i : Nat} {x : AVal} {vs : List Value}, TRel m μ s vs → nthA s i = some x → ∃ v, vs[i]? = some v ∧ Q1C m μ x v
 | .pair a b, 0, x, vs, h, hn => by
  simp only [TRel] at h
  obtain ⟨v, r, rfl, hv, _⟩ := h
  simp only [nthA, Option.some.injEq] at hn
  subst hn
  exact ⟨v, rfl, hv⟩
 | .pair a b, i + 1, x, vs, h, hn => by
  simp only [TRel] at h
  obtain ⟨v, r, rfl, _, hr⟩ := h
  simp only [nthA] at hn
  obtain ⟨u, h1, h2⟩ := Qbs hr hn
  exact ⟨u, by simpa using h1, h2⟩
 | .unit, _, _, _, _, hn | .undef, _, _, _, _, hn | .int _ _, _, _, _, _, hn | .bool _, _, _, _, _, hn | .str _, _, _, _, _, hn | .nilp, _, _, _, _, hn | .ptr _ _, _, _, _, _, hn | .nils, _, _, _, _, hn
 | .sl _ _ _ _, _, _, _, _, hn | .ros _ _, _, _, _, _, hn | .rop _ _, _, _, _, _, hn | .arr _ _ _, _, _, _, _, hn | .vec _ _, _, _, _, _, hn | .vsl _, _, _, _, _, hn | .parr _ _ _ _, _, _, _, _, hn | .fn _ _, _, _, _, _, hn
 | .tup _, _, _, _, _, hn => by simp [nthA] at hn
theorem Qaa {m : Mem} {μ : LMap} {x : AVal} {v : Value} (h : Q1C m μ x v) : VRel m μ x v := by
 cases x <;> first | exact h | exact h.elim
theorem Does.ofVal {P : Program} {m : Mem} {μ : LMap} {H H' : Heap} {w : World} {s : Sem Value} {x : AVal} (h : ∃ u w' μ', s.run P w = .ok u w' ∧ VRel m μ' x u ∧ Post m μ H w m μ' H' w') : Does P m μ H w (do pure (.value (← s))) x H' := by
 obtain ⟨u, w', μ', h1, h2, h3⟩ := h
 exact ⟨.value u, u, w', μ', by simp only [run_bind, h1]; rfl, .inl rfl, h2, h3⟩
theorem Does.ofSame {P : Program} {m : Mem} {μ : LMap} {H H' : Heap} {w : World} {s : Sem Value} {x : AVal} (rh : RH m μ H w) (h : H' = H ∧ ∃ u, s.run P w = .ok u w ∧ VRel m μ x u) : Does P m μ H w (do pure (.value (← s))) x H' := by
 obtain ⟨rfl, u, h1, h2⟩ := h
 exact Does.val rh h1 h2
theorem QbJ {m : Mem} {μ : LMap} {sl : List AVal} {a : Act} (rs : RS m μ sl a) (o : Option Operand) : Q6h m μ (o.map (Q0T sl)) (o.map a.eval) := by
 cases o with
 | none => trivial
 | some x => exact Q0V rs x
theorem Q6z {m : Mem} {μ : LMap} {sl : List AVal} {a : Act} (rs : RS m μ sl a) : ∀ (l : List (Nat × Operand)), Q3R m μ (l.map fun p => (p.1, Q0T sl p.2)) (l.map fun p => (p.1, a.eval p.2))
 | [] => trivial
 | p :: l => ⟨rfl, Q0V rs p.2, Q6z rs l⟩
theorem Qad {m : Mem} {μ : LMap} {sl : List AVal} {a : Act} (rs : RS m μ sl a) : ∀ (l : List Operand), (∀ x ∈ l, Q1Y (Q0T sl x) = true ∧ (Q0T sl x).isAgg = false) →
  CRel m μ (l.foldr (fun x r => .pair (Q0T sl x) r) .unit) (l.map a.eval)
 | [], _ => rfl
 | x :: l, h => by
  have hx := h x (by simp)
  have h1 := (Q0V rs x).one hx.2 hx.1
  have h2 := Qad rs l (fun y hy => h y (by simp [hy]))
  simp only [List.foldr_cons, List.map_cons, CRel]
  have hs : (Q0T sl x).size = 1 := by rw [AVal.size, Q55 hx.2]; rfl
  rw [hs]
  exact ⟨h1, h2⟩
end Go.Am
namespace Go.Am
open Go
theorem RH.map_mem {m : Mem} {μ : LMap} {H : Heap} {w : World} (h : RH m μ H w) {b : Nat} {es : Array MapEntry} {c : Nat} (hb : w.heap[b]? = some (.map es c)) : m b = none := by
 cases hm : m b with
 | none => rfl
 | some cs =>
  obtain ⟨E, fz, h1⟩ := h.mem b cs hm
  rw [hb] at h1; cases h1
theorem RH.mapNew {m : Mem} {μ : LMap} {H : Heap} {w : World} (h : RH m μ H w) (kt vt : Ty) :
  Post m μ H w m (fun i => if i = H.length then some ⟨w.heap.size, 0, .unit, 0, 0, true⟩ else μ i) (H ++ [some (.mpc kt vt [])]) { w with heap := w.heap.push (.map #[] 0) } := by
 have hdom : μ H.length = none := h.dom _ (Nat.le_refl _)
 have hμ : μ.le (fun j => if j = H.length then some ⟨w.heap.size, 0, .unit, 0, 0, true⟩ else μ j) := by
  intro j l' hl'
  show (if j = H.length then _ else μ j) = some l'
  rw [if_neg (fun e => by subst e; rw [hdom] at hl'; cases hl')]; exact hl'
 have hpush : ∀ b, b < w.heap.size → (w.heap.push (Obj.map #[] 0))[b]? = w.heap[b]? := fun b hb => by rw [Array.getElem?_push, if_neg (by omega)]
 have hnew : (w.heap.push (Obj.map #[] 0))[w.heap.size]? = some (Obj.map #[] 0) := by rw [Array.getElem?_push, if_pos rfl]
 refine ⟨⟨?_, ?_, ?_, ?_, ?_, ?_, ?_, ?_⟩, Mem.le_refl _, hμ, rfl, rfl, rfl, by show w.heap.size ≤ (w.heap.push _).size; simp, fun b hb _ => hpush b hb, ?_, fun _ _ h => .inl h, ⟨by simp, fun i hi h => by show (if i = H.length then _ else μ i) = none; rw [if_neg (by omega)]; exact h⟩⟩
 ·intro b cs hb
  obtain ⟨E, fz, h1⟩ := h.mem b cs hb
  exact ⟨E, fz, (hpush b (Q1G h1)).trans h1⟩
 ·intro j x hj
  rcases Q1x hj with ⟨h1, h2⟩ | ⟨h1, h2⟩
  ·subst h1; subst h2
   exact ⟨⟨w.heap.size, 0, .unit, 0, 0, true⟩, by simp, rfl, .inl ⟨rfl, rfl, rfl, rfl⟩⟩
  ·obtain ⟨lj, hbj⟩ := h.blk j x h2
   refine ⟨lj, hμ _ _ hbj.loc, hbj.sh, ?_⟩
   rcases hbj.cells with ⟨p1, p2, p3, p4⟩ | ⟨p0, q1, c, E1, fz1, q2, q3⟩
   ·exact .inl ⟨p1, p2, p3, p4.mono (Mem.le_refl m) hμ⟩
   ·exact .inr ⟨p0, q1, c, E1, fz1, (hpush lj.b (Q1G q2)).trans q2, q3.1, q3.2.1, q3.2.2.1, q3.2.2.2.mono (Mem.le_refl m) hμ⟩
 ·intro j k x y lj lk hj hk hlj hlk z1 z2 he
  rcases Q1x hj with ⟨h1, h2⟩ | ⟨h1, h2⟩
  ·subst h1
   simp only [if_true, Option.some.injEq] at hlj
   subst hlj; simp at z1
  ·rcases Q1x hk with ⟨h4, h5⟩ | ⟨h4, h5⟩
   ·subst h4
    simp only [if_true, Option.some.injEq] at hlk
    subst hlk; simp at z2
   ·have hlj : μ j = some lj := by simpa [Nat.ne_of_lt h1] using hlj
    have hlk : μ k = some lk := by simpa [Nat.ne_of_lt h4] using hlk
    exact h.inj j k x y lj lk h2 h5 hlj hlk z1 z2 he
 ·intro j hj
  simp only [List.length_append, List.length_cons, List.length_nil] at hj
  show (if j = H.length then _ else μ j) = none
  rw [if_neg (by omega)]; exact h.dom j (by omega)
 ·intro j x lj hj hlj hz
  rcases Q1x hj with ⟨h1, h2⟩ | ⟨h1, h2⟩
  ·subst h1
   simp only [if_true, Option.some.injEq] at hlj
   subst hlj; simp at hz
  ·have hlj : μ j = some lj := by simpa [Nat.ne_of_lt h1] using hlj
   obtain ⟨cs1, fz1, k1⟩ := h.typ j x lj h2 hlj hz
   exact ⟨cs1, fz1, (hpush lj.b (Q1G k1)).trans k1⟩
 ·intro j x lj hj hx hlj hz
  rcases Q1x hj with ⟨h1, h2⟩ | ⟨h1, h2⟩
  ·subst h1
   simp only [if_true, Option.some.injEq] at hlj
   subst hlj; simp at hz
  ·have hlj : μ j = some lj := by simpa [Nat.ne_of_lt h1] using hlj
   exact h.vb j x lj h2 hx hlj hz
 ·intro j x lj hj hlj hpz
  rcases Q1x hj with ⟨h1, h2⟩ | ⟨h1, h2⟩
  ·subst h1; subst h2
   simp only [if_true, Option.some.injEq] at hlj
   subst hlj
   exact ⟨rfl, kt, vt, [], #[], 0, rfl, hnew, rfl, fun i x e h1 => by simp at h1⟩
  ·have hlj : μ j = some lj := by simpa [Nat.ne_of_lt h1] using hlj
   obtain ⟨h0, kt', vt', xs, es, c, e1, e2, e3⟩ := h.mp j x lj h2 hlj hpz
   exact ⟨h0, kt', vt', xs, es, c, e1, (hpush lj.b (Q1G e2)).trans e2, e3⟩
 ·have old : ∀ {k : Nat} {y : AVal} {lk : Loc}, k < H.length → H[k]? = some (some y) → μ k = some lk → lk.mp = true → lk.b < w.heap.size := by
   intro k y lk _ h2 hlk pk
   obtain ⟨_, _, _, _, es, c, _, e2, _⟩ := h.mp k y lk h2 hlk pk
   exact Q1G e2
  intro j k x y lj lk hj hk pj pk hlj hlk he
  rcases Q1x hj with ⟨h1, h2⟩ | ⟨h1, h2⟩
  ·rcases Q1x hk with ⟨h4, h5⟩ | ⟨h4, h5⟩
   ·omega
   ·subst h1
    simp only [if_true, Option.some.injEq] at hlj
    have hlk : μ k = some lk := by simpa [Nat.ne_of_lt h4] using hlk
    have := old h4 h5 hlk pk
    subst hlj; simp only at he; omega
  ·rcases Q1x hk with ⟨h4, h5⟩ | ⟨h4, h5⟩
   ·subst h4
    simp only [if_true, Option.some.injEq] at hlk
    have hlj : μ j = some lj := by simpa [Nat.ne_of_lt h1] using hlj
    have := old h1 h2 hlj pj
    subst hlk; simp only at he; omega
   ·have hlj : μ j = some lj := by simpa [Nat.ne_of_lt h1] using hlj
    have hlk : μ k = some lk := by simpa [Nat.ne_of_lt h4] using hlk
    exact h.mpi j k x y lj lk h2 h5 pj pk hlj hlk he
 ·rintro b' ⟨j, x, lj, hj, hlj, q, he⟩ hb
  rcases Q1x hj with ⟨h1, h2⟩ | ⟨h1, h2⟩
  ·subst h1
   simp only [if_true, Option.some.injEq] at hlj
   subst hlj; simp only at he; omega
  ·have hlj : μ j = some lj := by simpa [Nat.ne_of_lt h1] using hlj
   exact ⟨j, x, lj, h2, hlj, q, he⟩
theorem RH.mapPut {m : Mem} {μ : LMap} {H : Heap} {w : World} (h : RH m μ H w) {id : Nat} {kt vt : Ty} {xs xs' : List (kt.den × vt.den)} {l : Loc} {es es' : Array MapEntry} {c c' : Nat} (hi : H[id]? = some (some (.mpc kt vt xs)))
  (hl : μ id = some l) (hp : l.mp = true) (hw : w.heap[l.b]? = some (.map es c)) (hr : MRel m kt vt xs' es'.toList) :
  Post m μ H w m μ (H.set id (some (.mpc kt vt xs'))) { w with heap := w.heap.setIfInBounds l.b (.map es' c') } := by
 have hil : id < H.length := (List.getElem?_eq_some_iff.1 hi).1
 have hlt := Q1G hw
 have keep : ∀ b, b ≠ l.b → (w.heap.setIfInBounds l.b (Obj.map es' c'))[b]? = w.heap[b]? := fun b hb => by simp [Ne.symm hb]
 have here : (w.heap.setIfInBounds l.b (Obj.map es' c'))[l.b]? = some (Obj.map es' c') := by simp [hlt]
 have look : ∀ {j : Nat} {x : AVal}, (H.set id (some (.mpc kt vt xs')))[j]? = some (some x) → (j = id ∧ x = .mpc kt vt xs') ∨ (j ≠ id ∧ H[j]? = some (some x)) := by
  intro j x hj
  by_cases hji : j = id
  ·subst hji; rw [List.getElem?_set_self hil] at hj; exact .inl ⟨rfl, (Option.some.inj (Option.some.inj hj)).symm⟩
  ·rw [List.getElem?_set_ne (Ne.symm hji)] at hj; exact .inr ⟨hji, hj⟩
 have old : ∀ {j : Nat} {x : AVal}, (H.set id (some (.mpc kt vt xs')))[j]? = some (some x) → ∃ y, H[j]? = some (some y) := by
  intro j x hj
  rcases look hj with ⟨h1, _⟩ | ⟨_, h1⟩
  ·subst h1; exact ⟨_, hi⟩
  ·exact ⟨x, h1⟩
 have h0 := (h.mp id _ l hi hl hp).1
 obtain ⟨l', hb⟩ := h.blk id _ hi
 have hll : l' = l := Option.some.inj (hb.loc.symm.trans hl)
 subst hll
 have hoff : l'.off = 0 := by
  rcases hb.cells with g | g
  ·exact g.2.1
  ·omega
 have ncell : ∀ {b : Nat} {cs : Array Value} {E : TypeId} {fz : Nat × Nat}, w.heap[b]? = some (.cells cs E fz) → b ≠ l'.b := fun h1 e => by subst e; rw [hw] at h1; cases h1
 refine ⟨⟨?_, ?_, ?_, ?_, ?_, ?_, ?_, ?_⟩, Mem.le_refl _, LMap.le_refl _, rfl, rfl, rfl, by show w.heap.size ≤ (w.heap.setIfInBounds _ _).size; simp, ?_, ?_, fun _ _ h => .inl h, ⟨by simp, fun _ _ h => h⟩⟩
 ·intro b cs hb'
  obtain ⟨E1, fz1, h1⟩ := h.mem b cs hb'
  exact ⟨E1, fz1, (keep b (ncell h1)).trans h1⟩
 ·intro j x hj
  rcases look hj with ⟨h1, h2⟩ | ⟨h1, h2⟩
  ·subst h1; subst h2
   exact ⟨l', hl, hb.sh, .inl ⟨h0, hoff, rfl, rfl⟩⟩
  ·obtain ⟨lj, hbj⟩ := h.blk j x h2
   refine ⟨lj, hbj.loc, hbj.sh, ?_⟩
   rcases hbj.cells with g | ⟨p0, q1, cs, E1, fz1, q2, q3⟩
   ·exact .inl g
   ·exact .inr ⟨p0, q1, cs, E1, fz1, (keep lj.b (ncell q2)).trans q2, q3⟩
 ·intro j k x y lj lk hj hk hlj hlk p1 p2 he
  obtain ⟨x', hx'⟩ := old hj
  obtain ⟨y', hy'⟩ := old hk
  exact h.inj j k x' y' lj lk hx' hy' hlj hlk p1 p2 he
 ·intro j hj; rw [List.length_set] at hj; exact h.dom j hj
 ·intro j x lj hj hlj hz
  obtain ⟨x', hx'⟩ := old hj
  obtain ⟨cs1, fz1, k1⟩ := h.typ j x' lj hx' hlj hz
  exact ⟨cs1, fz1, (keep lj.b (ncell k1)).trans k1⟩
 ·intro j x lj hj hx hlj hz
  rcases look hj with ⟨h1, h2⟩ | ⟨h1, h2⟩
  ·subst h1; subst h2
   cases hx
  ·exact h.vb j x lj h2 hx hlj hz
 ·intro j x lj hj hlj hpz
  rcases look hj with ⟨h1, h2⟩ | ⟨h1, h2⟩
  ·subst h1; subst h2
   have e : lj = l' := Option.some.inj (hlj.symm.trans hl)
   subst e
   exact ⟨h0, kt, vt, xs', es', c', rfl, here, hr⟩
  ·obtain ⟨g0, kt', vt', ys, es1, c1, e1, e2, e3⟩ := h.mp j x lj h2 hlj hpz
   exact ⟨g0, kt', vt', ys, es1, c1, e1, (keep lj.b (fun e => h1 (h.mpi j id x _ lj l' h2 hi hpz hp hlj hl e))).trans e2, e3⟩
 ·intro j k x y lj lk hj hk pj pk hlj hlk he
  obtain ⟨x', hx'⟩ := old hj
  obtain ⟨y', hy'⟩ := old hk
  exact h.mpi j k x' y' lj lk hx' hy' pj pk hlj hlk he
 ·intro b _ ho
  exact keep b (fun e => ho ⟨id, _, l', hi, hl, .inr hp, e.symm⟩)
 ·rintro b ⟨j, x, lj, hj, hlj, q, he⟩ _
  obtain ⟨x', hx'⟩ := old hj
  exact ⟨j, x', lj, hx', hlj, q, he⟩
end Go.Am
namespace Go.Am
open Go
theorem QcJ {s t : ByteArray} : Q1M s t = true ↔ s = t := by
 unfold Q1M
 rw [beq_iff_eq]
 constructor
 ·intro h
  rw [ByteArray.toList_eq, ByteArray.toList_eq] at h
  cases s; cases t
  simpa using h
 ·rintro rfl; rfl
theorem Q7t : ∀ {t : Ty} (x y : t.den), keyB t = true → ∃ r, eqD t x y = some r ∧ (r = true ↔ x = y)
 | .int _, x, y, _ => ⟨_, rfl, by simp⟩
 | .bool, x, y, _ => ⟨_, rfl, by simp⟩
 | .str, x, y, _ => ⟨_, rfl, QcJ⟩
 | .unit, x, y, _ => ⟨_, rfl, by simp⟩
 | .pair a b, x, y, h => by
  simp only [keyB, Bool.and_eq_true] at h
  obtain ⟨p, h1, h2⟩ := Q7t x.1 y.1 h.1
  obtain ⟨q, h3, h4⟩ := Q7t x.2 y.2 h.2
  refine ⟨p && q, by simp only [eqD, h1, h3, Option.bind_some], ?_⟩
  rw [Bool.and_eq_true, h2, h4]
  constructor
  ·rintro ⟨e1, e2⟩; exact Prod.ext e1 e2
  ·intro e; rw [e]; exact ⟨rfl, rfl⟩
 | .arr n (.int k), x, y, _ => ⟨_, rfl, by simp⟩
 | .arr _ .bool, _, _, h | .arr _ .str, _, _, h | .arr _ .unit, _, _, h | .arr _ (.pair _ _), _, _, h | .arr _ (.arr _ _), _, _, h | .arr _ (.sl _), _, _, h | .sl _, _, _, h => by simp [keyB] at h
theorem Q7S {t : Ty} (x y : t.den) (h : keyB t = true) : eqD t x y = some (eqK t x y) := by
 obtain ⟨r, h1, _⟩ := Q7t x y h
 unfold eqK
 rw [h1]; rfl
theorem QdB {t : Ty} {x y : t.den} (h : keyB t = true) : eqK t x y = true ↔ x = y := by
 obtain ⟨r, h1, h2⟩ := Q7t x y h
 unfold eqK
 rw [h1]; exact h2
theorem Q9K : ∀ {t : Ty} (x y : t.den), keyB t = true → eqA (toA t x) (toA t y) = some (eqK t x y)
 | .int _, x, y, _ => by simp [toA, eqA, eqK, eqD]
 | .bool, x, y, _ => by simp [toA, eqA, eqK, eqD]
 | .str, x, y, _ => by simp [toA, eqA, eqK, eqD]
 | .unit, x, y, _ => by simp [toA, eqA, eqK, eqD]
 | .pair a b, x, y, h => by
  have h' := h
  simp only [keyB, Bool.and_eq_true] at h
  have e := Q7S (t := .pair a b) x y h'
  simp only [eqD, Q7S _ _ h.1, Q7S _ _ h.2, Option.bind_some] at e
  rw [← e]
  simp only [toA, eqA, Q9K x.1 y.1 h.1, Q9K x.2 y.2 h.2, Option.bind_some]
 | .arr n (.int k), x, y, _ => by simp [toA, eqA, eqK, eqD]
 | .arr _ .bool, _, _, h | .arr _ .str, _, _, h | .arr _ .unit, _, _, h | .arr _ (.pair _ _), _, _, h | .arr _ (.arr _ _), _, _, h | .arr _ (.sl _), _, _, h | .sl _, _, _, h => by simp [keyB] at h
theorem DV.rel {m : Mem} {μ : LMap} {t : Ty} {x : t.den} {v : Value} (h : DV m t x v) : VRel m μ (toA t x) v := by
 have h0 : Q1C m μ (toA t x) v := by
  unfold DV Q1C at *
  cases ha : toA t x <;> rw [ha] at h <;> first | exact h | skip
  all_goals
   simp only at h ⊢
   split at h
   ·obtain ⟨cs, h1, h2⟩ := h
    rw [if_pos ‹_›]
    refine ⟨cs, h1, ?_⟩
    rw [← ha] at h2 ⊢
    exact Q1z.2 (Q1z.1 h2)
   ·rw [if_neg ‹_›]
    rw [← ha] at h ⊢
    exact Q1z.2 (Q1z.1 h)
 exact Qaa h0
theorem DV.of {m : Mem} {μ : LMap} {t : Ty} {a : AVal} {x : t.den} {v : Value} (h : Q1n t a = some x) (hv : VRel m μ a v) : DV m t x v := by
 have hag : a.isAgg = (toA t x).isAgg := by cases t <;> cases a <;> simp_all [Q1n, toA, AVal.isAgg]
 have hne : ∀ s, a ≠ .tup s := by rintro s rfl; cases t <;> simp [Q1n] at h
 have hnu : a ≠ .undef := by rintro rfl; cases t <;> simp [Q1n] at h
 have hr : ∀ {cs : List Value}, CRel m μ a cs → DRel m t x cs := fun hc => (Q2a (m := m) (μ := μ) h).2 hc
 have tne : toA t x ≠ .undef ∧ ∀ s, toA t x ≠ .tup s := by cases t <;> simp [toA]
 unfold DV
 cases hb : a.isAgg with
 | true =>
  obtain ⟨cs, rfl, hc⟩ := hv.agg hb
  rw [hb] at hag
  have := hr hc
  have h2 : CRel m (fun _ => none) (toA t x) cs.toList := Q1z.2 this
  unfold Q1C
  split
  ·trivial
  ·exact absurd ‹_› (tne.2 _)
  ·rw [if_pos hag.symm]; exact ⟨cs, rfl, h2⟩
 | false =>
  rw [hb] at hag
  have h1 : CRel m μ a [v] := by
   cases a <;> first | (cases hb; done) | exact hv | exact absurd rfl hnu | exact absurd rfl (hne _)
  have h2 : CRel m (fun _ => none) (toA t x) [v] := Q1z.2 (hr h1)
  unfold Q1C
  split
  ·trivial
  ·exact absurd ‹_› (tne.2 _)
  ·rw [if_neg (by rw [← hag]; simp)]; exact h2
theorem DV.cases {m : Mem} {t : Ty} {x : t.den} {v : Value} (h : DV m t x v) : (∃ cs, v = .agg cs ∧ (toA t x).isAgg = true ∧ DRel m t x cs.toList) ∨ ((toA t x).isAgg = false ∧ DRel m t x [v]) := by
 have h' := h.rel (μ := fun _ => none)
 cases hb : (toA t x).isAgg with
 | true =>
  obtain ⟨cs, e, hc⟩ := h'.agg hb
  exact .inl ⟨cs, e, rfl, Q1z.1 hc⟩
 | false =>
  refine .inr ⟨rfl, ?_⟩
  have hok : Q1Y (toA t x) = true := by cases t <;> first | rfl | (cases hb; done)
  exact Q1z.1 (h'.one hb hok)
def litV : Value → Bool
 | .int _ _ => true
 | .bool _ => true
 | .string _ => true
 | _ => false
theorem DRel.lits {m : Mem} : ∀ {t : Ty} {x : t.den} {cs : List Value}, keyB t = true → DRel m t x cs → ∀ v ∈ cs, litV v = true
 | .int _, _, _, _, h => by simp only [DRel] at h; subst h; simp [litV]
 | .bool, _, _, _, h => by simp only [DRel] at h; subst h; simp [litV]
 | .str, _, _, _, h => by simp only [DRel] at h; subst h; simp [litV]
 | .unit, _, _, _, h => by simp only [DRel] at h; subst h; simp
 | .pair a b, x, cs, hk, h => by
  simp only [keyB, Bool.and_eq_true] at hk
  simp only [DRel] at h
  intro v hv
  rw [← List.take_append_drop a.size cs, List.mem_append] at hv
  rcases hv with hv | hv
  ·exact DRel.lits hk.1 h.1 v hv
  ·exact DRel.lits hk.2 h.2 v hv
 | .arr n (.int k), xs, cs, hk, h => by
  simp only [DRel, Ty.size, Nat.mul_one] at h
  intro v hv
  obtain ⟨i, hi, rfl⟩ := List.mem_iff_getElem.1 hv
  have := h.2.2 i (by omega)
  rw [List.drop_eq_getElem_cons hi] at this
  simp only [List.take_succ_cons, List.take_zero, List.cons.injEq, and_true] at this
  rw [this]; rfl
 | .arr _ .bool, _, _, h, _ | .arr _ .str, _, _, h, _ | .arr _ .unit, _, _, h, _ | .arr _ (.pair _ _), _, _, h, _ | .arr _ (.arr _ _), _, _, h, _ | .arr _ (.sl _), _, _, h, _ | .sl _, _, _, h, _ => by simp [keyB] at h
theorem DRel.same {m : Mem} : ∀ {t : Ty} {x : t.den} {cs ds : List Value}, keyB t = true → DRel m t x cs → DRel m t x ds → cs = ds
 | .int _, _, _, _, _, h, g => by simp only [DRel] at h g; rw [h, g]
 | .bool, _, _, _, _, h, g => by simp only [DRel] at h g; rw [h, g]
 | .str, _, _, _, _, h, g => by simp only [DRel] at h g; rw [h, g]
 | .unit, _, _, _, _, h, g => by simp only [DRel] at h g; rw [h, g]
 | .pair a b, x, cs, ds, hk, h, g => by
  simp only [keyB, Bool.and_eq_true] at hk
  simp only [DRel] at h g
  rw [← List.take_append_drop a.size cs, ← List.take_append_drop a.size ds, DRel.same hk.1 h.1 g.1, DRel.same hk.2 h.2 g.2]
 | .arr n (.int k), xs, cs, ds, hk, h, g => by
  simp only [DRel, Ty.size, Nat.mul_one] at h g
  refine List.ext_getElem (by omega) fun i a b => ?_
  have h1 := h.2.2 i (by omega)
  have g1 := g.2.2 i (by omega)
  rw [List.drop_eq_getElem_cons a] at h1
  rw [List.drop_eq_getElem_cons b] at g1
  simp only [List.take_succ_cons, List.take_zero, List.cons.injEq, and_true] at h1 g1
  rw [h1, g1]
 | .arr _ .bool, _, _, _, h, _, _ | .arr _ .str, _, _, _, h, _, _ | .arr _ .unit, _, _, _, h, _, _ | .arr _ (.pair _ _), _, _, _, h, _, _ | .arr _ (.arr _ _), _, _, _, h, _, _ | .arr _ (.sl _), _, _, _, h, _, _ | .sl _, _, _, _, h, _, _ => by simp [keyB] at h
theorem DV.same {m : Mem} {t : Ty} {x : t.den} {v u : Value} (hk : keyB t = true) (h : DV m t x v) (g : DV m t x u) : v = u := by
 rcases h.cases with ⟨cs, rfl, h1, h2⟩ | ⟨h1, h2⟩
 ·rcases g.cases with ⟨ds, rfl, _, g2⟩ | ⟨g1, _⟩
  ·have := DRel.same hk h2 g2
   rw [Array.toList_inj.1 this]
  ·rw [h1] at g1; cases g1
 ·rcases g.cases with ⟨ds, _, g1, _⟩ | ⟨_, g2⟩
  ·rw [h1] at g1; cases g1
  ·exact (List.cons.inj (DRel.same hk h2 g2)).1
theorem Q8K (n : Nat) {v : Value} (h : litV v = true) : Instr.sameBits n v v = true := by
 cases v <;> first | (cases h; done) | skip
 ·cases n <;> simp [Instr.sameBits]
 ·cases n <;> simp [Instr.sameBits]
 ·cases n <;> simp [Instr.sameBits, MapKept.bytes_beq]
theorem Qcc {P : Program} {m : Mem} {t : Ty} {x : t.den} {v : Value} (w : World) (hk : keyB t = true) (h : DV m t x v) : (Instr.keyThatStays v v).run P w = .ok v w := by
 have : Instr.sameBits 10000 v v = true := by
  rcases h.cases with ⟨cs, rfl, _, h2⟩ | ⟨_, h2⟩
  ·have hl := h2.lits hk
   simp only [Instr.sameBits, beq_self_eq_true, Bool.true_and, List.all_eq_true]
   intro p hp
   obtain ⟨i, hi, rfl⟩ := List.mem_iff_getElem.1 hp
   rw [List.getElem_zip]
   simp only [List.length_zip, Nat.min_self] at hi
   exact Q8K _ (hl _ (List.getElem_mem _))
  ·exact Q8K _ (h2.lits hk v (by simp))
 simp [Instr.keyThatStays, this]
end Go.Am
set_option linter.unusedSimpArgs false
namespace Go.Am
open Go
theorem Q4i {P : Program} {m : Mem} {μ : LMap} {em : Bool} {d : Nat} {g : TypeId → AVal → Bool} (hg : ∀ T a x w, g T a = true → VRel m μ a x → (Instr.checkKey em d T x).run P w = .ok () w)
  (hag : ∀ T a, g T a = true → Q25 P T = some a.isAgg ∧ Q1q P T = some (P.cellsOf T)) :
  ∀ (fs : List Field) (off : Nat) (a : AVal) (cs : Array Value) (w : World), Q8d g P.cellsOf off fs a = true → CRel m μ a (cs.toList.drop off) → off + a.size = cs.size →
   (forIn fs PUnit.unit (fun (f : Field) (_ : PUnit) => (do
    if f.name ≠ "_" then
     Instr.checkKey em d f.type (← part f.type cs f.offset)
     pure (ForInStep.yield PUnit.unit)
    else pure (ForInStep.yield PUnit.unit) : Sem (ForInStep PUnit)))).run P w = .ok PUnit.unit w
 | [], off, a, cs, w, h, _, _ => rfl
 | f :: fs, off, a, cs, w, h, ha, hla => by
  cases a <;> simp [Q8d] at h
  rename_i a1 a2
  obtain ⟨⟨⟨⟨h1, h2⟩, h3⟩, h4⟩, h5⟩ := h
  simp only [AVal.size, AVal.sh, Sh.size] at hla
  simp only [CRel] at ha
  obtain ⟨g1, g2⟩ := hag _ _ h4
  rw [h3] at g2
  obtain ⟨x, hx1, hx2⟩ := Q4B (P := P) (m := m) (μ := μ) (T := f.type) (x := a1) (cs := cs) (o := off) w g1 g2 (by rw [AVal.size]; omega) ha.1
  have hr := hg _ _ _ w h4 hx2
  rw [List.forIn_cons]
  simp only [ne_eq, h1, not_false_eq_true, if_true, h2, run_bind, hx1, hr, Q0S]
  have ha2 := ha.2
  rw [List.drop_drop] at ha2
  exact Q4i hg hag fs (off + a1.size) a2 cs w h5 ha2 (by simp only [AVal.size]; omega)
theorem Q4D {P : Program} {m : Mem} {em : Bool} {k : IntKind} {e : TypeId} {xs : List Int} {cs : Array Value} {n : Nat} (d : Nat) (hu : P.underlying e = some (.int k)) (hs : Q1q P e = some 1) (hx : DRel m (.arr n (.int k)) xs cs.toList) (w : World) :
  ∀ (l s : Nat), s + l = n → (forIn (List.range' s l) PUnit.unit (fun i (_ : PUnit) => (do
    Instr.checkKey em (d + 1) e (← part e cs (i * (← sizeOf e)))
    pure (ForInStep.yield PUnit.unit) : Sem (ForInStep PUnit)))).run P w = .ok PUnit.unit w
 | 0, s, _ => rfl
 | l + 1, s, h => by
  rw [List.range'_succ, List.forIn_cons]
  have hc : (Instr.checkKey em (d + 1) e (.int k (xs.getD s 0))).run P w = .ok () w := by
   rw [Instr.checkKey]
   simp only [run_bind, Qp hu]
   rfl
  simp only [run_bind, Q1e hs, Nat.mul_one, Q8a hu hx (show s < n by omega), hc, Q0S]
  exact Q4D d hu hs hx w l (s + 1) (by omega)
theorem Q39 {P : Program} {m : Mem} {μ : LMap} {em : Bool} : ∀ (n d : Nat) (T : TypeId) (a : AVal) (v : Value) (w : World), n + 1 ≤ d → eqTy P n T a = true → VRel m μ a v → (Instr.checkKey em d T v).run P w = .ok () w
 | 0, _, _, _, _, _, _, h, _ => by simp [eqTy] at h
 | n + 1, d, T, a, v, w, hd, h, hv => by
  obtain ⟨d, rfl⟩ : ∃ e, d = e + 1 := ⟨d - 1, by omega⟩
  simp only [eqTy] at h
  split at h
  ·rename_i b hu
   have e1 := hv.one rfl rfl
   cases e1
   rw [Instr.checkKey]
   simp only [run_bind, Qp hu]
   rfl
  ·rename_i k k' z hu
   have e1 := hv.one rfl rfl
   cases e1
   rw [Instr.checkKey]
   simp only [run_bind, Qp hu]
   rfl
  ·rename_i s hu
   have e1 := hv.one rfl rfl
   cases e1
   rw [Instr.checkKey]
   simp only [run_bind, Qp hu]
   rfl
  ·rename_i a fs hu
   simp only [Bool.and_eq_true, Bool.not_eq_true'] at h
   obtain ⟨⟨h1, h2⟩, h3⟩ := h
   obtain ⟨cs, rfl, hc⟩ := hv.agg h1
   rw [Instr.checkKey]
   simp only [run_bind, Qp hu]
   rw [← Array.forIn_toList]
   have l1 := hc.length
   have := Q4i (P := P) (m := m) (μ := μ) (em := em) (d := d) (g := eqTy P n) (fun T a x w h1 h2 => Q39 n d T a x w (by omega) h1 h2) (fun T a h => Qaq h) fs.toList 0 _ cs w h3 (by simpa using hc) (by simpa using l1.symm)
   rw [this]
   rfl
  ·rename_i len e n' k xs hu
   simp only [Bool.and_eq_true, beq_iff_eq] at h
   obtain ⟨⟨rfl, h2⟩, h3⟩ := h
   split at h2
   ·rename_i k' hk
    simp only [decide_eq_true_eq] at h2
    subst h2
    obtain ⟨cs, rfl, hc⟩ := hv.agg rfl
    obtain ⟨d, rfl⟩ : ∃ e, d = e + 1 := ⟨d - 1, by omega⟩
    rw [Instr.checkKey]
    simp only [run_bind, Qp hu]
    rw [Std.Legacy.Range.forIn_eq_forIn_range']
    simp only [Std.Legacy.Range.size, Nat.sub_zero, Nat.add_sub_cancel, Nat.div_one]
    rw [Q4D (em := em) d hk h3 hc w len 0 (by omega)]
    rfl
   ·cases h2
  ·cases h
def fnd {β : Type} (t : Ty) (k : t.den) : List (t.den × β) → Option Nat
 | [] => none
 | x :: l => bif eqK t k x.1 then some 0 else (fnd t k l).map (· + 1)
theorem Q61 {β : Type} {t : Ty} {k : t.den} : ∀ {l : List (t.den × β)} {j : Nat}, fnd t k l = some j → ∃ x, l[j]? = some x ∧ eqK t k x.1 = true ∧ mget t k l = some x.2 ∧ ∀ v, mset t k v l = l.set j (k, v) ∧ mdel t k l = l.eraseIdx j
 | x :: l, j, h => by
  simp only [fnd] at h
  cases c : eqK t k x.1 with
  | true =>
   rw [c] at h
   cases h
   exact ⟨x, rfl, c, by simp [mget, c], fun v => ⟨by simp [mset, c], by simp [mdel, c]⟩⟩
  | false =>
   rw [c] at h
   simp only [cond_false, Option.map_eq_some_iff] at h
   obtain ⟨i, h1, rfl⟩ := h
   obtain ⟨y, g1, g2, g3, g4⟩ := Q61 h1
   exact ⟨y, by simpa using g1, g2, by simp [mget, c, g3], fun v => ⟨by simp [mset, c, (g4 v).1], by simp [mdel, c, (g4 v).2]⟩⟩
theorem Q6a {β : Type} {t : Ty} {k : t.den} : ∀ {l : List (t.den × β)}, fnd t k l = none → mget t k l = none ∧ mdel t k l = l ∧ ∀ v, mset t k v l = l ++ [(k, v)]
 | [], _ => ⟨rfl, rfl, fun _ => rfl⟩
 | x :: l, h => by
  simp only [fnd] at h
  cases c : eqK t k x.1 with
  | true => rw [c] at h; cases h
  | false =>
   rw [c] at h
   simp only [cond_false, Option.map_eq_none_iff] at h
   obtain ⟨g1, g2, g3⟩ := Q6a h
   exact ⟨by simp [mget, c, g1], by simp [mdel, c, g2], fun v => by simp [mset, c, g3 v]⟩
theorem MRel.cons {m : Mem} {kt vt : Ty} {x : kt.den × vt.den} {xs : List (kt.den × vt.den)} {e : MapEntry} {es : List MapEntry} : MRel m kt vt (x :: xs) (e :: es) ↔ (DV m kt x.1 e.key ∧ DV m vt x.2 e.val) ∧ MRel m kt vt xs es := by
 constructor
 ·intro h
  exact ⟨h.2 0 x e rfl rfl, by simpa using h.1, fun i y f h1 h2 => h.2 (i + 1) y f (by simpa using h1) (by simpa using h2)⟩
 ·rintro ⟨h1, h2⟩
  refine ⟨by simp [h2.1], fun i y f g1 g2 => ?_⟩
  cases i with
  | zero => cases g1; cases g2; exact h1
  | succ i => exact h2.2 i y f (by simpa using g1) (by simpa using g2)
theorem Q4k {P : Program} {m : Mem} {kt vt : Ty} {K : TypeId} {k : kt.den} {kv : Value} (w : World) (hkb : keyB kt = true) (he : eqTy P 40 K (toA kt k) = true) (hk : DV m kt k kv) :
  ∀ (xs : List (kt.den × vt.den)) (es : List MapEntry) (i : Nat), MRel m kt vt xs es → (Instr.findAsking K kv es i).run P w = .ok ((fnd kt k xs).map fun j => (i + j, (es.getD j default).val)) w
 | [], es, i, h => by
  have : es = [] := List.eq_nil_of_length_eq_zero (by rw [h.1]; rfl)
  subst this
  rfl
 | x :: xs, es, i, h => by
  cases es with
  | nil => have := h.1; simp at this
  | cons e es =>
   rw [MRel.cons] at h
   have hr := Q6L (P := P) (m := m) (μ := fun _ => none) 40 10000 K _ _ _ kv e.key w (by decide) he (Q9K k x.1 hkb) hk.rel h.1.1.rel
   have hr' : (Op.equal K kv e.key).run P w = .ok (eqK kt k x.1) w := hr
   simp only [Instr.findAsking, run_bind, hr']
   simp only [fnd]
   cases c : eqK kt k x.1 with
   | true => simp [Q0S]
   | false =>
    simp only [Bool.false_eq_true, if_false, cond_false]
    rw [Q4k w hkb he hk xs es (i + 1) h.2]
    congr 1
    rw [Option.map_map]
    congr 1
    funext j
    simp only [Function.comp, List.getD_cons_succ]
    congr 1
    omega
theorem Qa8 {P : Program} {m : Mem} {kt : Ty} {K : TypeId} {d : TypeDesc} {k : kt.den} (hu : P.underlying K = some d) (he : eqTy P 40 K (toA kt k) = true) (hkb : keyB kt = true) {kv : Value} (hk : DV m kt k kv) :
  (∀ (y : kt.den) (u : Value), DV m kt y u → Instr.sameNow d kv u = some (eqK kt k y)) ∨ (∀ (y : kt.den) (u : Value), DV m kt y u → Instr.sameNow d kv u = none) := by
 have agg : (toA kt k).isAgg = true → (∀ (y : kt.den) (u : Value), DV m kt y u → Instr.sameNow d kv u = none) := by
  intro ha y u _
  rcases hk.cases with ⟨cs, rfl, _, _⟩ | ⟨h1, _⟩
  ·cases d <;> rfl
  ·rw [ha] at h1; cases h1
 have one : ∀ {y : kt.den} {u : Value}, (toA kt y).isAgg = false → DV m kt y u → DRel m kt y [u] := by
  intro y u ha h
  rcases h.cases with ⟨_, _, h1, _⟩ | ⟨_, h2⟩
  ·rw [ha] at h1; cases h1
  ·exact h2
 unfold eqTy at he
 rw [hu] at he
 cases kt with
 | int q =>
  left
  intro y u h
  have e1 := one rfl hk
  have e2 := one rfl h
  cases e1; cases e2
  cases d <;> simp [toA, AVal.isAgg] at he
  simp [Instr.sameNow, eqK, eqD]
 | bool =>
  left
  intro y u h
  have e1 := one rfl hk
  have e2 := one rfl h
  cases e1; cases e2
  cases d <;> simp [toA, AVal.isAgg] at he
  simp [Instr.sameNow, eqK, eqD]
 | str =>
  left
  intro y u h
  have e1 := one rfl hk
  have e2 := one rfl h
  cases e1; cases e2
  cases d <;> simp [toA, AVal.isAgg] at he
  simp only [Instr.sameNow, eqK, eqD, Option.getD_some, Option.some.injEq]
  rw [Bool.eq_iff_iff, MapKept.bytes_beq, QcJ]
 | unit => exact .inr (agg rfl)
 | pair a b => exact .inr (agg rfl)
 | arr n t => exact .inr (agg rfl)
 | sl t => simp [keyB] at hkb
theorem Q7e {m : Mem} {kt vt : Ty} {d : TypeDesc} {k : kt.den} {kv : Value} (h1 : ∀ (y : kt.den) (u : Value), DV m kt y u → Instr.sameNow d kv u = some (eqK kt k y)) :
  ∀ (xs : List (kt.den × vt.den)) (es : List MapEntry) (i : Nat), MRel m kt vt xs es → Instr.findNow d kv es i = some ((fnd kt k xs).map fun j => (i + j, (es.getD j default).val))
 | [], es, i, h => by
  have : es = [] := List.eq_nil_of_length_eq_zero (by rw [h.1]; rfl)
  subst this
  rfl
 | x :: xs, es, i, h => by
  cases es with
  | nil => have := h.1; simp at this
  | cons e es =>
   rw [MRel.cons] at h
   simp only [Instr.findNow, h1 _ _ h.1.1, fnd]
   cases c : eqK kt k x.1 with
   | true => simp
   | false =>
    simp only [cond_false]
    rw [Q7e h1 xs es (i + 1) h.2]
    congr 1
    rw [Option.map_map]
    congr 1
    funext j
    simp only [Function.comp, List.getD_cons_succ]
    congr 1
    omega
theorem Q4q {P : Program} {m : Mem} {kt vt : Ty} {K : TypeId} {d : TypeDesc} {k : kt.den} {kv : Value} (w : World) (hu : P.underlying K = some d) (hkb : keyB kt = true) (he : eqTy P 40 K (toA kt k) = true) (hk : DV m kt k kv)
  {xs : List (kt.den × vt.den)} {es : List MapEntry} (h : MRel m kt vt xs es) : (Instr.findKey K kv es).run P w = .ok ((fnd kt k xs).map fun j => (j, (es.getD j default).val)) w := by
 unfold Instr.findKey
 simp only [run_bind, Qp hu]
 rcases Qa8 hu he hkb hk with h1 | h1
 ·rw [Q7e h1 xs es 0 h]
  simp [Q0S]
 ·cases es with
  | nil =>
   have : xs = [] := List.eq_nil_of_length_eq_zero (by rw [← h.1]; rfl)
   subst this
   rfl
  | cons e es =>
   cases xs with
   | nil => have := h.1; simp at this
   | cons x xs =>
    have hx := (MRel.cons.1 h).1.1
    simp only [Instr.findNow, h1 _ _ hx]
    rw [Q4k w hkb he hk (x :: xs) (e :: es) 0 h]
    simp
end Go.Am
set_option linter.unusedSimpArgs false
namespace Go.Am
open Go
theorem Q4a {P : Program} {w : World} {r : Nat} {es : Array MapEntry} {c : Nat} (o : Obj) (h : w.heap[r]? = some (.map es c)) : (setObj r o).run P w = .ok () { w with heap := w.heap.setIfInBounds r o } := by
 simp only [setObj, Sem.run, h]
theorem Q3l {P : Program} {T : TypeId} {kt vt : Ty} (h : Q7R P T = some (kt, vt)) : ∃ K V, P.underlying T = some (.map K V) ∧ keyB kt = true := by
 unfold Q7R at h
 split at h
 ·rename_i K V hu
  obtain ⟨a, h1, h2⟩ := Option.bind_eq_some_iff.1 h
  obtain ⟨b, h3, h4⟩ := Option.bind_eq_some_iff.1 h2
  split at h4
  ·rename_i hk
   cases h4
   exact ⟨K, V, hu, hk⟩
  ·cases h4
 ·cases h
theorem Q5C {P : Program} {T K V : TypeId} {k : AVal} {vt : Ty} (hu : P.underlying T = some (.map K V)) (h : Qai P T k vt = true) :
  eqTy P 40 K k = true ∧ ∃ i z, P.info? V = some i ∧ i.zero = some z ∧ z.cells.toList = Q2m vt ∧ Q9i z = (toA vt vt.zero).isAgg := by
 unfold Qai at h
 rw [hu] at h
 simp only [Bool.and_eq_true] at h
 obtain ⟨h1, h2⟩ := h
 refine ⟨h1, ?_⟩
 split at h2
 ·rename_i i hi
  simp only [Bool.and_eq_true] at h2
  obtain ⟨z, g1, g2⟩ := Q4K h2.1
  have h3 := h2.2
  rw [g1] at h3
  simp only [beq_iff_eq] at h3
  exact ⟨i, z, hi, g1, g2, h3⟩
 ·cases h2
theorem Qdi {m : Mem} {vt : Ty} {z : Value} (h1 : z.cells.toList = Q2m vt) (h2 : Q9i z = (toA vt vt.zero).isAgg) : DV m vt vt.zero z := by
 have hr := Q20 m vt
 rw [← h1] at hr
 have hc : CRel m (fun _ => none) (toA vt vt.zero) z.cells.toList := Q1z.2 hr
 have tne : toA vt vt.zero ≠ .undef ∧ ∀ s, toA vt vt.zero ≠ .tup s := by cases vt <;> simp [toA]
 unfold DV Q1C
 split
 ·trivial
 ·exact absurd ‹_› (tne.2 _)
 ·by_cases c : (toA vt vt.zero).isAgg = true
  ·rw [if_pos c]
   rw [c] at h2
   cases z <;> first | (cases h2; done) | exact ⟨_, rfl, hc⟩
  ·rw [if_neg c]
   have : Q9i z = false := by rw [h2]; simpa using c
   cases z <;> first | (cases this; done) | exact hc
theorem Q8f {P : Program} {K : TypeId} {kt : Ty} {a : AVal} {k : kt.den} (hkb : keyB kt = true) (h : Q1n kt a = some k) (he : eqTy P 40 K a = true) : eqTy P 40 K (toA kt k) = true := by
  have : toA kt k = a := by
    have key : ∀ (t : Ty) (a : AVal) (x : t.den), keyB t = true → Q1n t a = some x → toA t x = a := by
      intro t
      induction t with
      | int q => intro a x _ h; cases a <;> simp only [Q1n] at h <;> try (cases h; done)
                 split at h
                 · rename_i e; cases h; subst e; rfl
                 · cases h
      | bool => intro a x _ h; cases a <;> simp only [Q1n] at h <;> first | (cases h; done) | (cases h; rfl)
      | str => intro a x _ h; cases a <;> simp only [Q1n] at h <;> first | (cases h; done) | (cases h; rfl)
      | unit => intro a x _ h; cases a <;> simp only [Q1n] at h <;> first | (cases h; done) | rfl
      | pair t1 t2 ih1 ih2 =>
        intro a x hk h
        simp only [keyB, Bool.and_eq_true] at hk
        cases a <;> simp only [Q1n] at h <;> try (cases h; done)
        obtain ⟨u, g1, g2⟩ := Option.bind_eq_some_iff.1 h
        obtain ⟨v, g3, g4⟩ := Option.bind_eq_some_iff.1 g2
        cases g4
        simp only [toA, ih1 _ _ hk.1 g1, ih2 _ _ hk.2 g3]
      | arr n t ih =>
        intro a x hk h
        cases a <;> simp only [Q1n] at h <;> try (cases h; done)
        split at h
        · rename_i e1
          split at h
          · rename_i e2
            subst e1; subst e2; cases h; rfl
          · cases h
        · cases h
      | sl t ih => intro a x hk h; simp [keyB] at hk
    exact key kt a k hkb h
  rw [this]; exact he
theorem Q8F {P : Program} {m : Mem} {μ : LMap} {H : Heap} {w : World} {T : TypeId} {o : Option AVal} {ov : Option Value} {r : Res} (rh : RH m μ H w) (ho : ∀ x, o = some x → ∃ v, ov = some v ∧ VRel m μ x v) (hn : o = none → ov = none) (h : Q3q P H T o = some r) :
  ∃ u w' μ', (Instr.makeMap T ov).run P w = .ok u w' ∧ VRel m μ' r.v u ∧ Post m μ H w m μ' r.H w' := by
 have fin : ∀ {kt vt : Ty}, Q7R P T = some (kt, vt) → ((∃ q z, ov = some (.int q z)) ∨ ov = none) →
   ∃ u w' μ', (Instr.makeMap T ov).run P w = .ok u w' ∧ VRel m μ' (.mp H.length) u ∧ Post m μ H w m μ' (H ++ [some (.mpc kt vt [])]) w' := by
  intro kt vt ht hv
  obtain ⟨K, V, hu, _⟩ := Q3l ht
  have hp := rh.mapNew kt vt
  refine ⟨.map (some w.heap.size), _, _, ?_, ⟨⟨w.heap.size, 0, .unit, 0, 0, true⟩, if_pos rfl, rfl, rfl⟩, hp⟩
  rcases hv with ⟨q, z, rfl⟩ | rfl
  ·simp only [Instr.makeMap, run_bind, Qp hu]
   rfl
  ·simp only [Instr.makeMap, run_bind]
   rfl
 unfold Q3q at h
 split at h
 ·rename_i kt vt ht
  cases h
  exact fin ht (.inr (hn rfl))
 ·rename_i kt vt q z ht
  cases h
  obtain ⟨v, hv, hr⟩ := ho _ rfl
  have e := hr.one rfl rfl
  cases e
  exact fin ht (.inl ⟨q, z, hv⟩)
 ·cases h
theorem Q9t {P : Program} {m : Mem} {μ : LMap} {H : Heap} {w : World} {T : TypeId} {x k : AVal} {vx vk : Value} {ok : Bool} {r : Res} (rh : RH m μ H w) (hx : VRel m μ x vx) (hk : VRel m μ k vk) (h : Q4S P H T x k ok = some r) :
  r.H = H ∧ ∃ u, (Instr.lookup T vx vk ok).run P w = .ok u w ∧ VRel m μ r.v u := by
 cases x <;> simp only [Q4S] at h <;> try (cases h; done)
 rename_i id
 split at h
 ·rename_i kt vt xs hi
  split at h
  ·rename_i hok
   simp only [Bool.and_eq_true, decide_eq_true_eq] at hok
   obtain ⟨hT, hO⟩ := hok
   obtain ⟨key, hkey, h2⟩ := Option.bind_eq_some_iff.1 h
   cases h2
   obtain ⟨K, V, hu, hkb⟩ := Q3l hT
   obtain ⟨he, i, z, hz1, hz2, hz3, hz4⟩ := Q5C hu hO
   obtain ⟨l, es, c, hl, hp, rfl, hw, hm⟩ := Q9h rh hi hx
   have hkd := DV.of hkey hk
   have he' := Q8f hkb hkey he
   have hkt := (Q3l hT)
   have hKu : ∃ d, P.underlying K = some d := by
    unfold eqTy at he
    cases hd : P.underlying K with
    | none => rw [hd] at he; simp at he
    | some d => exact ⟨d, rfl⟩
   obtain ⟨d, hd⟩ := hKu
   have hck : (Instr.checkKey es.isEmpty 10000 K vk).run P w = .ok () w := Q39 40 10000 K k vk w (by decide) he hk
   have hf := Q4q w hd hkb he' hkd hm
   refine ⟨rfl, ?_⟩
   have hval : ∃ u, DV m vt ((mget kt key xs).getD vt.zero) u ∧ (Instr.lookup T (.map (some l.b)) vk ok).run P w = .ok (if ok = true then .tuple #[u, .bool (mget kt key xs).isSome] else u) w := by
    cases hq : fnd kt key xs with
    | none =>
     obtain ⟨g1, _, _⟩ := Q6a hq
     rw [hq] at hf
     refine ⟨z, ?_, ?_⟩
     ·rw [g1]; exact Qdi hz3 hz4
     ·simp only [Instr.lookup, run_bind, Qp hu, Q2x hw, Q0S, hck, hf, Option.map_none, Q1U hz1 hz2, g1]
      rfl
    | some j =>
     obtain ⟨y, g1, g2, g3, _⟩ := Q61 hq
     rw [hq] at hf
     have hj : j < es.toList.length := by rw [hm.1]; exact (List.getElem?_eq_some_iff.1 g1).1
     have hgd : (es.toList.getD j default) = es.toList[j] := by rw [List.getD_eq_getElem?_getD, List.getElem?_eq_getElem hj]; rfl
     have hdv := (hm.2 j y es.toList[j] g1 (List.getElem?_eq_getElem hj)).2
     refine ⟨(es.toList.getD j default).val, ?_, ?_⟩
     ·rw [g3, hgd]; exact hdv
     ·simp only [Instr.lookup, run_bind, Qp hu, Q2x hw, Q0S, hck, hf, Option.map_some, g3]
      rfl
   obtain ⟨u, hd1, hd2⟩ := hval
   refine ⟨_, hd2, ?_⟩
   unfold mapV
   cases ok with
   | true =>
    simp only [if_true]
    refine ⟨_, rfl, u, [.bool (mget kt key xs).isSome], rfl, ?_, .bool _, [], rfl, rfl, rfl⟩
    have := hd1.rel (μ := μ)
    have tne : toA vt ((mget kt key xs).getD vt.zero) ≠ .undef ∧ ∀ s, toA vt ((mget kt key xs).getD vt.zero) ≠ .tup s := by cases vt <;> simp [toA]
    unfold VRel at this
    split at this
    ·exact absurd ‹_› (tne.2 _)
    ·exact this
   | false =>
    simp only [Bool.false_eq_true, if_false]
    exact hd1.rel
  ·cases h
 ·cases h
end Go.Am
set_option linter.unusedSimpArgs false
namespace Go.Am
open Go
theorem MRel.set {m : Mem} {kt vt : Ty} {xs : List (kt.den × vt.den)} {es : List MapEntry} (h : MRel m kt vt xs es) {j : Nat} {k : kt.den} {v : vt.den} {e : MapEntry} (he : DV m kt k e.key ∧ DV m vt v e.val) : MRel m kt vt (xs.set j (k, v)) (es.set j e) := by
 refine ⟨by rw [List.length_set, List.length_set]; exact h.1, fun i y f g1 g2 => ?_⟩
 by_cases hij : j = i
 ·subst hij
  have l1 : j < xs.length := by
   have := (List.getElem?_eq_some_iff.1 g1).1
   simpa using this
  rw [List.getElem?_set_self l1] at g1
  rw [List.getElem?_set_self (by rw [h.1]; exact l1)] at g2
  cases g1; cases g2
  exact he
 ·rw [List.getElem?_set_ne hij] at g1 g2
  exact h.2 i y f g1 g2
theorem MRel.push {m : Mem} {kt vt : Ty} {xs : List (kt.den × vt.den)} {es : List MapEntry} (h : MRel m kt vt xs es) {k : kt.den} {v : vt.den} {e : MapEntry} (he : DV m kt k e.key ∧ DV m vt v e.val) : MRel m kt vt (xs ++ [(k, v)]) (es ++ [e]) := by
 refine ⟨by simp [h.1], fun i y f g1 g2 => ?_⟩
 rcases Nat.lt_or_ge i xs.length with c | c
 ·rw [List.getElem?_append_left c] at g1
  rw [List.getElem?_append_left (by rw [h.1]; exact c)] at g2
  exact h.2 i y f g1 g2
 ·rw [List.getElem?_append_right c] at g1
  rw [List.getElem?_append_right (by rw [h.1]; exact c)] at g2
  rw [h.1] at g2
  have : i - xs.length = 0 := by
   have := (List.getElem?_eq_some_iff.1 g1).1
   simp at this
   omega
  rw [this] at g1 g2
  cases g1; cases g2
  exact he
theorem MRel.erase {m : Mem} {kt vt : Ty} {xs : List (kt.den × vt.den)} {es : List MapEntry} (h : MRel m kt vt xs es) (j : Nat) : MRel m kt vt (xs.eraseIdx j) (es.eraseIdx j) := by
 refine ⟨by rw [List.length_eraseIdx, List.length_eraseIdx, h.1], fun i y f g1 g2 => ?_⟩
 rw [List.getElem?_eraseIdx] at g1 g2
 split at g1
 ·rw [if_pos ‹_›] at g2; exact h.2 i y f g1 g2
 ·rw [if_neg ‹_›] at g2; exact h.2 (i + 1) y f g1 g2
theorem Q7j {P : Program} {m : Mem} {μ : LMap} {H : Heap} {w : World} {T : TypeId} {x k v : AVal} {vx vk vv : Value} {r : Res} (rh : RH m μ H w) (hx : VRel m μ x vx) (hk : VRel m μ k vk) (hv : VRel m μ v vv) (h : Q2R P H T x k v = some r) :
  r.v = .undef ∧ ∃ w', (Instr.mapUpdate T vx vk vv).run P w = .ok () w' ∧ Post m μ H w m μ r.H w' := by
 cases x <;> simp only [Q2R] at h <;> try (cases h; done)
 rename_i id
 split at h
 ·rename_i kt vt xs hi
  split at h
  ·rename_i hok
   simp only [Bool.and_eq_true, decide_eq_true_eq] at hok
   obtain ⟨hT, hO⟩ := hok
   obtain ⟨key, hkey, h2⟩ := Option.bind_eq_some_iff.1 h
   obtain ⟨val, hval, h3⟩ := Option.bind_eq_some_iff.1 h2
   cases h3
   obtain ⟨K, V, hu, hkb⟩ := Q3l hT
   obtain ⟨he, _⟩ := Q5C hu hO
   obtain ⟨l, es, c, hl, hp, rfl, hw, hm⟩ := Q9h rh hi hx
   have hkd := DV.of hkey hk
   have hvd := DV.of hval hv
   have he' := Q8f hkb hkey he
   have hKu : ∃ d, P.underlying K = some d := by
    unfold eqTy at he
    cases hd : P.underlying K with
    | none => rw [hd] at he; simp at he
    | some d => exact ⟨d, rfl⟩
   obtain ⟨d, hd⟩ := hKu
   have hck : (Instr.checkKey false 10000 K vk).run P w = .ok () w := Q39 40 10000 K k vk w (by decide) he hk
   have hf := Q4q w hd hkb he' hkd hm
   refine ⟨rfl, ?_⟩
   cases hq : fnd kt key xs with
   | none =>
    obtain ⟨_, _, g3⟩ := Q6a hq
    rw [hq] at hf
    have hnew : MRel m kt vt (mset kt key val xs) (es.push { key := vk, val := vv, born := c }).toList := by
     rw [g3, Array.toList_push]
     exact hm.push ⟨hkd, hvd⟩
    refine ⟨_, ?_, rh.mapPut (c' := c + 1) hi hl hp hw hnew⟩
    simp only [Instr.mapUpdate, run_bind, Qp hu, Q2x hw, hck, hf, Option.map_none]
    exact Q4a _ hw
   | some j =>
    obtain ⟨y, g1, g2, _, g4⟩ := Q61 hq
    rw [hq] at hf
    have hj : j < es.toList.length := by rw [hm.1]; exact (List.getElem?_eq_some_iff.1 g1).1
    have hj' : j < es.size := by simpa using hj
    have hold := (hm.2 j y es.toList[j] g1 (List.getElem?_eq_getElem hj)).1
    have hky : key = y.1 := (QdB hkb).1 g2
    have hsame : es[j].key = vk := by
     rw [← hky] at hold
     have := DV.same hkb hold hkd
     simpa using this
    have hst := Qcc (P := P) w hkb hkd
    have hnew : MRel m kt vt (mset kt key val xs) (es.modify j fun e => { e with key := vk, val := vv }).toList := by
     have e1 : (es.modify j fun e => { e with key := vk, val := vv }).toList = es.toList.set j { es[j] with key := vk, val := vv } := by
      apply List.ext_getElem?
      intro i
      rw [Array.getElem?_toList, Array.getElem?_modify]
      by_cases hij : j = i
      ·subst hij
       rw [if_pos rfl, List.getElem?_set_self hj, Array.getElem?_eq_getElem hj']
       rfl
      ·rw [if_neg hij, List.getElem?_set_ne hij, Array.getElem?_toList]
     rw [(g4 val).1, e1]
     exact hm.set ⟨hkd, hvd⟩
    refine ⟨_, ?_, rh.mapPut (c' := c) hi hl hp hw hnew⟩
    have hkk : (((es[j]?).map (·.key)).getD vk) = vk := by
     rw [Array.getElem?_eq_getElem hj']
     exact hsame
    simp only [Instr.mapUpdate, run_bind, Qp hu, Q2x hw, hck, hf, Option.map_some, hkk, hst]
    exact Q4a _ hw
  ·cases h
 ·cases h
theorem Q9D {P : Program} {m : Mem} {μ : LMap} {H : Heap} {w : World} {T ty : TypeId} {x k : AVal} {vx vk : Value} {r : Res} {ats : Array TypeId} {as : Array Value} (rh : RH m μ H w) (hx : VRel m μ x vx) (hk : VRel m μ k vk) (h : Q4Q P H T x k = some r)
  (hT0 : ats[0]? = some T) (hA0 : as[0]? = some vx) (hA1 : as[1]? = some vk) :
  ∃ u w' μ', (Builtin.delete_ ats ty as).run P w = .ok u w' ∧ VRel m μ' r.v u ∧ Post m μ H w m μ' r.H w' := by
 cases x <;> simp only [Q4Q] at h <;> try (cases h; done)
 rename_i id
 split at h
 ·rename_i kt vt xs hi
  split at h
  ·rename_i hok
   simp only [Bool.and_eq_true, decide_eq_true_eq] at hok
   obtain ⟨hT, hO⟩ := hok
   obtain ⟨key, hkey, h2⟩ := Option.bind_eq_some_iff.1 h
   cases h2
   obtain ⟨K, V, hu, hkb⟩ := Q3l hT
   obtain ⟨he, _⟩ := Q5C hu hO
   obtain ⟨l, es, c, hl, hp, rfl, hw, hm⟩ := Q9h rh hi hx
   have hkd := DV.of hkey hk
   have he' := Q8f hkb hkey he
   have hKu : ∃ d, P.underlying K = some d := by
    unfold eqTy at he
    cases hd : P.underlying K with
    | none => rw [hd] at he; simp at he
    | some d => exact ⟨d, rfl⟩
   obtain ⟨d, hd⟩ := hKu
   have hck : (Instr.checkKey es.isEmpty 10000 K vk).run P w = .ok () w := Q39 40 10000 K k vk w (by decide) he hk
   have hf := Q4q w hd hkb he' hkd hm
   cases hq : fnd kt key xs with
   | none =>
    obtain ⟨_, g2, _⟩ := Q6a hq
    rw [hq] at hf
    have hnew : MRel m kt vt (mdel kt key xs) es.toList := by rw [g2]; exact hm
    refine ⟨.tuple #[], _, μ, ?_, ⟨#[], rfl, rfl⟩, rh.mapPut (c' := c) hi hl hp hw hnew⟩
    simp only [Builtin.delete_, hT0, hA0, hA1, run_bind, Qp hu, Q2x hw, hck, hf, Option.map_none, Q4a _ hw]
    rfl
   | some j =>
    obtain ⟨y, g1, g2, _, g4⟩ := Q61 hq
    rw [hq] at hf
    have hj : j < es.toList.length := by rw [hm.1]; exact (List.getElem?_eq_some_iff.1 g1).1
    have hj' : j < es.size := by simpa using hj
    have hnew : MRel m kt vt (mdel kt key xs) (es.eraseIdxIfInBounds j).toList := by
     have e1 : (es.eraseIdxIfInBounds j).toList = es.toList.eraseIdx j := by
      unfold Array.eraseIdxIfInBounds
      rw [dif_pos hj', Array.toList_eraseIdx]
     rw [(g4 y.2).2, e1]
     exact hm.erase j
    refine ⟨.tuple #[], _, μ, ?_, ⟨#[], rfl, rfl⟩, rh.mapPut (c' := c) hi hl hp hw hnew⟩
    simp only [Builtin.delete_, hT0, hA0, hA1, run_bind, Qp hu, Q2x hw, hck, hf, Option.map_some, Q4a _ hw]
    rfl
  ·cases h
 ·cases h
end Go.Am
namespace Go.Am
open Go
set_option maxHeartbeats 2000000 in
theorem Qab {P : Program} {m : Mem} {μ : LMap} {sl : List AVal} {H : Heap} {w : World} {a : Act} {o : Oper} {r : Res} (rh : RH m μ H w) (rs : RS m μ sl a) (h : Q5a P sl H o = some r) (hvc : r.vc = true) :
  Does P m μ H w (execOp a.eval o) r.v r.H := by
 obtain ⟨dst, op, type, pos, after, guard⟩ := o
 unfold Q5a at h
 simp only at h
 split at h <;> simp only [execOp]
 ·cases h; exact Does.pureV rh (Q0V rs _)
 ·cases h; exact Does.pureV rh (Q0V rs _)
 ·rename_i c x y
  split at h
  ·rename_i t hc
   cases h
   have hv := Q0V rs c
   rw [hc] at hv
   have e' : a.eval c = .bool t := hv.isBool
   refine ⟨.value (if t then a.eval x else a.eval y), _, w, μ, ?_, .inl rfl, ?_, .refl rh⟩
   ·rw [e']; simp only [run_bind, asBool, Q0S]
   ·cases t
    ·exact Q0V rs y
    ·exact Q0V rs x
  ·cases h
 ·rename_i T
  cases hz : Q4s P T with
  | none => rw [hz] at h; cases h
  | some z =>
   rw [hz] at h
   cases h
   obtain ⟨i, zv, h1, h2, h3⟩ := Q6e (m := m) (μ := μ) hz
   have := Does.allocA T rh h3 (QcU hz) (P := P)
   obtain ⟨nx, v, w', μ', q1, q2, q3, q4⟩ := this
   refine ⟨nx, v, w', μ', ?_, q2, q3, q4⟩
   rw [← q1]
   simp only [Instr.alloc, run_bind, Q1U h1 h2]
 ·rename_i T x
  split at h
  ·rename_i hok
   cases h
   exact Does.allocA T rh (Q3b (Q0V rs x) hok) (Q93 hok)
  ·cases h
 ·rename_i T parts
  cases hz : Q4s P T with
  | none => rw [hz] at h; cases h
  | some z =>
   rw [hz] at h
   simp only [Option.bind_some] at h
   split at h
   ·rename_i hok
    cases hb : Q48 P T z (parts.toList.map fun p => (p.1, Q0T sl p.2)) with
    | none => rw [hb] at h; cases h
    | some v =>
     rw [hb] at h
     cases h
     obtain ⟨u, h1, h2⟩ := Qar (P := P) (m := m) (μ := μ) (w := w) (vals := parts.map fun (i, x) => (i, a.eval x)) hz hok (by simpa using Q6z rs parts.toList) hb
     exact Does.val rh h1 h2
   ·cases h
 ·rename_i T len parts
  split at h
  ·rename_i e hu
   split at h
   ·rename_i t i ht hi
    split at h
    ·rename_i hok
     simp only [Bool.and_eq_true, beq_iff_eq, bne_iff_ne, decide_eq_true_eq] at hok
     obtain ⟨⟨⟨h1, h2⟩, h3⟩, h4⟩ := hok
     cases hb : Q2k t.size (.vec t (List.replicate len t.zero)) (parts.toList.map fun p => (p.1, Q0T sl p.2)) with
     | none => rw [hb] at h; cases h
     | some c =>
      rw [hb] at h
      cases h
      exact Does.ofVal (Q6l (vals := parts.map fun (i, x) => (i, a.eval x)) rh hu hi h1 h2 h3 h4 (by simpa using Q6z rs parts.toList) hb (fun _ h => Q6t ht h))
    ·cases h
   ·cases h
  ·cases h
 ·exact Does.ofSame rh (Q8w rh (Q0V rs _) h)
 ·rename_i T x y
  obtain ⟨hv, w', h1, h2⟩ := Q9Z rh (Q0V rs x) (Q0V rs y) h
  refine ⟨.skip, undef, w', μ, by simp only [run_bind, h1, Q0S], .inr ⟨rfl, rfl⟩, by rw [hv]; trivial, h2⟩
 ·rename_i x
  have hv := Q0V rs x
  split at h
  ·rename_i i p hx
   cases h
   rw [hx] at hv
   obtain ⟨l, o, s, g1, g2, he⟩ := hv.one rfl rfl
   have e' : a.eval x = .pointer (some ⟨l.b, l.off + o, none⟩) := (List.cons.inj he).1
   rw [e']
   exact Does.pureV rh ⟨l, o, s, g1, g2, rfl⟩
  ·rename_i t y hx
   cases h
   rw [hx] at hv
   obtain ⟨ad, c, he, g⟩ := hv.one rfl rfl
   have e' : a.eval x = .pointer (some ad) := (List.cons.inj he).1
   rw [e']
   exact Does.pureV rh ⟨ad, c, rfl, g⟩
  ·rename_i f c hx
   cases h
   rw [hx] at hv
   obtain ⟨cap, he, g⟩ := hv.one rfl rfl
   have e' : a.eval x = .func (.func f) #[] cap := (List.cons.inj he).1
   rw [e']
   exact Does.pureV rh ⟨cap, rfl, g⟩
  ·cases h
 ·rename_i op T x y yT
  cases hb : binA P op T (Q0T sl x) (Q0T sl y) with
  | none => rw [hb] at h; cases h
  | some q =>
   rw [hb] at h
   cases h
   obtain ⟨z, h1, h2⟩ := Qc5 (P := P) (w := w) (xo := x) (yo := y) (Q0V rs x) (Q0V rs y) hb hvc
   exact Does.val rh h1 h2
 ·rename_i op T x
  cases hb : unA op (Q0T sl x) with
  | none => rw [hb] at h; cases h
  | some q =>
   rw [hb] at h
   cases h
   obtain ⟨u, h1, h2⟩ := QbX (P := P) w hb (Q0V rs x)
   exact Does.val rh h1 h2
 ·exact Does.ofVal (Q8y rh (Q0V rs _) h)
 ·exact Does.ofSame rh (Q9k rh (Q0V rs _) h hvc)
 ·rename_i f first caps
  split at h
  ·rename_i hok
   cases h
   simp only [Bool.and_eq_true] at hok
   obtain ⟨h1, h2⟩ := hok
   have hf : first.map a.eval = #[] := by
    have : first = #[] := by simpa using h1
    rw [this]; simp
   rw [hf]
   refine Does.val rh (v := .func (.func f) #[] (caps.map a.eval)) rfl ⟨caps.map a.eval, rfl, ?_⟩
   have := Qad rs caps.toList (fun x hx => by
    have := List.all_eq_true.1 h2 x hx
    simp only [Bool.and_eq_true, Bool.not_eq_true'] at this
    exact this)
   simpa using this
  ·cases h
 ·exact Does.ofVal (Q7f rh (Q0V rs _) (Q0V rs _) h hvc)
 ·rename_i T x lo hi mx
  cases mx with
  | some _ => simp [Q6r] at h
  | none => exact Does.ofSame rh (Q9X rh (Q0V rs x) (QbJ rs lo) (QbJ rs hi) h hvc)
 ·exact Does.ofSame rh (Q7l rh (Q0V rs _) h)
 ·exact Does.ofSame rh (QaA (Q0V rs _) h)
 ·exact Does.ofSame rh (Q7k rh (Q0V rs _) (Q0V rs _) h hvc)
 ·exact Does.ofSame rh (Qay (Q0V rs _) (Q0V rs _) h hvc)
 ·rename_i T o
  exact Does.ofVal (Q8F rh (fun x hx => by
   cases o with
   | none => cases hx
   | some q => simp only [Option.map_some, Option.some.injEq] at hx; subst hx; exact ⟨_, rfl, Q0V rs q⟩) (fun hx => by
   cases o with
   | none => rfl
   | some q => cases hx) h)
 ·exact Does.ofSame rh (Q9t rh (Q0V rs _) (Q0V rs _) h)
 ·rename_i T x k v
  obtain ⟨hv, w', h1, h2⟩ := Q7j rh (Q0V rs x) (Q0V rs k) (Q0V rs v) h
  refine ⟨.skip, undef, w', μ, by simp only [run_bind, h1, Q0S], .inr ⟨rfl, rfl⟩, by rw [hv]; trivial, h2⟩
 ·rename_i t i
  have hv := Q0V rs t
  split at h
  ·rename_i s hs
   rw [hs] at hv
   cases hn : nthA s i with
   | none => rw [hn] at h; cases h
   | some x =>
    rw [hn] at h
    cases h
    obtain ⟨vs, he, ht⟩ := hv
    obtain ⟨v, h1, h2⟩ := Qbs ht hn
    refine Does.val rh (v := v) ?_ (Qaa h2)
    rw [he]
    simp only [Instr.extract]
    have : vs[i]? = some v := by simpa using h1
    rw [this]; rfl
  ·cases h
 ·rename_i b args ats
  have hA : ∀ (i : Nat) (x : Operand), args.toList[i]? = some x → (args.map a.eval)[i]? = some (a.eval x) := by
   intro i x hx
   have : args[i]? = some x := by simpa using hx
   simp [Array.getElem?_map, this]
  have hT : ∀ (i : Nat) (T : TypeId), ats.toList[i]? = some T → ats[i]? = some T := by
   intro i T hx; simpa using hx
  split at h
  ·rename_i T tl x xl h1 h2
   have := Qcl (ty := type) (ats := ats) (as := args.map a.eval) rh (Q0V rs x) h (hT 0 T (by rw [h1]; rfl)) (hA 0 x (by rw [h2]; rfl))
   exact Does.ofSame rh this
  ·rename_i T tl x k xl h1 h2
   exact Does.ofVal (Q9D (ty := type) (ats := ats) (as := args.map a.eval) rh (Q0V rs x) (Q0V rs k) h (hT 0 T (by rw [h1]; rfl)) (hA 0 x (by rw [h2]; rfl)) (hA 1 k (by rw [h2]; rfl)))
  ·rename_i S X tl s x xl h1 h2
   exact Does.ofVal (Q9C (ats := ats) (as := args.map a.eval) type rh (Q0V rs s) (Q0V rs x) h hvc (hT 0 S (by rw [h1]; rfl)) (hT 1 X (by rw [h1]; rfl)) (hA 0 s (by rw [h2]; rfl)) (hA 1 x (by rw [h2]; rfl)))
  ·rename_i D tl d x xl h1 h2
   exact Does.ofVal (QaF (ats := ats) (as := args.map a.eval) type rh (Q0V rs d) (Q0V rs x) h (hT 0 D (by rw [h1]; rfl)) (hA 0 d (by rw [h2]; rfl)) (hA 1 x (by rw [h2]; rfl)))
  ·rename_i x y h2
   have hl : (args.map a.eval).toList = [a.eval x, a.eval y] := by simp [h2]
   have vx := Q0V rs x
   have vy := Q0V rs y
   split at h
   ·rename_i k p k' q hp hq
    split at h
    ·rename_i hk
     subst hk
     cases h
     rw [hp] at vx; rw [hq] at vy
     have e1 := vx.isInt
     have e2 := vy.isInt
     refine Does.val rh (v := .int k (if q < p then q else p)) ?_ rfl
     simp only [Builtin.min_, hl, e1, e2]
     rfl
    ·cases h
   ·cases h
  ·rename_i x y h2
   have hl : (args.map a.eval).toList = [a.eval x, a.eval y] := by simp [h2]
   have vx := Q0V rs x
   have vy := Q0V rs y
   split at h
   ·rename_i k p k' q hp hq
    split at h
    ·rename_i hk
     subst hk
     cases h
     rw [hp] at vx; rw [hq] at vy
     have e1 := vx.isInt
     have e2 := vy.isInt
     refine Does.val rh (v := .int k (if q > p then q else p)) ?_ rfl
     simp only [Builtin.max_, hl, e1, e2]
     rfl
    ·cases h
   ·cases h
  ·cases h
 ·cases h
end Go.Am
namespace Go.Am
open Go
theorem QcV {sl sl2 : List AVal} {x : Operand} (h : ∀ t, x = .tmp t → sl2.getD t .undef = sl.getD t .undef) : Q0T sl2 x = Q0T sl x := by
 cases x <;> first | rfl | exact h _ rfl
theorem Q2z {P : Program} {sl sl2 : List AVal} {H : Heap} {o : Oper} (h : ∀ x ∈ o.op.operands, Q0T sl2 x = Q0T sl x) : Q5a P sl2 H o = Q5a P sl H o := by
 obtain ⟨dst, op, type, pos, after, guard⟩ := o
 have pairs : ∀ ps : Array (Nat × Operand), (∀ x, x ∈ (ps.toList.map (·.2)).toArray → Q0T sl2 x = Q0T sl x) →
   (ps.toList.map fun p => (p.1, Q0T sl2 p.2)) = (ps.toList.map fun p => (p.1, Q0T sl p.2)) := fun ps hp =>
  List.map_congr_left fun p hm => by
   rw [hp p.2 (by simp; exact ⟨p.1, by simpa using hm⟩)]
 cases op <;> simp only [Op.operands] at h <;> simp only [Q5a]
 case build t ps => rw [pairs ps h]
 case buildSlice t n ps => rw [pairs ps h]
 case makeFunc fn first captured =>
  cases fn <;> try rfl
  have hc : ∀ x ∈ captured.toList, Q0T sl2 x = Q0T sl x := fun x hx => h x (by simp at hx; simp [hx])
  have h1 : (captured.toList.all fun x => Q1Y (Q0T sl2 x) && !(Q0T sl2 x).isAgg) = (captured.toList.all fun x => Q1Y (Q0T sl x) && !(Q0T sl x).isAgg) := by
   rw [Bool.eq_iff_iff]
   simp only [List.all_eq_true]
   exact ⟨fun g x hx => by rw [← hc x hx]; exact g x hx, fun g x hx => by rw [hc x hx]; exact g x hx⟩
  have h2 : (captured.toList.foldr (fun x r => AVal.pair (Q0T sl2 x) r) .unit) = (captured.toList.foldr (fun x r => AVal.pair (Q0T sl x) r) .unit) := by
   have : ∀ l : List Operand, (∀ x ∈ l, Q0T sl2 x = Q0T sl x) → (l.foldr (fun x r => AVal.pair (Q0T sl2 x) r) .unit) = (l.foldr (fun x r => AVal.pair (Q0T sl x) r) .unit) := by
    intro l
    induction l with
    | nil => intro _; rfl
    | cons x l ih => intro g; simp only [List.foldr_cons]; rw [g x (by simp), ih fun y hy => g y (by simp [hy])]
   exact this _ hc
  dsimp only
  rw [h1, h2]
 case slice t x lo hi mx =>
  rw [h x (by simp)]
  have g : ∀ y : Option Operand, (∀ x ∈ y.toArray, Q0T sl2 x = Q0T sl x) → y.map (Q0T sl2) = y.map (Q0T sl) := by
   intro y hy; cases y with
   | none => rfl
   | some y => simp only [Option.map_some]; rw [hy y (by simp)]
  rw [g lo fun x hx => h x (by simp at hx; simp [hx]), g hi fun x hx => h x (by simp at hx; simp [hx])]
 case makeMap t r =>
  cases r with
  | none => rfl
  | some y => simp only [Option.map_some]; rw [h y (by simp)]
 case call c =>
  obtain ⟨callee, args, argTypes⟩ := c
  cases callee <;> try rfl
  rename_i b
  have hc : ∀ x ∈ args.toList, Q0T sl2 x = Q0T sl x := fun x hx => h x (by simp at hx; simp [Call.operands, hx])
  revert hc
  dsimp only
  generalize args.toList = l
  intro hc
  generalize argTypes.toList = ts
  rcases l with _ | ⟨y, _ | ⟨z, _ | ⟨u, l⟩⟩⟩ <;> rcases ts with _ | ⟨S, _ | ⟨X, ts⟩⟩ <;> cases b <;> try rfl
  all_goals dsimp only
  all_goals first
   | done
   | rfl
   | (have e1 := hc _ (.head _); rw [e1]; done)
   | (have e1 := hc _ (.head _); have e2 := hc _ (.tail _ (.head _)); rw [e1, e2]; done)
   | (have e1 := hc _ (.head _); have e2 := hc _ (.tail _ (.head _)); simp only [e1, e2]; done)
 all_goals first | rfl | (simp_all; done)
end Go.Am
namespace Go.Am
open Go
def Q57 (ts : List Tmp) (sl2 sl : List AVal) : Prop := ∀ t, t ∈ ts → sl2.getD t .undef = sl.getD t .undef
def Q1s (m : Mem) (μ : LMap) : List AVal → List Value → Prop
 | [], [] => True
 | a :: as, v :: vs => VRel m μ a v ∧ Q1s m μ as vs
 | _, _ => False
theorem Q1s.append {m : Mem} {μ : LMap} : ∀ {as bs : List AVal} {vs us : List Value}, Q1s m μ as vs → Q1s m μ bs us → Q1s m μ (as ++ bs) (vs ++ us)
 | [], _, [], _, _, h => h
 | _ :: _, _, _ :: _, _, ⟨h1, h2⟩, h => ⟨h1, Q1s.append h2 h⟩
 | [], _, _ :: _, _, h, _ | _ :: _, _, [], _, h, _ => h.elim
theorem Q1s.length {m : Mem} {μ : LMap} : ∀ {as : List AVal} {vs : List Value}, Q1s m μ as vs → vs.length = as.length
 | [], [], _ => rfl
 | _ :: _, _ :: _, ⟨_, h2⟩ => by simp [Q1s.length h2]
 | [], _ :: _, h | _ :: _, [], h => h.elim
theorem Q1s.get {m : Mem} {μ : LMap} : ∀ {as : List AVal} {vs : List Value}, Q1s m μ as vs → ∀ {i : Nat} {x : AVal}, as[i]? = some x → ∃ v, vs[i]? = some v ∧ VRel m μ x v
 | [], [], _, i, x, hx => by simp at hx
 | a :: as, v :: vs, ⟨h1, h2⟩, i, x, hx => by
  cases i with
  | zero => simp only [List.getElem?_cons_zero, Option.some.injEq] at hx; subst hx; exact ⟨v, rfl, h1⟩
  | succ i => simp only [List.getElem?_cons_succ] at hx ⊢; exact Q1s.get h2 hx
 | [], _ :: _, h, _, _, _ | _ :: _, [], h, _, _, _ => h.elim
def Came (m : Mem) (μ : LMap) (H : Heap) (w : World) (v : AVal) (H' : Heap) (e : Ending) (w' : World) : Prop :=
 ∃ u m' μ', e = .returned u ∧ VRel m' μ' v u ∧ Post m μ H w m' μ' H' w'
def Q5n (P : Program) (f : Nat) (args : List AVal) (H : Heap) (v : AVal) (H' : Heap) : Prop :=
 ∀ (m : Mem) (μ : LMap) (w : World) (vs : List Value), RH m μ H w → Q1s m μ args vs →
  ∃ nx w1, (callFunc f vs.toArray).run P w = .ok nx w1 ∧
   ((∃ g as, nx = .enter g as ∧ Calls P g as w1 (Came m μ H w v H')) ∨ (∃ u, nx = .value u ∧ Came m μ H w v H' (.returned u) w1))
def Q7m (P : Program) (f : Nat) (args : List AVal) (H : Heap) (v : AVal) (H' : Heap) : Eff → Prop
 | .pure => H' = H ∧ ∀ H2, Q5n P f args H2 v H2
 | .read ids => H' = H ∧ ∀ H2 : Heap, (∀ i, i ∈ ids → H2[i]? = H[i]?) → Q5n P f args H2 v H2
 | .push _ _ => False
 | .wr _ => False
 | .touch n ts => (∀ i, i < n → i ∉ ts → H'[i]? = H[i]?) ∧ Q5n P f args H v H'
 | .mut => Q5n P f args H v H'
def Qu (P : Program) (f : Nat) (s : QS) : Prop :=
 ∀ {ρ : Type} (args : List AVal) (H : Heap) (k : AVal → Heap → Eff → Option ρ) (r : ρ), s.f args H k = some r → ∃ v H' e, k v H' e = some r ∧ Q7m P f args H v H' e
def OpDo (P : Program) (o : Oper) (sl : List AVal) (H : Heap) (v : AVal) (H' : Heap) : Prop :=
 ∀ (m : Mem) (μ : LMap) (w : World) (a : Act) (Q : Exit → Act → World → Prop) (K : Act → World → Prop), RH m μ H w → RS m μ sl a →
  (∀ u w' m' μ', VRel m' μ' v u → Post m μ H w m' μ' H' w' → K (a.put o.dst u) w') → o.wp P a w K Q
def OpOK (P : Program) (ops : Array Oper) (i : Nat) (o : Oper) (sl : List AVal) (H : Heap) (v : AVal) (H' : Heap) : Prop :=
 ∀ (m : Mem) (μ : LMap) (w : World) (a : Act) (Q : Exit → Act → World → Prop) (K : Act → World → Prop), RH m μ H w → RS m μ sl a →
  (∀ u w' m' μ', VRel m' μ' v u → Post m μ H w m' μ' H' w' → K (a.put o.dst u) w') → wpOp P ops Q i K a w
def Stp (P : Program) (ops : Array Oper) (i : Nat) (o : Oper) (sl : List AVal) (H : Heap) (v : AVal) (H' : Heap) : Eff → Prop
 | .pure => H' = H ∧ ∀ sl2 H2, Q57 (o.looksAt ops) sl2 sl → OpOK P ops i o sl2 H2 v H2
 | .read ids => H' = H ∧ ∀ sl2 (H2 : Heap), Q57 (o.looksAt ops) sl2 sl → (∀ i, i ∈ ids → H2[i]? = H[i]?) → OpOK P ops i o sl2 H2 v H2
 | .push n ids => n = H.length ∧ ∃ b fr, QbM fr ∧ dryA b = true ∧ v = fr n ∧ H' = H ++ [some b] ∧
   ∀ sl2 (H2 : Heap), Q57 (o.looksAt ops) sl2 sl → (∀ i, i ∈ ids → H2[i]? = H[i]?) → OpOK P ops i o sl2 H2 (fr H2.length) (H2 ++ [some b])
 | .wr id => id < H.length ∧ ∃ c', H' = H.set id (some c') ∧ ∀ sl2 (H2 : Heap), Q57 (o.looksAt ops) sl2 sl → H2[id]? = H[id]? → OpOK P ops i o sl2 H2 v (H2.set id (some c'))
 | .touch n ts => (∀ i, i < n → i ∉ ts → H'[i]? = H[i]?) ∧ ∀ sl2, Q57 (o.looksAt ops) sl2 sl → OpOK P ops i o sl2 H v H'
 | .mut => ∀ sl2, Q57 (o.looksAt ops) sl2 sl → OpOK P ops i o sl2 H v H'
def QbR (P : Program) (o : Oper) (sl : List AVal) (H : Heap) (v : AVal) (H' : Heap) : Eff → Prop
 | .pure => H' = H ∧ ∀ sl2 H2, (∀ x ∈ o.op.operands, Q0T sl2 x = Q0T sl x) → OpDo P o sl2 H2 v H2
 | .read ids => H' = H ∧ ∀ sl2 (H2 : Heap), (∀ x ∈ o.op.operands, Q0T sl2 x = Q0T sl x) → (∀ i, i ∈ ids → H2[i]? = H[i]?) → OpDo P o sl2 H2 v H2
 | .push n ids => n = H.length ∧ ∃ b fr, QbM fr ∧ dryA b = true ∧ v = fr n ∧ H' = H ++ [some b] ∧
   ∀ sl2 (H2 : Heap), (∀ x ∈ o.op.operands, Q0T sl2 x = Q0T sl x) → (∀ i, i ∈ ids → H2[i]? = H[i]?) → OpDo P o sl2 H2 (fr H2.length) (H2 ++ [some b])
 | .wr id => id < H.length ∧ ∃ c', H' = H.set id (some c') ∧ ∀ sl2 (H2 : Heap), (∀ x ∈ o.op.operands, Q0T sl2 x = Q0T sl x) → H2[id]? = H[id]? → OpDo P o sl2 H2 v (H2.set id (some c'))
 | .touch n ts => (∀ i, i < n → i ∉ ts → H'[i]? = H[i]?) ∧ ∀ sl2, (∀ x ∈ o.op.operands, Q0T sl2 x = Q0T sl x) → OpDo P o sl2 H v H'
 | .mut => ∀ sl2, (∀ x ∈ o.op.operands, Q0T sl2 x = Q0T sl x) → OpDo P o sl2 H v H'
theorem Q3d {P : Program} {o : Oper} {sl : List AVal} {H : Heap} {r : Res} (h : Q5a P sl H o = some r) (hvc : r.vc = true) : OpDo P o sl H r.v r.H := by
 intro m μ w a Q K rh rs hK
 obtain ⟨nx, v, w', μ', h1, h2, h3, h4⟩ := Qab rh rs h hvc
 unfold Oper.wp
 rw [h1]
 rcases h2 with rfl | ⟨rfl, rfl⟩
 ·exact hK _ _ _ _ h3 h4
 ·exact hK _ _ _ _ h3 h4
theorem Qbb {P : Program} {o : Oper} {sl : List AVal} {H : Heap} {r : Res} (h : Q5a P sl H o = some r) (hvc : r.vc = true) : QbR P o sl H r.v r.H r.e := by
 have hh := Q9M P sl H o r h
 obtain ⟨vc, v, H', e⟩ := r
 dsimp only at *
 subst hvc
 cases e with
 | pure => exact ⟨hh.1, fun sl2 H2 hs => Q3d (r := ⟨true, v, H2, .pure⟩) (by rw [Q2z hs]; exact hh.2 H2) rfl⟩
 | read ids => exact ⟨hh.1, fun sl2 H2 hs hi => Q3d (r := ⟨true, v, H2, .read ids⟩) (by rw [Q2z hs]; exact hh.2 H2 hi) rfl⟩
 | push n ids =>
  obtain ⟨h1, b, fr, h2, h3, h4, h5, h6⟩ := hh
  exact ⟨h1, b, fr, h2, h3, h4, h5, fun sl2 H2 hs hi => Q3d (r := ⟨true, fr H2.length, H2 ++ [some b], .push H2.length ids⟩) (by rw [Q2z hs]; exact h6 H2 hi) rfl⟩
 | wr id =>
  obtain ⟨h1, c', h2, h3⟩ := hh
  exact ⟨h1, c', h2, fun sl2 H2 hs hi => Q3d (r := ⟨true, v, H2.set id (some c'), .wr id⟩) (by rw [Q2z hs]; exact h3 H2 hi) rfl⟩
 | touch n ts => exact ⟨hh, fun sl2 hs => Q3d (r := ⟨true, v, H', .touch n ts⟩) (by rw [Q2z hs]; exact h) rfl⟩
 | «mut» => exact fun sl2 hs => Q3d (r := ⟨true, v, H', .mut⟩) (by rw [Q2z hs]; exact h) rfl
theorem Q8N {m : Mem} {μ : LMap} : ∀ {c : AVal} {cs : List Value}, Q5q c = true → CRel m μ c cs → Q1s m μ (Qbv c) cs
 | .unit, cs, _, h => by simp only [CRel] at h; subst h; trivial
 | .pair a b, cs, hc, h => by
  simp only [Q5q, Bool.and_eq_true, Bool.not_eq_true'] at hc
  simp only [CRel] at h
  obtain ⟨v, hv⟩ := h.1.one hc.1
  have hs : a.size = 1 := by unfold AVal.size; rw [Q55 hc.1]; rfl
  rw [hs] at hv h
  cases cs with
  | nil => cases hv
  | cons x l =>
   rw [hv] at h
   have : v = x := by simpa using hv.symm
   subst this
   exact ⟨Q3j h.1 hc.1, Q8N hc.2 (by simpa using h.2)⟩
 | .undef, _, h, _ | .int _ _, _, h, _ | .bool _, _, h, _ | .str _, _, h, _ | .nilp, _, h, _ | .nils, _, h, _ | .ptr _ _, _, h, _ | .sl _ _ _ _, _, h, _ | .ros _ _, _, h, _ | .rop _ _, _, h, _
 | .parr _ _ _ _, _, h, _ | .arr _ _ _, _, h, _ | .vec _ _, _, h, _ | .vsl _, _, h, _ | .fn _ _, _, h, _ | .tup _, _, h, _ => by simp [Q5q] at h
theorem Qa7 {m : Mem} {μ : LMap} {sl : List AVal} {a : Act} (rs : RS m μ sl a) : ∀ l : List Operand, Q1s m μ (l.map (Q0T sl)) (l.map a.eval)
 | [] => trivial
 | x :: l => ⟨Q0V rs x, Qa7 rs l⟩
theorem Q52 {P : Program} {o : Oper} {sl : List AVal} {H H' : Heap} {v : AVal} {f : Operand} {args : Array Operand} {ats : Array TypeId} {i : Nat} {caps : AVal}
  (ho : o.op = .call ⟨.value f, args, ats⟩) (hf : Q0T sl f = .fn i caps) (hc : Q5q caps = true) (h : Q5n P i (args.toList.map (Q0T sl) ++ Qbv caps) H v H') : OpDo P o sl H v H' := by
 intro m μ w a Q K rh rs hK
 have hfr := Q0V rs f
 rw [hf] at hfr
 obtain ⟨cap, h1, h2⟩ : ∃ cap : Array Value, [a.eval f] = [.func (.func i) #[] cap] ∧ CRel m μ caps cap.toList := hfr
 have h1' : a.eval f = .func (.func i) #[] cap := by simpa using h1
 obtain ⟨nx, w1, h3, h4⟩ := h m μ w (args.toList.map a.eval ++ cap.toList) rh ((Qa7 rs _).append (Q8N hc h2))
 have he : execOp a.eval o = callFunc i (args.toList.map a.eval ++ cap.toList).toArray := by
  unfold execOp
  rw [ho]
  simp only [resolve, h1', Deferred.ofValue, invoke]
  show callFunc i ((#[] ++ args.map a.eval) ++ cap) = _
  congr 1
  apply Array.toList_inj.1
  simp
 unfold Oper.wp
 rw [he, h3]
 rcases h4 with ⟨g, as, rfl, h5⟩ | ⟨u, rfl, h5⟩
 ·simp only [Oper.upon]
  refine h5.mono fun e w' h6 => ?_
  obtain ⟨u, m', μ', rfl, h7, h8⟩ := h6
  exact hK _ _ _ _ h7 h8
 ·obtain ⟨u', m', μ', hu, h7, h8⟩ := h5
  cases hu
  exact hK _ _ _ _ h7 h8
theorem Q7M {ρ : Type} {C : Ctx} (hΓ : ∀ f, Qu C.P f (C.Γ f)) {o : Oper} {st : St} {k : St → Eff → Option ρ} {r : ρ} (h : evOp C o st k = some r) :
  ∃ v H' e, QbR C.P o st.sl st.H v H' e ∧ k ⟨putA st.sl o.dst v, H'⟩ e = some r := by
 unfold evOp at h
 split at h
 ·rename_i f args ats ho
  split at h
  ·rename_i i caps hf
   cases hc : Q5q caps with
   | false => rw [hc] at h; cases h
   | true =>
    rw [hc] at h
    simp only [cond_true] at h
    obtain ⟨v, H', e, h1, h2⟩ := hΓ i _ _ _ _ h
    refine ⟨v, H', e, ?_, h1⟩
    have key : ∀ sl2 : List AVal, (∀ x ∈ o.op.operands, Q0T sl2 x = Q0T st.sl x) → Q0T sl2 f = .fn i caps ∧ args.toList.map (Q0T sl2) = args.toList.map (Q0T st.sl) := by
     intro sl2 hs
     rw [ho] at hs
     refine ⟨by rw [hs f (by simp [Op.operands, Call.operands])]; exact hf, List.map_congr_left fun x hx => hs x ?_⟩
     have : x ∈ args := by simpa using hx
     simp [Op.operands, Call.operands, this]
    cases e with
    | pure => exact ⟨h2.1, fun sl2 H2 hs => Q52 ho (key sl2 hs).1 hc (by rw [(key sl2 hs).2]; exact h2.2 H2)⟩
    | read ids => exact ⟨h2.1, fun sl2 H2 hs hi => Q52 ho (key sl2 hs).1 hc (by rw [(key sl2 hs).2]; exact h2.2 H2 hi)⟩
    | push n ids => exact h2.elim
    | wr id => exact h2.elim
    | touch n ts => exact ⟨h2.1, fun sl2 hs => Q52 ho (key sl2 hs).1 hc (by rw [(key sl2 hs).2]; exact h2.2)⟩
    | «mut» => exact fun sl2 hs => Q52 ho (key sl2 hs).1 hc (by rw [(key sl2 hs).2]; exact h2)
  ·cases h
 ·split at h
  ·rename_i r' hr
   cases hv : r'.vc with
   | false => rw [hv] at h; cases h
   | true => rw [hv] at h; exact ⟨_, _, _, Qbb hr hv, h⟩
  ·cases h
end Go.Am
namespace Go.Am
open Go
theorem Q3e {ops : Array Oper} {o : Oper} {sl2 sl : List AVal} (h : Q57 (o.looksAt ops) sl2 sl) : ∀ x ∈ o.op.operands, Q0T sl2 x = Q0T sl x := by
 intro x hx
 refine QcV fun t ht => h t ?_
 subst ht
 exact List.mem_append_left _ (List.mem_filterMap.2 ⟨.tmp t, by simpa using hx, rfl⟩)
theorem Q4O {ops : Array Oper} {o : Oper} {sl2 sl : List AVal} {j d : Nat} {want : Bool} (h : Q57 (o.looksAt ops) sl2 sl) (hg : o.guard = some (j, want)) (hd : (ops[j]?).bind (·.dst) = some d) :
  sl2.getD d .undef = sl.getD d .undef := by
 refine h d ?_
 simp [Oper.looksAt, hg, hd]
theorem Q9v {sl : List AVal} {d : Nat} {x : AVal} (h : sl.getD d .undef = x) (hx : x ≠ .undef) : sl[d]? = some x := by
 rw [List.getD_eq_getElem?_getD] at h
 cases hs : sl[d]? with
 | none => rw [hs] at h; exact absurd h.symm hx
 | some y => rw [hs] at h; simpa using h
theorem Q5F {m : Mem} {μ : LMap} {ops : Array Oper} {sl : List AVal} {a : Act} {j d : Nat} {b : Bool} (rs : RS m μ sl a) (hd : (ops[j]?).bind (·.dst) = some d) (h : sl.getD d .undef = .bool b) :
  yielded ops a.tmps j = some b := by
 obtain ⟨v, h1, h2⟩ := rs.rel d _ (Q9v h (by simp))
 have : v = .bool b := by simpa [VRel, Q1C, AVal.isAgg, CRel] using h2
 subst this
 simp [yielded, hd, h1]
theorem Q9z {m : Mem} {μ : LMap} {ops : Array Oper} {sl : List AVal} {a : Act} {j d : Nat} (rs : RS m μ sl a) (hd : (ops[j]?).bind (·.dst) = some d) (h : sl.getD d .undef = .tup .unit) :
  yielded ops a.tmps j = none := by
 obtain ⟨v, h1, h2⟩ := rs.rel d _ (Q9v h (by simp))
 obtain ⟨vs, h3, h4⟩ := h2
 subst h3
 simp [yielded, hd, h1]
theorem QaY {m : Mem} {μ : LMap} : VRel m μ (.tup .unit) undef := ⟨#[], rfl, rfl⟩
theorem OpDo.ok {P : Program} {ops : Array Oper} {i : Nat} {o : Oper} {sl : List AVal} {H H' : Heap} {v : AVal} (hi : ops[i]? = some o) (h : OpDo P o sl H v H')
  (hw : ∀ (m : Mem) (μ : LMap) (a : Act), RS m μ sl a → Region.wanted o (yielded ops a.tmps) = true) : OpOK P ops i o sl H v H' := by
 intro m μ w a Q K rh rs hK
 unfold wpOp
 simp only [hi, hw m μ a rs, if_true]
 exact .inl (h m μ w a Q K rh rs hK)
theorem OpOK.skip {P : Program} {ops : Array Oper} {i : Nat} {o : Oper} {sl : List AVal} {H : Heap} (hi : ops[i]? = some o)
  (hw : ∀ (m : Mem) (μ : LMap) (a : Act), RS m μ sl a → Region.wanted o (yielded ops a.tmps) = false) : OpOK P ops i o sl H (.tup .unit) H := by
 intro m μ w a Q K rh rs hK
 unfold wpOp
 simp only [hi, hw m μ a rs, Bool.false_eq_true, if_false]
 exact hK _ _ _ _ QaY (.refl rh)
theorem QbR.stp {P : Program} {ops : Array Oper} {i : Nat} {o : Oper} {sl : List AVal} {H H' : Heap} {v : AVal} {e : Eff} (hi : ops[i]? = some o) (h : QbR P o sl H v H' e)
  (hw : ∀ sl2, Q57 (o.looksAt ops) sl2 sl → ∀ (m : Mem) (μ : LMap) (a : Act), RS m μ sl2 a → Region.wanted o (yielded ops a.tmps) = true) : Stp P ops i o sl H v H' e := by
 cases e with
 | pure => exact ⟨h.1, fun sl2 H2 hs => (h.2 sl2 H2 (Q3e hs)).ok hi (hw sl2 hs)⟩
 | read ids => exact ⟨h.1, fun sl2 H2 hs hx => (h.2 sl2 H2 (Q3e hs) hx).ok hi (hw sl2 hs)⟩
 | push n ids =>
  obtain ⟨h1, b, fr, h2, h3, h4, h5, h6⟩ := h
  exact ⟨h1, b, fr, h2, h3, h4, h5, fun sl2 H2 hs hx => (h6 sl2 H2 (Q3e hs) hx).ok hi (hw sl2 hs)⟩
 | wr id =>
  obtain ⟨h1, c', h2, h3⟩ := h
  exact ⟨h1, c', h2, fun sl2 H2 hs hx => (h3 sl2 H2 (Q3e hs) hx).ok hi (hw sl2 hs)⟩
 | touch n ts => exact ⟨h.1, fun sl2 hs => (h.2 sl2 (Q3e hs)).ok hi (hw sl2 hs)⟩
 | «mut» => exact fun sl2 hs => (h sl2 (Q3e hs)).ok hi (hw sl2 hs)
theorem QcD {sl : List AVal} {d : Nat} {x : AVal} (h : sl.getD d .undef = x) (hx : x ≠ .undef) : sl.set d x = sl := by
 apply List.ext_getElem?
 intro i
 by_cases hi : d = i
 ·subst hi
  have h1 := Q9v h hx
  have hl : d < sl.length := (List.getElem?_eq_some_iff.1 h1).1
  rw [List.getElem?_set_self hl, h1]
 ·rw [List.getElem?_set_ne hi]
theorem Stp.norm {P : Program} {ops : Array Oper} {i : Nat} {o : Oper} {sl : List AVal} {H H' : Heap} {v : AVal} {e : Eff} (h : Stp P ops i o sl H v H' e) : Stp P ops i o sl H v H' (e.norm H.length) := by
 cases e with
 | pure => exact h
 | read ids =>
  show Stp P ops i o sl H v H' (cond (ltB H.length ids) (.read ids) .mut)
  cases ltB H.length ids with
  | true => exact h
  | false => obtain ⟨rfl, h2⟩ := h; exact fun sl2 hs => h2 sl2 _ hs fun _ _ => rfl
 | push n ids =>
  show Stp P ops i o sl H v H' (cond (ltB H.length ids) (.push n ids) .mut)
  cases ltB H.length ids with
  | true => exact h
  | false =>
   obtain ⟨h1, b, fr, _, _, h4, h5, h6⟩ := h
   subst h1 h4 h5
   exact fun sl2 hs => h6 sl2 _ hs fun _ _ => rfl
 | touch n ts => exact h
 | wr id => exact h
 | «mut» => exact h
theorem Q85 {n : Nat} : ∀ {l : List Nat}, ltB n l = true → ∀ i, i ∈ l → i < n
 | [], _, _, hi => by simp at hi
 | a :: l, h, i, hi => by
  simp only [ltB, Bool.and_eq_true] at h
  rcases List.mem_cons.1 hi with rfl | hi
  ·simpa [Nat.blt_eq] using h.1
  ·exact Q85 h.2 i hi
def Eff.within (n : Nat) : Eff → Prop
 | .read ids => ∀ i, i ∈ ids → i < n
 | .push _ ids => ∀ i, i ∈ ids → i < n
 | _ => True
theorem Eff.norm_within (n : Nat) (e : Eff) : (e.norm n).within n := by
 cases e with
 | pure => trivial
 | read ids =>
  show (cond (ltB n ids) (.read ids) .mut : Eff).within n
  cases h : ltB n ids with
  | true => exact Q85 h
  | false => trivial
 | push m ids =>
  show (cond (ltB n ids) (.push m ids) .mut : Eff).within n
  cases h : ltB n ids with
  | true => exact Q85 h
  | false => trivial
 | touch m ts => trivial
 | wr id => trivial
 | «mut» => trivial
theorem QaG {ρ : Type} {C : Ctx} (hΓ : ∀ f, Qu C.P f (C.Γ f)) {ops : Array Oper} {i : Nat} {o : Oper} (hi : ops[i]? = some o) {rest : List Oper} {st : St} {es : List Eff} {k : St → List Eff → Option ρ} {r : ρ}
  (h : Q3t C ops (o :: rest) st es k = some r) : ∃ v H' e, Stp C.P ops i o st.sl st.H v H' e ∧ e.within st.H.length ∧ Q3t C ops rest ⟨putA st.sl o.dst v, H'⟩ (e :: es) k = some r := by
 unfold Q3t at h
 cases hg : o.guard with
 | none =>
  rw [hg] at h
  obtain ⟨v, H', e, h1, h2⟩ := Q7M hΓ h
  exact ⟨v, H', _, (h1.stp hi fun sl2 _ m μ a _ => by simp [Region.wanted, hg]).norm, Eff.norm_within _ _, h2⟩
 | some gw =>
  obtain ⟨j, want⟩ := gw
  rw [hg] at h
  dsimp only at h
  cases hd : (ops[j]?).bind (·.dst) with
  | none => rw [hd] at h; cases h
  | some d =>
   rw [hd] at h
   dsimp only at h
   have yes : ∀ b, st.sl.getD d .undef = .bool b → want = b → evOp C o st (fun st' e => Q3t C ops rest st' (e.norm st.H.length :: es) k) = some r →
     ∃ v H' e, Stp C.P ops i o st.sl st.H v H' e ∧ e.within st.H.length ∧ Q3t C ops rest ⟨putA st.sl o.dst v, H'⟩ (e :: es) k = some r := by
    intro b hb hw h
    obtain ⟨v, H', e, h1, h2⟩ := Q7M hΓ h
    exact ⟨v, H', _, (h1.stp hi fun sl2 hs m μ a rs => by
     rw [Region.wanted, hg]
     simp only [Q5F rs hd ((Q4O hs hg hd).trans hb), hw, beq_self_eq_true]).norm, Eff.norm_within _ _, h2⟩
   have no : ∀ b, st.sl.getD d .undef = .bool b → want = !b → Q3t C ops rest ⟨putA st.sl o.dst (.tup .unit), st.H⟩ (.pure :: es) k = some r →
     ∃ v H' e, Stp C.P ops i o st.sl st.H v H' e ∧ e.within st.H.length ∧ Q3t C ops rest ⟨putA st.sl o.dst v, H'⟩ (e :: es) k = some r := by
    intro b hb hw h
    refine ⟨_, _, .pure, ⟨rfl, fun sl2 H2 hs => OpOK.skip hi fun m μ a rs => ?_⟩, trivial, h⟩
    rw [Region.wanted, hg]
    simp only [Q5F rs hd ((Q4O hs hg hd).trans hb), hw]
    cases b <;> rfl
   split at h
   ·rename_i b hb
    have e0 : ∀ c, b = c → st.sl.set d (.bool c) = st.sl := fun c hc => QcD (by rw [hb, hc]) (by simp)
    cases want <;> cases b <;> simp only [cond_true, cond_false] at h
    ·rw [e0 _ rfl] at h; exact yes _ hb rfl h
    ·rw [e0 _ rfl] at h; exact no _ hb rfl h
    ·rw [e0 _ rfl] at h; exact no _ hb rfl h
    ·rw [e0 _ rfl] at h; exact yes _ hb rfl h
   ·rename_i hb
    refine ⟨_, _, .pure, ⟨rfl, fun sl2 H2 hs => OpOK.skip hi fun m μ a rs => ?_⟩, trivial, h⟩
    rw [Region.wanted, hg]
    simp only [Q9z rs hd ((Q4O hs hg hd).trans hb)]
    rfl
   ·cases h
def Q1X (P : Program) (ops : Array Oper) (i0 : Nat) (os : List Oper) (S : Nat → St) (V : Nat → AVal) (E : Nat → Eff) : Prop :=
 ∀ j o, os[j]? = some o → Stp P ops (i0 + j) o (S j).sl (S j).H (V j) (S (j + 1)).H (E j) ∧ (S (j + 1)).sl = putA (S j).sl o.dst (V j) ∧ (E j).within (S j).H.length
def Qbz {α : Type} (x : α) (f : Nat → α) : Nat → α
 | 0 => x
 | n + 1 => f n
theorem Q77 {ρ : Type} {C : Ctx} (hΓ : ∀ f, Qu C.P f (C.Γ f)) {ops : Array Oper} {k : St → List Eff → Option ρ} {r : ρ} : ∀ (os : List Oper) (i0 : Nat) (st : St) (es : List Eff),
  (∀ j o, os[j]? = some o → ops[i0 + j]? = some o) → Q3t C ops os st es k = some r →
  ∃ S V E es', S 0 = st ∧ Q1X C.P ops i0 os S V E ∧ k (S os.length) es' = some r ∧ es'.reverse = es.reverse ++ (List.range os.length).map E
 | [], i0, st, es, _, h => ⟨fun _ => st, fun _ => .undef, fun _ => .pure, es, rfl, fun j o hj => by simp at hj, h, by simp⟩
 | o :: os, i0, st, es, hos, h => by
  obtain ⟨v, H', e, h1, hwi, h2⟩ := QaG hΓ (i := i0) (hos 0 o rfl) h
  obtain ⟨S, V, E, es', h3, h4, h5, h6⟩ := Q77 hΓ os (i0 + 1) _ _ (fun j o' hj => by
   have := hos (j + 1) o' (by simpa using hj)
   rw [← this]; congr 1; omega) h2
  refine ⟨Qbz st S, Qbz v V, Qbz e E, es', rfl, ?_, h5, ?_⟩
  ·intro j o' hj
   cases j with
   | zero =>
    simp only [List.getElem?_cons_zero, Option.some.injEq] at hj
    subst hj
    show Stp _ _ _ _ st.sl st.H v (S 0).H e ∧ (S 0).sl = _ ∧ e.within st.H.length
    rw [h3]; exact ⟨h1, rfl, hwi⟩
   | succ j =>
    have := h4 j o' (by simpa using hj)
    rw [show i0 + (j + 1) = i0 + 1 + j by omega]
    exact this
  ·rw [h6, List.length_cons, List.range_succ_eq_map]
   simp [Qbz, Function.comp_def]
theorem Qbu {m m' : Mem} {μ μ' : LMap} {sl : List AVal} {a : Act} {dst : Option Nat} {v : AVal} {u : Value} (hm : m.le m') (hμ : μ.le μ') (rs : RS m μ sl a) (hv : VRel m' μ' v u) : RS m' μ' (putA sl dst v) (a.put dst u) := by
 cases dst with
 | none => exact rs.mono hm hμ
 | some d => exact (rs.mono hm hμ).put hv
theorem Stp.now {P : Program} {ops : Array Oper} {i : Nat} {o : Oper} {sl : List AVal} {H H' : Heap} {v : AVal} {e : Eff} (h : Stp P ops i o sl H v H' e) : OpOK P ops i o sl H v H' := by
 cases e with
 | pure => obtain ⟨rfl, h⟩ := h; exact h _ _ fun _ _ => rfl
 | read ids => obtain ⟨rfl, h⟩ := h; exact h _ _ (fun _ _ => rfl) fun _ _ => rfl
 | push n ids => obtain ⟨rfl, b, fr, _, _, rfl, rfl, h⟩ := h; exact h _ _ (fun _ _ => rfl) fun _ _ => rfl
 | wr id => obtain ⟨_, c', rfl, h⟩ := h; exact h _ _ (fun _ _ => rfl) rfl
 | touch n ts => exact h.2 _ fun _ _ => rfl
 | «mut» => exact h _ fun _ _ => rfl
theorem Q7L {P : Program} {ops : Array Oper} {Q : Exit → Act → World → Prop} {S : Nat → St} {V : Nat → AVal} {E : Nat → Eff} (hc : Q1X P ops 0 ops.toList S V E) :
  ∀ (n j : Nat), j + n = ops.size → ∀ (m : Mem) (μ : LMap) (w : World) (a : Act), RH m μ (S j).H w → RS m μ (S j).sl a →
   (∀ a' w' m' μ', RS m' μ' (S ops.size).sl a' → Post m μ (S j).H w m' μ' (S ops.size).H w' → Q .normal a' w') → wpOps P ops Q (List.range' j n) a w
 | 0, j, hj, m, μ, w, a, rh, rs, hQ => by
  have : j = ops.size := by omega
  subst this
  exact hQ _ _ _ _ rs (.refl rh)
 | n + 1, j, hj, m, μ, w, a, rh, rs, hQ => by
  rw [List.range'_succ, wpOps_cons]
  have hlt : j < ops.size := by omega
  have ho : ops.toList[j]? = some ops[j] := by simp [hlt]
  obtain ⟨h1, h2, _⟩ := hc j _ ho
  rw [Nat.zero_add] at h1
  refine h1.now m μ w a Q _ rh rs fun u w' m' μ' hv hp => ?_
  refine Q7L hc n (j + 1) (by omega) m' μ' w' _ hp.rh ?_ fun a' w'' m'' μ'' hs hp' => hQ _ _ _ _ hs (hp.trans hp')
  rw [h2]
  exact Qbu hp.ml hp.μl rs hv
end Go.Am
