/- A part of a proof: a machine of abstract values that tells what functions of the program compute, and the plain facts on them. -/
import Derived.Test.YtmcflhodbmgikaaAm9
import Derived.Shelf.SlicesE.DeleteFunc
import Derived.Test.YtmcflhodbmgikaaAm7
import Derived.KernelRfl
set_option linter.unusedVariables false
set_option linter.unusedSimpArgs false
set_option linter.unnecessarySimpa false
set_option linter.unusedSectionVars false
namespace Go.Am
open Go Go.Proofs Go.Shelf
set_option maxRecDepth 100000
def Del.fs : List (Nat × Nat) := [(6, 40), (10, 27)]
def Del.ts : List (Nat × Nat) := [(22, 63), (23, 54), (25, 71)]
def Del.ren : Ren := ⟨Bld.look Del.fs, Bld.look Del.ts, fun n => n⟩
theorem Del.f6 : Bears Try.prog (Del.ren.f 6) (SlBodyH.n6 Del.ren) := ⟨"slices.IndexFunc[[]*bedrock/api.Known,*bedrock/api.Known]", by decide, by kernel_rfl⟩
theorem Del.f10 : Bears Try.prog (Del.ren.f 10) (SlBodyH.n10 Del.ren) := ⟨"slices.DeleteFunc[[]*bedrock/api.Known,*bedrock/api.Known]", by decide, by kernel_rfl⟩
theorem Del.lays : SlLaysH.n10 Try.prog Del.ren := by
 constructor <;> first | exact Del.f6 | exact Del.f10 | kernel_rfl | (intro w; kernel_rfl)
end Go.Am
namespace Go.Am
open Go Go.Proofs Go.Shelf Go.Lib
abbrev Pt : Type := Option (Nat × Nat)
def encP (p : Pt) : Value := .pointer (p.map fun q => ⟨q.1, q.2, none⟩)
abbrev Ls (n : Nat) (vs : List Value) : List (Option Value) := vs.map some ++ List.replicate (n - vs.length) none
theorem TS.start (n : Nat) (vs : List Value) : TS (Ls n vs) { tmps := vs.toArray ++ Array.replicate (n - vs.toArray.size) undef, defers := [] } := by
 refine ⟨by simp, rfl, fun i v h => ?_⟩
 rcases Nat.lt_or_ge i vs.length with h1 | h1
 ·rw [List.getElem?_append_left (by simpa using h1)] at h
  rw [Array.getElem?_append_left (by simpa using h1)]
  rw [List.getElem?_map] at h
  simpa using h
 ·rw [List.getElem?_append_right (by simpa using h1), List.getElem?_replicate] at h
  split at h <;> simp at h
theorem Q6m (P : Program) (T : TypeId) {E : TypeId} (hT : P.underlying T = some (.pointer E)) (xo yo : Operand) (p : Pt) (w : World) :
  (do eqGuard .eql T xo yo (encP p) (.pointer none); binOp .eql T (encP p) (.pointer none) : Sem Value).run P w = .ok (.bool p.isNone) w := by
 cases p with
 | none =>
  obtain ⟨z, h1, h2⟩ := Q2A (P := P) (m := fun _ => none) (μ := fun _ => none) (w := w) (op := .eql) (T := T) (x := .nilp) (y := .nilp) (xo := xo) (yo := yo) (v := .pointer none) (u := .pointer none) (r := (true, .bool true)) rfl rfl (by simp [binA, hT]) rfl
  have := h2.isBool
  subst this
  exact h1
 | some q =>
  obtain ⟨z, h1, h2⟩ := Q2A (P := P) (m := fun _ => none) (μ := fun _ => some ⟨q.1, q.2, .unit, 0, 0, false⟩) (w := w) (op := .eql) (T := T) (x := .ptr 0 []) (y := .nilp) (xo := xo) (yo := yo) (v := .pointer (some ⟨q.1, q.2, none⟩)) (u := .pointer none) (r := (true, .bool false))
   ⟨⟨q.1, q.2, .unit, 0, 0, false⟩, 0, .unit, rfl, rfl, rfl⟩ rfl (by simp [binA, hT]) rfl
  have := h2.isBool
  subst this
  exact h1
theorem Q7n (P : Program) (T : TypeId) (xo yo : Operand) (i n : Int) (w : World) : (do eqGuard .lss T xo yo (.int .i64 i) (.int .i64 n); binOp .lss T (.int .i64 i) (.int .i64 n) : Sem Value).run P w = .ok (.bool (decide (i < n))) w := by
 obtain ⟨z, h1, h2⟩ := Q2A (P := P) (m := fun _ => none) (μ := fun _ => none) (w := w) (op := .lss) (T := T) (x := .int .i64 i) (y := .int .i64 n) (xo := xo) (yo := yo) (v := .int .i64 i) (u := .int .i64 n) (r := (true, .bool (decide (i < n)))) rfl rfl rfl rfl
 have := h2.isBool
 subst this
 exact h1
theorem Q4F (P : Program) (T : TypeId) (xo yo : Operand) (i n : Int) (w : World) : (do eqGuard .add T xo yo (.int .i64 i) (.int .i64 n); binOp .add T (.int .i64 i) (.int .i64 n) : Sem Value).run P w = .ok (.int .i64 (IntKind.i64.wrap (i + n))) w := by
 obtain ⟨z, h1, h2⟩ := Q2A (P := P) (m := fun _ => none) (μ := fun _ => none) (w := w) (op := .add) (T := T) (x := .int .i64 i) (y := .int .i64 n) (xo := xo) (yo := yo) (v := .int .i64 i) (u := .int .i64 n) (r := (true, .int .i64 (IntKind.i64.wrap (i + n)))) rfl rfl rfl rfl
 have := h2.isInt
 subst this
 exact h1
theorem Q21 {j : Nat} (h : j < 140737488355328) : IntKind.i64.wrap ((j : Int) + 1) = ((j + 1 : Nat) : Int) := by
 simp only [IntKind.wrap, IntKind.signed, IntKind.bits]
 simp
 omega
noncomputable abbrev Q76 (f : Func) (p : List Nat) : Array Oper := match Q06 (Func.code f) p with | .region _ ops _ => ops | _ => #[]
theorem c39 : Func.code Try.f39 = .seq (.region 0 (Q76 Try.f39 [0]) false) (.seq (.region 1 (Q76 Try.f39 [1, 0]) false) .ret) := by kernel_rfl
theorem p54 : Try.prog.underlying 54 = some (.pointer 35) := by kernel_rfl
theorem Qbu (W : World) (x : Pt) : Calls Try.prog 39 #[encP x] W fun e w' => e = .returned (.bool x.isNone) ∧ w' = W := by
 refine calls_of_wp Try.func39 (c := Func.code Try.f39) (by kernel_rfl) ?_
 rw [c39]
 have ts0 := TS.start 5 [encP x]
 refine wp_seq (wp_region ?_)
 rw [show List.range (Q76 Try.f39 [0]).size = [0] from by kernel_rfl]
 refine ts0.assign (v := .bool false) (d := 2) (x := .const (.bool false)) (by unfold OpAt; kernel_rfl) rfl fun a1 ts1 => ?_
 simp only [wpOps, Exit.then]
 refine wp_seq (wp_region ?_)
 rw [show List.range (Q76 Try.f39 [1, 0]).size = [0, 1, 2] from by kernel_rfl]
 refine ts1.move (d := 3) (x := .tmp 0) (by unfold OpAt; kernel_rfl) (ts1.eval rfl) fun a2 ts2 => ?_
 refine ts2.bin (d := 4) (b := .eql) (T := 54) (T' := 54) (x := .tmp 3) (y := .const (.pointer none)) (by unfold OpAt; kernel_rfl) (ts2.eval rfl) rfl (Q6m _ _ p54 _ _ x W) fun a3 ts3 => ?_
 refine ts3.assign (d := 2) (x := .tmp 4) (by unfold OpAt; kernel_rfl) (ts3.eval rfl) fun a4 ts4 => ?_
 simp only [wpOps, Exit.then]
 refine wp_ret ⟨ts4.defers, .bool x.isNone, ?_, rfl, rfl⟩
 have h2 : a4.tmps.getD 2 undef = .bool x.isNone := ts4.eval (t := 2) rfl
 have hr : Try.f39.results.toList = [.tmp 2] := by kernel_rfl
 have := Q1l (P := Try.prog) (w := W) (fn := Try.f39) (tmps := a4.tmps) (us := [.bool x.isNone]) (by
  rw [hr]
  show ((pure (a4.tmps.getD 2 undef) : Sem Value) >>= fun v => (pure [v] : Sem (List Value))).run Try.prog W = _
  rw [h2]; rfl)
 exact this
end Go.Am
namespace Go.Am
open Go Go.Proofs Go.Shelf Go.Lib
section
variable {P : Program} {ops : Array Oper} {Q : Exit → Act → World → Prop} {i d : Nat} {rest : List Nat} {l : List (Option Value)} {a : Act} {w : World} {s yv : Value}
theorem TS.append {x y : Operand} {S : TypeId} {R : Value → World → Prop} (ts : TS l a) (ho : OpAt ops i (.call { callee := .builtin .append, args := #[x, y], argTypes := #[S, S] }) (some d)) (hx : a.eval x = s) (hy : a.eval y = yv)
  (happ : ∀ ty, ∃ s' w', (Builtin.append_ #[S, S] ty #[s, yv]).run P w = .ok s' w' ∧ R s' w') (hK : ∀ a' s' w', R s' w' → TS (l.set d (some s')) a' → wpOps P ops Q rest a' w') : wpOps P ops Q (i :: rest) a w := by
 obtain ⟨o, h1, h2, h3, h4⟩ := ho.get
 obtain ⟨s', w', hr, hR⟩ := happ o.type
 rw [wpOps_cons]
 refine Q1W (w' := w') (v := s') h1 h3 ?_ ?_
 ·unfold execOp
  rw [h2]
  show (do let d ← resolve a.eval { callee := .builtin .append, args := #[x, y], argTypes := #[S, S] } o.type; invoke d.target d.args : Sem Next).run P w = _
  have h5 : (#[x, y].map a.eval) = #[s, yv] := by simp [hx, hy]
  simp only [resolve, invoke, Go.builtin, run_bind, run_pure, h5, hr]
 ·rw [h4]
  exact hK _ _ _ hR (ts.put d s')
theorem TS.len {x : Operand} {T e : TypeId} {b : Option Addr} {n c : Nat} (ts : TS l a) (ho : OpAt ops i (.call { callee := .builtin .len, args := #[x], argTypes := #[T] }) (some d)) (hx : a.eval x = .slice b n c) (hT : P.underlying T = some (.slice e))
  (hK : ∀ a', TS (l.set d (some (.int .i64 (n : Nat)))) a' → wpOps P ops Q rest a' w) : wpOps P ops Q (i :: rest) a w := by
 obtain ⟨o, h1, h2, h3, h4⟩ := ho.get
 rw [wpOps_cons]
 refine Q1W (w' := w) (v := .int .i64 (n : Nat)) h1 h3 ?_ ?_
 ·unfold execOp
  rw [h2]
  show (do let d ← resolve a.eval { callee := .builtin .len, args := #[x], argTypes := #[T] } o.type; invoke d.target d.args : Sem Next).run P w = _
  have h5 : (Builtin.len_ #[T] o.type #[.slice b n c]).run P w = .ok (.int .i64 (n : Nat)) w := by
   unfold Builtin.len_
   simp [Q3 hT]
   rfl
  have h6 : (#[x].map a.eval) = #[.slice b n c] := by simp [hx]
  simp only [resolve, invoke, Go.builtin, run_bind, run_pure, h6, h5]
 ·rw [h4]
  exact hK _ (ts.put d _)
end
theorem t63 : Try.prog.underlying 63 = some (.slice 54) := by kernel_rfl
theorem t73 : Try.prog.underlying 73 = some (.array 16 72) := by kernel_rfl
theorem t74 : Try.prog.underlying 74 = some (.array 8 72) := by kernel_rfl
theorem t72 : Try.prog.underlying 72 = some (.array 8 54) := by kernel_rfl
theorem s72 : Q01 Try.prog 72 = some 8 := by kernel_rfl
theorem s54 : Q01 Try.prog 54 = some 1 := by kernel_rfl
theorem s73 : Q01 Try.prog 73 = some 128 := by kernel_rfl
theorem s74 : Q01 Try.prog 74 = some 64 := by kernel_rfl
theorem a72 : Q0p Try.prog 72 = some true := by kernel_rfl
theorem a73 : Q0p Try.prog 73 = some true := by kernel_rfl
theorem a74 : Q0p Try.prog 74 = some true := by kernel_rfl
theorem i54 : (Try.prog.info? 54).bind (fun i => i.zero.map fun z => (i.size, i.bytes, z)) = some (1, 8, .pointer none) := by kernel_rfl
theorem i72 : (Try.prog.info? 72).bind (fun i => i.zero.map fun z => z.cells.size) = some 8 := by kernel_rfl
theorem i54' : ∃ i, Try.prog.info? 54 = some i ∧ i.zero = some (.pointer none) ∧ i.size = 1 ∧ i.bytes = 8 := by
 obtain ⟨i, h1, h2⟩ := Option.bind_eq_some_iff.1 i54
 obtain ⟨z, h3, h4⟩ := Option.map_eq_some_iff.1 h2
 simp only [Prod.mk.injEq] at h4
 obtain ⟨h5, h6, h7⟩ := h4
 subst h7
 exact ⟨i, h1, h3, h5, h6⟩
theorem i72' : ∃ i z, Try.prog.info? 72 = some i ∧ i.zero = some z ∧ z.cells.size = 8 := by
 obtain ⟨i, h1, h2⟩ := Option.bind_eq_some_iff.1 i72
 obtain ⟨z, h3, h4⟩ := Option.map_eq_some_iff.1 h2
 exact ⟨i, z, h1, h3, h4⟩
def Q1P (P : Program) (S f off n : Nat) : Prop := (match P.underlying S with | some (.struct fs) => (fs[f]?).map (fun fd => (fd.offset, Q01 P fd.type)) | _ => none) = some (off, some n)
theorem Q1P.get {P : Program} {S f off n : Nat} (h : Q1P P S f off n) : ∃ fs fd, P.underlying S = some (.struct fs) ∧ fs[f]? = some fd ∧ fd.offset = off ∧ Q01 P fd.type = some n := by
 unfold Q1P at h
 split at h
 ·rename_i fs hu
  obtain ⟨fd, h1, h2⟩ := Option.map_eq_some_iff.1 h
  simp only [Prod.mk.injEq] at h2
  exact ⟨fs, fd, hu, h1, h2.1, h2.2⟩
 ·cases h
theorem Qc4 : Q1P Try.prog 77 1 2 128 := by unfold Q1P; kernel_rfl
theorem Qc3 : Q1P Try.prog 77 2 130 64 := by unfold Q1P; kernel_rfl
noncomputable abbrev L24 (p : List Nat) : Array Oper := Q76 Try.f24 p
theorem c24 : Func.code Try.f24 = .seq (.region 0 (L24 [0]) false) (.seq (.region 1 (L24 [1,0]) false) (.seq (.seq (.region 2 (L24 [1,1,0,0]) false) (.cond (.tmp 9) (.seq (.region 3 (L24 [1,1,0,1,0,0]) false) .ret) .skip))
  (.seq (.seq (.region 4 (L24 [1,1,1,0,0]) false) (.block 0 (.loop (Q06 (Func.code Try.f24) [1,1,1,0,1,0,0])))) (.seq (.seq (.region 9 (L24 [1,1,1,1,0,0]) false) (.block 2 (.loop (Q06 (Func.code Try.f24) [1,1,1,1,0,1,0,0])))) (.seq (.region 14 (L24 [1,1,1,1,1,0]) false) .ret))))) := by kernel_rfl
def Q7A (V : List Value) : Prop := ∀ v ∈ V, Q0O v = true
theorem Q8a {P : Program} {w : World} {b o n : Nat} {cs : Array Value} {E : TypeId} {fz : Nat × Nat} {T : TypeId} (hb : w.heap[b]? = some (.cells cs E fz)) (h1 : Q0p P T = some true) (h2 : Q01 P T = some n) (hle : o + n ≤ cs.size) :
  (loadVar T ⟨b, o, none⟩).run P w = .ok (.agg ((cs.toList.drop o).take n).toArray) w := by
 simp only [loadVar, run_bind, Q0Y h1, QM h2, if_true, Q0Q hb hle]; rfl
theorem Q7m {P : Program} {w : World} {b o : Nat} {cs : Array Value} {E : TypeId} {fz : Nat × Nat} {T : TypeId} {v : Value} (hb : w.heap[b]? = some (.cells cs E fz)) (h1 : Q0p P T = some false) (hv : cs[o]? = some v) :
  (loadVar T ⟨b, o, none⟩).run P w = .ok v w := by
 simp only [loadVar, run_bind, Q0Y h1]
 exact Q3x (by rw [Q1R hb]; exact hv)
theorem Qac {w0 : World} {ptr : Value} {V X0 : List Value} (hV : V.length = 16 * 8) (hX0 : X0.length ≤ 1000) (hfl : Q7A V) {Q : Exit → Act → World → Prop} {a : Act} {w : World} {s : Value} (ts : TS ((((List.replicate 34 none).set 0 (some ptr)).set 13 (some (.agg V.toArray))).set 14 (some (.int .i64 ((0 : Nat) : Int))) |>.set 3 (some s)) a)
  (hf : Fr w0 w) (hs : SlAt w w0.heap.size s X0)
  (hQ : ∀ a' w' s', TS (((List.replicate 34 none).set 0 (some ptr)).set 3 (some s')) a' → Fr w0 w' → SlAt w' w0.heap.size s' (X0 ++ V) → Q .normal a' w') :
  (Code.block 0 (.loop (Q06 (Func.code Try.f24) [1,1,1,0,1,0,0]))).wp Try.prog Q a w := by
 rw [show Q06 (Func.code Try.f24) [1,1,1,0,1,0,0] = .seq (.region 5 (L24 ([1,1,1,0,1,0,0] ++ [0])) false) (.seq (.cond (.tmp 15) .skip (.exit 0)) (.seq (.block 1 (.seq (.region 6 (L24 ([1,1,1,0,1,0,0] ++ [1,1,0,0,0])) false) (.region 7 (L24 ([1,1,1,0,1,0,0] ++ [1,1,0,0,1])) false))) (.region 8 (L24 ([1,1,1,0,1,0,0] ++ [1,1,1])) false))) from by kernel_rfl]
 refine wp_block (Q0N (fun f a' w' => ∃ (i : Nat) (s' : Value), f = 16 - i + 1 ∧ i ≤ 16 ∧ TS ((((List.replicate 34 none).set 0 (some ptr)).set 13 (some (.agg V.toArray))).set 14 (some (.int .i64 ((i : Nat) : Int))) |>.set 3 (some s')) a' ∧ Fr w0 w' ∧ SlAt w' w0.heap.size s' (X0 ++ V.take (i * 8))) ?_ ?_ (n := 16 + 1)
  ⟨0, s, rfl, Nat.zero_le _, ts, hf, by simpa using hs⟩)
 ·rintro a w ⟨i, _, h, _⟩; omega
 ·rintro f a1 w1 ⟨i, s1, hfe, hi, ts1, hf1, hs1⟩
  refine wp_seq (wp_region ?_)
  rw [show List.range (L24 ([1,1,1,0,1,0,0] ++ [0])).size = [0] from by kernel_rfl]
  refine ts1.bin (d := 15) (b := .lss) (T := 3) (T' := 3) (x := .tmp 14) (y := .const (.int .i64 16)) (by unfold OpAt; kernel_rfl) (ts1.eval rfl) rfl (Q7n _ _ _ _ _ _ _) fun a2 ts2 => ?_
  simp only [wpOps, Exit.then]
  have hb := ts2.eval (t := 15) rfl
  rcases Nat.lt_or_ge i 16 with hlt | hge
  ·have hd : decide (((i : Nat) : Int) < 16) = true := by simp; omega
   rw [hd] at hb
   refine wp_seq (wp_cond_true hb (wp_skip ?_))
   simp only [Exit.then]
   refine wp_seq (wp_block (wp_seq (wp_region ?_)))
   rw [show List.range (L24 ([1,1,1,0,1,0,0] ++ [1,1,0,0,0])).size = [0, 1, 2] from by kernel_rfl]
   refine ts2.index (d := 16) (T := 73) (e := 72) (x := .tmp 13) (y := .tmp 14) (n := 16) (j := i) (s := 8) (k := .i64) (by unfold OpAt; kernel_rfl) (ts2.eval rfl) (ts2.eval rfl) t73 hlt s72 a72 fun a3 ts3 => ?_
   obtain ⟨ti, z, hi72, hz72, hzs⟩ := i72'
   refine ts3.alloc (d := 5) (T := 72) (by unfold OpAt; kernel_rfl) hi72 hz72 fun a4 ts4 => ?_
   have hY : (V.toArray.extract (i * 8) (i * 8 + 8)).toList = (V.drop (i * 8)).take 8 := by
    rw [Array.toList_extract, List.extract_eq_take_drop]; simp
   have hYl : ((V.drop (i * 8)).take 8).length = 8 := by simp; omega
   have hYf : ∀ v ∈ (V.drop (i * 8)).take 8, Q0O v = true := fun v hv => hfl v (List.mem_of_mem_drop (List.mem_of_mem_take hv))
   have hnew : ({ w1 with heap := w1.heap.push (.cells z.cells 72) } : World).heap[w1.heap.size]? = some (.cells z.cells 72) := by
    show (w1.heap.push _)[w1.heap.size]? = _
    rw [Array.getElem?_push, if_pos rfl]
   obtain ⟨w5, cs5, hr5, hp5, hcs5⟩ := Q0I (P := Try.prog) (b := w1.heap.size) 0 ((V.drop (i * 8)).take 8) 0 _ z.cells hnew (by rw [hYl, hzs]; exact Nat.le_refl _) (fun j _ h => by have := h.1; have := h.2; omega) hYf
   have hcs5' : cs5.toList = (V.drop (i * 8)).take 8 := by
    rw [hcs5]
    have hzl : z.cells.toList.length = 8 := by rw [Array.length_toList, hzs]
    unfold QS
    rw [hYl, List.drop_eq_nil_of_le (show z.cells.toList.length ≤ 0 + 0 + 8 by rw [hzl]; omega)]
    simp
   have hsz5 : cs5.size = 8 := by rw [← Array.length_toList, hcs5', hYl]
   refine ts4.store (T := 72) (x := .tmp 5) (y := .tmp 16) (ad := ⟨w1.heap.size, 0, none⟩) (w' := w5) (by unfold OpAt; kernel_rfl) (ts4.eval rfl) (ts4.eval rfl) ?_ fun a5 ts5 => ?_
   ·rw [Q2V s72 (by show (V.toArray.extract (i * 8) (i * 8 + 8)).size = 8; rw [← Array.length_toList, hY, hYl])]
    show (storeCells ⟨w1.heap.size, 0, none⟩ (V.toArray.extract (i * 8) (i * 8 + 8)).toList).run _ _ = _
    rw [hY]
    exact hr5
   simp only [wpOps, Exit.then]
   have hf5 : Fr w0 w5 := (hf1.push (.cells z.cells 72) w1.drawn).puts hp5 hf1.size
   have keep5 : ∀ b, b < w1.heap.size → w5.heap[b]? = w1.heap[b]? := fun b hb => by
    rw [hp5.keep b (by omega)]
    show (w1.heap.push _)[b]? = _
    rw [Array.getElem?_push, if_neg (by omega)]
   have hs5 : SlAt w5 w0.heap.size s1 (X0 ++ V.take (i * 8)) := hs1.keep fun b _ hb => keep5 b hb
   have hne : ∀ ob off len cap, s1 = .slice (some ⟨ob, off, none⟩) len cap → ob ≠ w1.heap.size := by
    intro ob off len cap he
    rcases hs1 with ⟨h1, _⟩ | ⟨ob', off', cap', cs', E', fz', h1, _, _, h4, _⟩
    ·rw [h1] at he; cases he
    ·rw [h1] at he
     cases he
     have := QW h4
     omega
   refine wp_region ?_
   rw [show List.range (L24 ([1,1,1,0,1,0,0] ++ [1,1,0,0,1])).size = [0, 1, 2, 3] from by kernel_rfl]
   refine ts5.move (d := 17) (x := .tmp 3) (by unfold OpAt; kernel_rfl) (ts5.eval rfl) fun a6 ts6 => ?_
   refine ts6.slice (d := 18) (T := 72) (e := 54) (x := .tmp 5) (n := 8) (s := 1) (by unfold OpAt; kernel_rfl) (ts6.eval rfl) t72 s54 (by omega) fun a7 ts7 => ?_
   obtain ⟨te, hie, hze, hse, hbe⟩ := i54'
   refine ts7.append (d := 19) (x := .tmp 17) (y := .tmp 18) (S := 63) (s := s1) (yv := .slice (some ⟨w1.heap.size, 0, none⟩) 8 8) (R := fun s' w' => Fr w0 w' ∧ SlAt w' w0.heap.size s' (X0 ++ V.take (i * 8) ++ (V.drop (i * 8)).take 8)) (by unfold OpAt; kernel_rfl) (ts7.eval rfl) (ts7.eval rfl) (fun ty => ?_) fun a8 s8 w8 hR ts8 => ?_
   ·have := Q6Q (P := Try.prog) (ty := ty) (Y := (V.drop (i * 8)).take 8) (n := w1.heap.size) (yo := 0) (ycap := 8) hf5 hs5 t63 hie hse (by rw [hbe]; omega) hze hp5.blk (by rw [hYl, hsz5]; exact Nat.le_refl _) (by rw [hcs5', List.drop_zero, List.take_of_length_le (by omega)]) hYf hne
     (by rw [hbe, hYl, List.length_append, List.length_take]; omega) rfl
    rw [hYl] at this
    exact this
   refine ts8.assign (d := 3) (x := .tmp 19) (by unfold OpAt; kernel_rfl) (ts8.eval rfl) fun a9 ts9 => ?_
   simp only [wpOps, Exit.then, Exit.inBlock]
   refine wp_region ?_
   rw [show List.range (L24 ([1,1,1,0,1,0,0] ++ [1,1,1])).size = [0, 1] from by kernel_rfl]
   refine ts9.bin (d := 20) (b := .add) (T := 3) (T' := 3) (x := .tmp 14) (y := .const (.int .i64 1)) (by unfold OpAt; kernel_rfl) (ts9.eval rfl) rfl (Q4F _ _ _ _ _ _ _) fun a10 ts10 => ?_
   refine ts10.move (d := 14) (x := .tmp 20) (by unfold OpAt; kernel_rfl) (ts10.eval rfl) fun a11 ts11 => ?_
   simp only [wpOps]
   refine ⟨i + 1, s8, by omega, hlt, ?_, hR.1, ?_⟩
   ·have hw : IntKind.i64.wrap (((i : Nat) : Int) + 1) = ((i + 1 : Nat) : Int) := Q21 (by omega)
    rw [hw] at ts11
    exact ts11.mask [0, 3, 13, 14] (by kernel_rfl)
   ·have := hR.2
    rw [List.append_assoc, ← List.take_add] at this
    rw [Nat.add_mul]; exact this
  ·have hd : decide (((i : Nat) : Int) < 16) = false := by simp; omega
   rw [hd] at hb
   refine wp_seq (wp_cond_false hb (wp_exit ?_))
   simp only [Exit.then, Exit.inBlock, if_true]
   refine hQ a2 w1 s1 (ts2.mask [0, 3] (by kernel_rfl)) hf1 ?_
   have : i = 16 := by omega
   subst this
   rw [List.take_of_length_le (by omega)] at hs1
   exact hs1
theorem Qa6 {w0 : World} {ptr : Value} {V X0 : List Value} (hV : V.length = 8 * 8) (hX0 : X0.length ≤ 1000) (hfl : Q7A V) {Q : Exit → Act → World → Prop} {a : Act} {w : World} {s : Value} (ts : TS ((((List.replicate 34 none).set 0 (some ptr)).set 24 (some (.agg V.toArray))).set 25 (some (.int .i64 ((0 : Nat) : Int))) |>.set 3 (some s)) a)
  (hf : Fr w0 w) (hs : SlAt w w0.heap.size s X0)
  (hQ : ∀ a' w' s', TS (((List.replicate 34 none).set 0 (some ptr)).set 3 (some s')) a' → Fr w0 w' → SlAt w' w0.heap.size s' (X0 ++ V) → Q .normal a' w') :
  (Code.block 2 (.loop (Q06 (Func.code Try.f24) [1,1,1,1,0,1,0,0]))).wp Try.prog Q a w := by
 rw [show Q06 (Func.code Try.f24) [1,1,1,1,0,1,0,0] = .seq (.region 10 (L24 ([1,1,1,1,0,1,0,0] ++ [0])) false) (.seq (.cond (.tmp 26) .skip (.exit 2)) (.seq (.block 3 (.seq (.region 11 (L24 ([1,1,1,1,0,1,0,0] ++ [1,1,0,0,0])) false) (.region 12 (L24 ([1,1,1,1,0,1,0,0] ++ [1,1,0,0,1])) false))) (.region 13 (L24 ([1,1,1,1,0,1,0,0] ++ [1,1,1])) false))) from by kernel_rfl]
 refine wp_block (Q0N (fun f a' w' => ∃ (i : Nat) (s' : Value), f = 8 - i + 1 ∧ i ≤ 8 ∧ TS ((((List.replicate 34 none).set 0 (some ptr)).set 24 (some (.agg V.toArray))).set 25 (some (.int .i64 ((i : Nat) : Int))) |>.set 3 (some s')) a' ∧ Fr w0 w' ∧ SlAt w' w0.heap.size s' (X0 ++ V.take (i * 8))) ?_ ?_ (n := 8 + 1)
  ⟨0, s, rfl, Nat.zero_le _, ts, hf, by simpa using hs⟩)
 ·rintro a w ⟨i, _, h, _⟩; omega
 ·rintro f a1 w1 ⟨i, s1, hfe, hi, ts1, hf1, hs1⟩
  refine wp_seq (wp_region ?_)
  rw [show List.range (L24 ([1,1,1,1,0,1,0,0] ++ [0])).size = [0] from by kernel_rfl]
  refine ts1.bin (d := 26) (b := .lss) (T := 3) (T' := 3) (x := .tmp 25) (y := .const (.int .i64 8)) (by unfold OpAt; kernel_rfl) (ts1.eval rfl) rfl (Q7n _ _ _ _ _ _ _) fun a2 ts2 => ?_
  simp only [wpOps, Exit.then]
  have hb := ts2.eval (t := 26) rfl
  rcases Nat.lt_or_ge i 8 with hlt | hge
  ·have hd : decide (((i : Nat) : Int) < 8) = true := by simp; omega
   rw [hd] at hb
   refine wp_seq (wp_cond_true hb (wp_skip ?_))
   simp only [Exit.then]
   refine wp_seq (wp_block (wp_seq (wp_region ?_)))
   rw [show List.range (L24 ([1,1,1,1,0,1,0,0] ++ [1,1,0,0,0])).size = [0, 1, 2] from by kernel_rfl]
   refine ts2.index (d := 27) (T := 74) (e := 72) (x := .tmp 24) (y := .tmp 25) (n := 8) (j := i) (s := 8) (k := .i64) (by unfold OpAt; kernel_rfl) (ts2.eval rfl) (ts2.eval rfl) t74 hlt s72 a72 fun a3 ts3 => ?_
   obtain ⟨ti, z, hi72, hz72, hzs⟩ := i72'
   refine ts3.alloc (d := 7) (T := 72) (by unfold OpAt; kernel_rfl) hi72 hz72 fun a4 ts4 => ?_
   have hY : (V.toArray.extract (i * 8) (i * 8 + 8)).toList = (V.drop (i * 8)).take 8 := by
    rw [Array.toList_extract, List.extract_eq_take_drop]; simp
   have hYl : ((V.drop (i * 8)).take 8).length = 8 := by simp; omega
   have hYf : ∀ v ∈ (V.drop (i * 8)).take 8, Q0O v = true := fun v hv => hfl v (List.mem_of_mem_drop (List.mem_of_mem_take hv))
   have hnew : ({ w1 with heap := w1.heap.push (.cells z.cells 72) } : World).heap[w1.heap.size]? = some (.cells z.cells 72) := by
    show (w1.heap.push _)[w1.heap.size]? = _
    rw [Array.getElem?_push, if_pos rfl]
   obtain ⟨w5, cs5, hr5, hp5, hcs5⟩ := Q0I (P := Try.prog) (b := w1.heap.size) 0 ((V.drop (i * 8)).take 8) 0 _ z.cells hnew (by rw [hYl, hzs]; exact Nat.le_refl _) (fun j _ h => by have := h.1; have := h.2; omega) hYf
   have hcs5' : cs5.toList = (V.drop (i * 8)).take 8 := by
    rw [hcs5]
    have hzl : z.cells.toList.length = 8 := by rw [Array.length_toList, hzs]
    unfold QS
    rw [hYl, List.drop_eq_nil_of_le (show z.cells.toList.length ≤ 0 + 0 + 8 by rw [hzl]; omega)]
    simp
   have hsz5 : cs5.size = 8 := by rw [← Array.length_toList, hcs5', hYl]
   refine ts4.store (T := 72) (x := .tmp 7) (y := .tmp 27) (ad := ⟨w1.heap.size, 0, none⟩) (w' := w5) (by unfold OpAt; kernel_rfl) (ts4.eval rfl) (ts4.eval rfl) ?_ fun a5 ts5 => ?_
   ·rw [Q2V s72 (by show (V.toArray.extract (i * 8) (i * 8 + 8)).size = 8; rw [← Array.length_toList, hY, hYl])]
    show (storeCells ⟨w1.heap.size, 0, none⟩ (V.toArray.extract (i * 8) (i * 8 + 8)).toList).run _ _ = _
    rw [hY]
    exact hr5
   simp only [wpOps, Exit.then]
   have hf5 : Fr w0 w5 := (hf1.push (.cells z.cells 72) w1.drawn).puts hp5 hf1.size
   have keep5 : ∀ b, b < w1.heap.size → w5.heap[b]? = w1.heap[b]? := fun b hb => by
    rw [hp5.keep b (by omega)]
    show (w1.heap.push _)[b]? = _
    rw [Array.getElem?_push, if_neg (by omega)]
   have hs5 : SlAt w5 w0.heap.size s1 (X0 ++ V.take (i * 8)) := hs1.keep fun b _ hb => keep5 b hb
   have hne : ∀ ob off len cap, s1 = .slice (some ⟨ob, off, none⟩) len cap → ob ≠ w1.heap.size := by
    intro ob off len cap he
    rcases hs1 with ⟨h1, _⟩ | ⟨ob', off', cap', cs', E', fz', h1, _, _, h4, _⟩
    ·rw [h1] at he; cases he
    ·rw [h1] at he
     cases he
     have := QW h4
     omega
   refine wp_region ?_
   rw [show List.range (L24 ([1,1,1,1,0,1,0,0] ++ [1,1,0,0,1])).size = [0, 1, 2, 3] from by kernel_rfl]
   refine ts5.move (d := 28) (x := .tmp 3) (by unfold OpAt; kernel_rfl) (ts5.eval rfl) fun a6 ts6 => ?_
   refine ts6.slice (d := 29) (T := 72) (e := 54) (x := .tmp 7) (n := 8) (s := 1) (by unfold OpAt; kernel_rfl) (ts6.eval rfl) t72 s54 (by omega) fun a7 ts7 => ?_
   obtain ⟨te, hie, hze, hse, hbe⟩ := i54'
   refine ts7.append (d := 30) (x := .tmp 28) (y := .tmp 29) (S := 63) (s := s1) (yv := .slice (some ⟨w1.heap.size, 0, none⟩) 8 8) (R := fun s' w' => Fr w0 w' ∧ SlAt w' w0.heap.size s' (X0 ++ V.take (i * 8) ++ (V.drop (i * 8)).take 8)) (by unfold OpAt; kernel_rfl) (ts7.eval rfl) (ts7.eval rfl) (fun ty => ?_) fun a8 s8 w8 hR ts8 => ?_
   ·have := Q6Q (P := Try.prog) (ty := ty) (Y := (V.drop (i * 8)).take 8) (n := w1.heap.size) (yo := 0) (ycap := 8) hf5 hs5 t63 hie hse (by rw [hbe]; omega) hze hp5.blk (by rw [hYl, hsz5]; exact Nat.le_refl _) (by rw [hcs5', List.drop_zero, List.take_of_length_le (by omega)]) hYf hne
     (by rw [hbe, hYl, List.length_append, List.length_take]; omega) rfl
    rw [hYl] at this
    exact this
   refine ts8.assign (d := 3) (x := .tmp 30) (by unfold OpAt; kernel_rfl) (ts8.eval rfl) fun a9 ts9 => ?_
   simp only [wpOps, Exit.then, Exit.inBlock]
   refine wp_region ?_
   rw [show List.range (L24 ([1,1,1,1,0,1,0,0] ++ [1,1,1])).size = [0, 1] from by kernel_rfl]
   refine ts9.bin (d := 31) (b := .add) (T := 3) (T' := 3) (x := .tmp 25) (y := .const (.int .i64 1)) (by unfold OpAt; kernel_rfl) (ts9.eval rfl) rfl (Q4F _ _ _ _ _ _ _) fun a10 ts10 => ?_
   refine ts10.move (d := 25) (x := .tmp 31) (by unfold OpAt; kernel_rfl) (ts10.eval rfl) fun a11 ts11 => ?_
   simp only [wpOps]
   refine ⟨i + 1, s8, by omega, hlt, ?_, hR.1, ?_⟩
   ·have hw : IntKind.i64.wrap (((i : Nat) : Int) + 1) = ((i + 1 : Nat) : Int) := Q21 (by omega)
    rw [hw] at ts11
    exact ts11.mask [0, 3, 24, 25] (by kernel_rfl)
   ·have := hR.2
    rw [List.append_assoc, ← List.take_add] at this
    rw [Nat.add_mul]; exact this
  ·have hd : decide (((i : Nat) : Int) < 8) = false := by simp; omega
   rw [hd] at hb
   refine wp_seq (wp_cond_false hb (wp_exit ?_))
   simp only [Exit.then, Exit.inBlock, if_true]
   refine hQ a2 w1 s1 (ts2.mask [0, 3] (by kernel_rfl)) hf1 ?_
   have : i = 8 := by omega
   subst this
   rw [List.take_of_length_le (by omega)] at hs1
   exact hs1
end Go.Am
namespace Go.Am
open Go Go.Proofs Go.Shelf Go.Lib
theorem Qb6 : OneCell encP := fun p => by cases p <;> rfl
theorem Q79 (l : List Pt) : Q7A (l.map encP) := by
 intro v hv
 obtain ⟨p, _, rfl⟩ := List.mem_map.1 hv
 cases p <;> rfl
theorem Q9E (W : World) (x : Pt) : FnGives Try.prog 39 #[] #[encP x] (.bool x.isNone) W :=
 (Qbu W x).mono fun e w' h => ⟨h.1, 0, h.2⟩
theorem Qa8 {w : World} {blk off q : Nat} {d : Array Pt} {cs : Array Value} {E : TypeId} {fz : Nat × Nat} (h : w.heap[blk]? = some (.cells cs E fz)) :
  (Sort.putRow encP (Sort.ahead w q) blk off d).heap[blk]? = some (.cells (Sort.putCells encP off d cs) E fz) := by
 show (w.heap.modify blk (Sort.onCells (Sort.putCells encP off d)))[blk]? = _
 rw [Array.getElem?_modify, if_pos rfl, h]
 rfl
theorem Q7Q {w : World} {blk off q b : Nat} {d : Array Pt} (h : b ≠ blk) : (Sort.putRow encP (Sort.ahead w q) blk off d).heap[b]? = w.heap[b]? := by
 show (w.heap.modify blk (Sort.onCells (Sort.putCells encP off d)))[b]? = _
 rw [Array.getElem?_modify, if_neg (Ne.symm h)]
theorem Q6J {off n : Nat} {d : Array Pt} {cs : Array Value} (hle : off + d.size ≤ cs.size) (hn : n ≤ d.size) : ((Sort.putCells encP off d cs).toList.drop off).take n = (d.toList.take n).map encP := by
 apply List.ext_getElem?
 intro i
 rw [List.getElem?_take, List.getElem?_map, List.getElem?_take]
 by_cases hi : i < n
 ·rw [if_pos hi, if_pos hi, List.getElem?_drop, Array.getElem?_toList]
  unfold Sort.putCells
  rw [Array.getElem?_mapIdx, Array.getElem?_eq_getElem (by omega)]
  simp only [Option.map_some]
  rw [if_pos (by omega)]
  have : off + i - off = i := by omega
  rw [this, Array.getElem?_toList, Array.getElem?_eq_getElem (by omega), Option.map_some, getElem!_pos d i (by omega)]
 ·rw [if_neg hi, if_neg hi]; rfl
theorem Qai {w : World} {b o : Nat} {cs : Array Value} {E : TypeId} {fz : Nat × Nat} (hb : w.heap[b]? = some (.cells cs E fz)) {V1 V2 : List Pt} (h1 : (cs.toList.drop (o + 2)).take 128 = V1.map encP) (h2 : (cs.toList.drop (o + 130)).take 64 = V2.map encP)
  (hl1 : V1.length = 128) (hl2 : V2.length = 64) (hsz : o + 194 ≤ cs.size) :
  Calls Try.prog 24 #[.pointer (some ⟨b, o, none⟩)] w fun e w' => ∃ s, e = .returned s ∧ Fr w w' ∧ SlAt w' w.heap.size s (((V1 ++ V2).filter fun x : Pt => !x.isNone).map encP) := by
 refine calls_of_wp Try.func24 (c := Func.code Try.f24) (by kernel_rfl) ?_
 rw [c24]
 have ts0 := TS.start 34 [.pointer (some ⟨b, o, none⟩)]
 refine wp_seq (wp_region ?_)
 rw [show List.range (L24 [0]).size = [0] from by kernel_rfl]
 refine ts0.assign (v := .slice none 0 0) (d := 2) (x := .const (.slice none 0 0)) (by unfold OpAt; kernel_rfl) rfl fun a1 ts1 => ?_
 simp only [wpOps, Exit.then]
 refine wp_seq (wp_region ?_)
 rw [show List.range (L24 [1, 0]).size = [0] from by kernel_rfl]
 refine ts1.assign (v := .slice none 0 0) (d := 3) (x := .const (.slice none 0 0)) (by unfold OpAt; kernel_rfl) rfl fun a2 ts2 => ?_
 simp only [wpOps, Exit.then]
 refine wp_seq (wp_seq (wp_region ?_))
 rw [show List.range (L24 [1, 1, 0, 0]).size = [0, 1] from by kernel_rfl]
 refine ts2.move (d := 8) (x := .tmp 0) (by unfold OpAt; kernel_rfl) (ts2.eval rfl) fun a3 ts3 => ?_
 refine ts3.bin (d := 9) (b := .eql) (T := 30) (T' := 30) (x := .tmp 8) (y := .const (.pointer none)) (vx := encP (some (b, o))) (by unfold OpAt; kernel_rfl) (ts3.eval rfl) rfl (Q6m _ _ (by kernel_rfl : Try.prog.underlying 30 = some (.pointer 77)) _ _ (some (b, o)) w) fun a4 ts4 => ?_
 simp only [wpOps, Exit.then]
 refine wp_cond_false (ts4.eval (t := 9) rfl) (wp_skip ?_)
 simp only [Exit.then]
 obtain ⟨fs1, fd1, hu1, hf1, ho1, hs1⟩ := Qc4.get
 obtain ⟨fs2, fd2, hu2, hf2, ho2, hs2⟩ := Qc3.get
 refine wp_seq (wp_seq (wp_region ?_))
 rw [show List.range (L24 [1, 1, 1, 0, 0]).size = [0, 1, 2, 3, 4] from by kernel_rfl]
 refine ts4.move (d := 10) (x := .tmp 0) (by unfold OpAt; kernel_rfl) (ts4.eval rfl) fun a5 ts5 => ?_
 refine ts5.nil (d := 11) (x := .tmp 10) (by unfold OpAt; kernel_rfl) (ts5.eval rfl) fun a6 ts6 => ?_
 refine ts6.field (d := 12) (S := 77) (x := .tmp 11) (f := 1) (by unfold OpAt; kernel_rfl) (ts6.eval rfl) hu1 hf1 hs1 (by omega) fun a7 ts7 => ?_
 rw [ho1] at ts7
 refine ts7.load (d := 13) (T := 73) (x := .tmp 12) (by unfold OpAt; kernel_rfl) (ts7.eval rfl) (Q8a hb a73 s73 (by omega)) fun a8 ts8 => ?_
 rw [h1] at ts8
 refine ts8.move (d := 14) (x := .const (.int .i64 0)) (by unfold OpAt; kernel_rfl) rfl fun a9 ts9 => ?_
 simp only [wpOps, Exit.then]
 refine Qac (w0 := w) (ptr := .pointer (some ⟨b, o, none⟩)) (V := V1.map encP) (X0 := []) (s := .slice none 0 0) (by simpa using hl1) (by simp) (Q79 V1) (ts9.mask [0, 3, 13, 14] (by kernel_rfl)) (Fr.refl w) (.inl ⟨rfl, rfl⟩) fun a10 w10 s10 ts10 hfr10 hsl10 => ?_
 simp only [Exit.then, List.nil_append] at hsl10 ⊢
 have hb10 : w10.heap[b]? = some (.cells cs E fz) := (hfr10.keep b (QW hb)).trans hb
 refine wp_seq (wp_seq (wp_region ?_))
 rw [show List.range (L24 [1, 1, 1, 1, 0, 0]).size = [0, 1, 2, 3, 4] from by kernel_rfl]
 refine ts10.move (d := 21) (x := .tmp 0) (by unfold OpAt; kernel_rfl) (ts10.eval rfl) fun a11 ts11 => ?_
 refine ts11.nil (d := 22) (x := .tmp 21) (by unfold OpAt; kernel_rfl) (ts11.eval rfl) fun a12 ts12 => ?_
 refine ts12.field (d := 23) (S := 77) (x := .tmp 22) (f := 2) (by unfold OpAt; kernel_rfl) (ts12.eval rfl) hu2 hf2 hs2 (by omega) fun a13 ts13 => ?_
 rw [ho2] at ts13
 refine ts13.load (d := 24) (T := 74) (x := .tmp 23) (by unfold OpAt; kernel_rfl) (ts13.eval rfl) (Q8a hb10 a74 s74 (by omega)) fun a14 ts14 => ?_
 rw [h2] at ts14
 refine ts14.move (d := 25) (x := .const (.int .i64 0)) (by unfold OpAt; kernel_rfl) rfl fun a15 ts15 => ?_
 simp only [wpOps, Exit.then]
 refine Qa6 (w0 := w) (ptr := .pointer (some ⟨b, o, none⟩)) (V := V2.map encP) (X0 := V1.map encP) (s := s10) (by simpa using hl2) (by simp; omega) (Q79 V2) (ts15.mask [0, 3, 24, 25] (by kernel_rfl)) hfr10 hsl10 fun a16 w16 s16 ts16 hfr16 hsl16 => ?_
 simp only [Exit.then]
 refine wp_seq (wp_region ?_)
 rw [show List.range (L24 [1, 1, 1, 1, 1, 0]).size = [0, 1, 2] from by kernel_rfl]
 refine ts16.move (d := 32) (x := .tmp 3) (by unfold OpAt; kernel_rfl) (ts16.eval rfl) fun a17 ts17 => ?_
 have hs32 := ts17.eval (t := 32) rfl
 rcases hsl16 with ⟨_, hX⟩ | ⟨ob, off, cap, oc, oE, ofz, g1, g2, g3, g4, g5, g6, g7⟩
 ·have := congrArg List.length hX
  simp [hl1, hl2] at this
 have hlen : ((V1.map encP) ++ (V2.map encP)).length = 192 := by simp [hl1, hl2]
 rw [hlen] at g1 g2 g7
 generalize hd : (V1 ++ V2).toArray = d
 have hdl : d.toList = V1 ++ V2 := by rw [← hd]
 have hds : d.size = 192 := by rw [← hd]; simp [hl1, hl2]
 have hcell : ∀ j, j < d.size → w16.cell? ⟨ob, off + j, none⟩ = some (encP d[j]!) ∧ w16.frozen? ⟨ob, off + j, none⟩ = false := by
  intro j hj
  constructor
  ·rw [Q1R g4]
   have h5 := congrArg (·[j]?) g7
   simp only [List.getElem?_take, List.getElem?_drop, Array.getElem?_toList] at h5
   rw [if_pos (by omega), ← List.map_append, List.getElem?_map, ← hdl, Array.getElem?_toList, Array.getElem?_eq_getElem hj] at h5
   rw [h5, getElem!_pos d j hj]
   rfl
  ·simp only [World.frozen?, g4]
   have := g6 (off + j) (by omega)
   simp only [Bool.and_eq_false_iff, decide_eq_false_iff_not]
   by_cases h1 : ofz.1 ≤ off + j
   ·exact .inr fun h2 => this ⟨h1, h2⟩
   ·exact .inl h1
 have hdel := AnyE.slices_DeleteFunc (P := Try.prog) (ρ := Del.ren) Del.lays encP Qb6 (fun x : Pt => x.isNone) 39 #[] (fun args w => Q0m Try.func39 (c := Func.code Try.f39) (by kernel_rfl) (by kernel_rfl) args w) none (fun w => by
  obtain ⟨i, h1, h2, _⟩ := i54'
  exact Q0h h1 h2 w) ob off cap d w16 (fun W x _ => Q9E W x) (fun n os dk x _ => Q9E _ x) hcell (by omega) (by omega)
 refine ts17.enter (d := 33) (f := 27) (args := #[.tmp 32, .func 39]) (ats := #[63, 71]) (by unfold OpAt; kernel_rfl) Try.func27 (c := Func.code Try.f27) (by kernel_rfl) (by kernel_rfl) (R := fun e w' => e = .returned (.slice (some ⟨ob, off, none⟩) (d.toList.filter fun x : Pt => !x.isNone).length cap) ∧
   ∃ q, w' = Sort.putRow encP (Sort.ahead w16 q) ob off ((d.toList.filter fun x : Pt => !x.isNone) ++ List.replicate (d.size - (d.toList.filter fun x : Pt => !x.isNone).length) none).toArray) ?_ fun e w18 hR => ?_
 ·have hargs : (#[Operand.tmp 32, Operand.func 39].map a17.eval) = #[.slice (some ⟨ob, off, none⟩) d.size cap, .func (.func 39) #[] #[]] := by
   rw [hds, ← g1, ← hs32]; simp [Act.eval]
  rw [hargs]
  exact hdel
 obtain ⟨rfl, q, rfl⟩ := hR
 refine ⟨_, rfl, fun a18 ts18 => ?_⟩
 refine ts18.assign (d := 2) (x := .tmp 33) (by unfold OpAt; kernel_rfl) (ts18.eval rfl) fun a19 ts19 => ?_
 simp only [wpOps, Exit.then]
 rw [hdl] at ts19 ⊢
 have hfl : ((V1 ++ V2).filter fun x : Pt => !x.isNone).length ≤ 192 := by
  have := List.length_filter_le (fun x : Pt => !x.isNone) (V1 ++ V2)
  simp only [List.length_append, hl1, hl2] at this
  exact this
 generalize hD : (((V1 ++ V2).filter fun x : Pt => !x.isNone) ++ List.replicate (d.size - ((V1 ++ V2).filter fun x : Pt => !x.isNone).length) none).toArray = D
 have hDs : D.size = 192 := by rw [← hD]; simp only [List.size_toArray, List.length_append, List.length_replicate]; omega
 have hpc : (Sort.putCells encP off D oc).size = oc.size := by simp [Sort.putCells]
 refine wp_ret ⟨ts19.defers, .slice (some ⟨ob, off, none⟩) ((V1 ++ V2).filter fun x : Pt => !x.isNone).length cap, ?_, _, rfl, ⟨hfr16.os, hfr16.tape, hfr16.output, ?_, fun c hc => ?_⟩, .inr ⟨ob, off, cap, Sort.putCells encP off D oc, oE, ofz, by rw [List.length_map], by rw [List.length_map]; omega, g3, Qa8 g4, by rw [hpc]; exact g5, fun j hj => g6 j (by rw [← hpc]; exact hj), ?_⟩⟩
 ·have h3 : a19.tmps.getD 2 undef = .slice (some ⟨ob, off, none⟩) ((V1 ++ V2).filter fun x : Pt => !x.isNone).length cap := ts19.eval (t := 2) rfl
  have hr : Try.f24.results.toList = [.tmp 2] := by kernel_rfl
  have := Q1l (P := Try.prog) (w := Sort.putRow encP (Sort.ahead w16 q) ob off D) (fn := Try.f24) (tmps := a19.tmps) (us := [.slice (some ⟨ob, off, none⟩) ((V1 ++ V2).filter fun x : Pt => !x.isNone).length cap]) (by
   rw [hr]
   show ((pure (a19.tmps.getD 2 undef) : Sem Value) >>= fun v => (pure [v] : Sem (List Value))).run Try.prog _ = _
   rw [h3]; rfl)
  exact this
 ·show w.heap.size ≤ (w16.heap.modify ob _).size
  rw [Array.size_modify]; exact hfr16.size
 ·rw [Q7Q (by omega)]; exact hfr16.keep c hc
 ·rw [List.length_map, Q6J (by rw [hDs]; omega) (by rw [hDs]; exact hfl), ← hD]
  rw [List.take_left']
  rfl
end Go.Am
namespace Go.Am
open Go Go.Proofs Go.Shelf Go.Lib
section
variable {P : Program} {ops : Array Oper} {Q : Exit → Act → World → Prop} {i d : Nat} {rest : List Nat} {l : List (Option Value)} {a : Act} {w : World}
theorem TS.idx {x y : Operand} {T e : TypeId} {b o' n c j s : Nat} {k : IntKind} (ts : TS l a) (ho : OpAt ops i (.indexAddr T x y) (some d)) (hx : a.eval x = .slice (some ⟨b, o', none⟩) n c) (hy : a.eval y = .int k (j : Int)) (hu : P.underlying T = some (.slice e)) (hj : j < n) (hs : Q01 P e = some s)
  (hK : ∀ a', TS (l.set d (some (.pointer (some ⟨b, o' + j * s, none⟩)))) a' → wpOps P ops Q rest a' w) : wpOps P ops Q (i :: rest) a w :=
 ts.step ho (fun o h => by
  unfold execOp; rw [h]; dsimp only; rw [hx, hy, run_bind]
  have : (Instr.indexAt T (.slice (some ⟨b, o', none⟩) n c) (.int k (j : Int))).run P w = .ok (.pointer (some ⟨b, o' + j * s, none⟩)) w := by
   simp only [Instr.indexAt, asIntOf, run_bind, run_pure, Q3 hu]
   rw [if_pos (by omega)]
   simp only [run_bind, QM hs, run_pure, Int.toNat_natCast, Q16]
  rw [this]; rfl) hK
end
noncomputable abbrev L7 (p : List Nat) : Array Oper := Q76 Try.f7 p
theorem c7 : Func.code Try.f7 = .seq (.region 0 (L7 [0]) false) (.seq (.region 1 (L7 [1,0]) false) (.seq (.seq (.region 2 (L7 [1,1,0,0]) false) (.block 0 (.loop (Q06 (Func.code Try.f7) [1,1,0,1,0,0])))) (.seq (.region 9 (L7 [1,1,1,0]) false) .ret))) := by kernel_rfl
theorem c7L : Q06 (Func.code Try.f7) [1,1,0,1,0,0] = .seq (.region 3 (L7 [1,1,0,1,0,0,0]) false) (.seq (.cond (.tmp 12) .skip (.exit 0)) (.seq (.block 1 (.seq (.region 4 (L7 [1,1,0,1,0,0,1,1,0,0,0]) false) (.seq (.region 5 (L7 [1,1,0,1,0,0,1,1,0,0,1,0]) false)
  (.cond (.tmp 18) (.region 6 (L7 [1,1,0,1,0,0,1,1,0,0,1,1,0]) false) (.region 7 (L7 [1,1,0,1,0,0,1,1,0,0,1,1,1]) false))))) (.region 8 (L7 [1,1,0,1,0,0,1,1,1]) false))) := by kernel_rfl
theorem Qc8 : Q1P Try.prog 35 5 41 1 := by unfold Q1P; kernel_rfl
theorem a54 : Q0p Try.prog 54 = some false := by kernel_rfl
theorem a4 : Q0p Try.prog 4 = some false := by kernel_rfl
def Q7M (w : World) (tr : Pt → Bool) (p : Pt) : Prop := ∀ kb ko, p = some (kb, ko) → ∃ cs E fz, w.heap[kb]? = some (.cells cs E fz) ∧ cs[ko + 41]? = some (.bool (tr p))
abbrev cnt (f : Pt → Bool) (X : List Pt) : Int := ((X.filter f).length : Nat)
theorem Q4m (f : Pt → Bool) (Y : List Pt) (x : Pt) : cnt f (Y ++ [x]) = cnt f Y + (bif f x then 1 else 0) := by
 unfold cnt
 rw [List.filter_append, List.length_append]
 cases h : f x <;> simp [h]
abbrev Q9H (n m : Int) (s : Value) (len i : Int) : List (Option Value) := (((((List.replicate 26 none).set 4 (some (.int .i64 n))).set 5 (some (.int .i64 m))).set 9 (some s)).set 10 (some (.int .i64 len))).set 11 (some (.int .i64 i))
set_option maxHeartbeats 2000000 in
theorem QaH {w0 w : World} {X : List Pt} {tr : Pt → Bool} {base : Option Addr} {cap : Nat} (hX : X.length ≤ 1000) (hsl : SlAt w w0.heap.size (.slice base X.length cap) (X.map encP)) (hsome : ∀ p ∈ X, p.isNone = false) (hK : ∀ p ∈ X, Q7M w tr p)
  {Q : Exit → Act → World → Prop} {a : Act} (ts : TS (Q9H 0 0 (.slice base X.length cap) ((X.length : Nat) : Int) ((0 : Nat) : Int)) a)
  (hQ : ∀ a', TS (((List.replicate 26 none).set 4 (some (.int .i64 (cnt (fun p => !tr p) X)))).set 5 (some (.int .i64 (cnt tr X)))) a' → Q .normal a' w) :
  (Code.block 0 (.loop (Q06 (Func.code Try.f7) [1,1,0,1,0,0]))).wp Try.prog Q a w := by
 rw [c7L]
 refine wp_block (Q0N (fun f a' w' => w' = w ∧ ∃ (i : Nat), f = X.length - i + 1 ∧ i ≤ X.length ∧ TS (Q9H (cnt (fun p => !tr p) (X.take i)) (cnt tr (X.take i)) (.slice base X.length cap) ((X.length : Nat) : Int) ((i : Nat) : Int)) a') ?_ ?_ (n := X.length + 1)
  ⟨rfl, 0, rfl, Nat.zero_le _, ts⟩)
 ·rintro a w ⟨_, i, h, _⟩; omega
 ·rintro f a1 w1 ⟨rfl, i, hfe, hi, ts1⟩
  refine wp_seq (wp_region ?_)
  rw [show List.range (L7 [1,1,0,1,0,0,0]).size = [0] from by kernel_rfl]
  refine ts1.bin (d := 12) (b := .lss) (T := 3) (T' := 3) (x := .tmp 11) (y := .tmp 10) (by unfold OpAt; kernel_rfl) (ts1.eval rfl) (ts1.eval rfl) (Q7n _ _ _ _ _ _ _) fun a2 ts2 => ?_
  simp only [wpOps, Exit.then]
  have hb := ts2.eval (t := 12) rfl
  rcases Nat.lt_or_ge i X.length with hlt | hge
  ·have hd : decide (((i : Nat) : Int) < ((X.length : Nat) : Int)) = true := by simp; omega
   rw [hd] at hb
   refine wp_seq (wp_cond_true hb (wp_skip ?_))
   simp only [Exit.then]
   have hmem : X[i] ∈ X := List.getElem_mem _
   obtain ⟨⟨kb, ko⟩, hp⟩ : ∃ q, X[i] = some q := by
    have := hsome _ hmem
    cases hq : X[i] with
    | none => rw [hq] at this; cases this
    | some q => exact ⟨q, rfl⟩
   obtain ⟨kcs, kE, kfz, hk1, hk2⟩ := hK _ hmem kb ko hp
   rcases hsl with ⟨_, hX0⟩ | ⟨ob, off, cap', cs, E, fz, g1, g2, g3, g4, g5, g6, g7⟩
   ·have hX1 : X = [] := by simpa using hX0
    rw [hX1] at hlt
    simp at hlt
   simp only [List.length_map] at g1 g2 g7
   cases g1
   have hcell : cs[off + i]? = some (encP X[i]) := by
    have h5 := congrArg (·[i]?) g7
    simp only [List.getElem?_take, List.getElem?_drop, Array.getElem?_toList] at h5
    rw [if_pos hlt, List.getElem?_map, List.getElem?_eq_getElem hlt] at h5
    exact h5
   refine wp_seq (wp_block (wp_seq (wp_region ?_)))
   rw [show List.range (L7 [1,1,0,1,0,0,1,1,0,0,0]).size = [0, 1, 2] from by kernel_rfl]
   refine ts2.idx (d := 13) (T := 63) (e := 54) (x := .tmp 9) (y := .tmp 11) (s := 1) (by unfold OpAt; kernel_rfl) (ts2.eval rfl) (ts2.eval rfl) t63 (by simpa using hlt) s54 fun a3 ts3 => ?_
   refine ts3.load (d := 14) (T := 54) (x := .tmp 13) (v := encP X[i]) (by unfold OpAt; kernel_rfl) (ts3.eval rfl) (Q7m g4 a54 (by rw [Nat.mul_one]; exact hcell)) fun a4' ts4 => ?_
   rw [hp] at ts4
   refine ts4.assign (d := 7) (x := .tmp 14) (by unfold OpAt; kernel_rfl) (ts4.eval rfl) fun a5 ts5 => ?_
   simp only [wpOps, Exit.then]
   refine wp_seq (wp_region ?_)
   rw [show List.range (L7 [1,1,0,1,0,0,1,1,0,0,1,0]).size = [0, 1, 2, 3] from by kernel_rfl]
   obtain ⟨fs, fd, hu, hf, ho, hs⟩ := Qc8.get
   refine ts5.move (d := 15) (x := .tmp 7) (by unfold OpAt; kernel_rfl) (ts5.eval rfl) fun a6 ts6 => ?_
   refine ts6.nil (d := 16) (x := .tmp 15) (ad := ⟨kb, ko, none⟩) (by unfold OpAt; kernel_rfl) (ts6.eval rfl) fun a7 ts7 => ?_
   refine ts7.field (d := 17) (S := 35) (x := .tmp 16) (f := 5) (by unfold OpAt; kernel_rfl) (ts7.eval rfl) hu hf hs (by omega) fun a8 ts8 => ?_
   rw [ho] at ts8
   refine ts8.load (d := 18) (T := 4) (x := .tmp 17) (v := .bool (tr X[i])) (by unfold OpAt; kernel_rfl) (ts8.eval rfl) (Q7m hk1 a4 hk2) fun a9 ts9 => ?_
   simp only [wpOps, Exit.then]
   have h18 := ts9.eval (t := 18) rfl
   have htk : X.take (i + 1) = X.take i ++ [X[i]] := List.take_succ_eq_append_getElem hlt
   have hle1 : ((X.take i).filter tr).length ≤ 1000 := by have := List.length_filter_le tr (X.take i); simp at this; omega
   have hle2 : ((X.take i).filter fun p => !tr p).length ≤ 1000 := by have := List.length_filter_le (fun p => !tr p) (X.take i); simp at this; omega
   have fin : ∀ (n m : Int) (l : List (Option Value)) (a' : Act), TS l a' → Q4p [4, 5, 9, 10, 11] 0 l = Q9H n m (.slice (some ⟨ob, off, none⟩) X.length cap) ((X.length : Nat) : Int) ((i : Nat) : Int) → n = cnt (fun p => !tr p) (X.take (i + 1)) → m = cnt tr (X.take (i + 1)) →
     (Code.region 8 (L7 [1,1,0,1,0,0,1,1,1]) false).wp Try.prog (Exit.then (fun a' w' => w' = w1 ∧ ∃ (i : Nat), f = X.length - i + 1 ∧ i ≤ X.length ∧ TS (Q9H (cnt (fun p => !tr p) (X.take i)) (cnt tr (X.take i)) (.slice (some ⟨ob, off, none⟩) X.length cap) ((X.length : Nat) : Int) ((i : Nat) : Int)) a') (Exit.inBlock 0 Q)) a' w1 := by
    intro n m l a' ts hm hn' hm'
    have ts' := ts.mask _ hm
    refine wp_region ?_
    rw [show List.range (L7 [1,1,0,1,0,0,1,1,1]).size = [0, 1] from by kernel_rfl]
    refine ts'.bin (d := 23) (b := .add) (T := 3) (T' := 3) (x := .tmp 11) (y := .const (.int .i64 1)) (by unfold OpAt; kernel_rfl) (ts'.eval rfl) rfl (Q4F _ _ _ _ _ _ _) fun a10 ts10 => ?_
    refine ts10.move (d := 11) (x := .tmp 23) (by unfold OpAt; kernel_rfl) (ts10.eval rfl) fun a11 ts11 => ?_
    simp only [wpOps, Exit.then]
    refine ⟨trivial, i + 1, by omega, hlt, ?_⟩
    have hw : IntKind.i64.wrap (((i : Nat) : Int) + 1) = ((i + 1 : Nat) : Int) := Q21 (by omega)
    rw [hw] at ts11
    rw [← hn', ← hm']
    exact ts11.mask [4, 5, 9, 10, 11] (by kernel_rfl)
   generalize hg1 : cnt (fun p => !tr p) (X.take i) = c0 at ts9
   generalize hg2 : cnt tr (X.take i) = c1 at ts9
   cases ht : tr X[i] with
   | true =>
    rw [ht] at h18
    refine wp_cond_true h18 (wp_region ?_)
    rw [show List.range (L7 [1,1,0,1,0,0,1,1,0,0,1,1,0]).size = [0, 1, 2] from by kernel_rfl]
    refine ts9.move (d := 19) (x := .tmp 5) (by unfold OpAt; kernel_rfl) (ts9.eval rfl) fun a10 ts10 => ?_
    refine ts10.bin (d := 20) (b := .add) (T := 3) (T' := 3) (x := .tmp 19) (y := .const (.int .i64 1)) (vx := .int .i64 c1) (vy := .int .i64 1) (v := .int .i64 (IntKind.i64.wrap (c1 + 1))) (by unfold OpAt; kernel_rfl) (ts10.eval rfl) rfl (Q4F _ _ _ _ c1 1 w1) fun a11 ts11 => ?_
    refine ts11.assign (d := 5) (x := .tmp 20) (by unfold OpAt; kernel_rfl) (ts11.eval rfl) fun a12 ts12 => ?_
    simp only [wpOps, Exit.then, Exit.inBlock]
    refine fin c0 (IntKind.i64.wrap (c1 + 1)) _ _ ts12 (by kernel_rfl) ?_ ?_
    ·rw [← hg1, htk, Q4m]; simp [ht]
    ·rw [← hg2, Q21 (by omega), htk, Q4m, ht]; rfl
   | false =>
    rw [ht] at h18
    refine wp_cond_false h18 (wp_region ?_)
    rw [show List.range (L7 [1,1,0,1,0,0,1,1,0,0,1,1,1]).size = [0, 1, 2] from by kernel_rfl]
    refine ts9.move (d := 21) (x := .tmp 4) (by unfold OpAt; kernel_rfl) (ts9.eval rfl) fun a10 ts10 => ?_
    refine ts10.bin (d := 22) (b := .add) (T := 3) (T' := 3) (x := .tmp 21) (y := .const (.int .i64 1)) (vx := .int .i64 c0) (vy := .int .i64 1) (v := .int .i64 (IntKind.i64.wrap (c0 + 1))) (by unfold OpAt; kernel_rfl) (ts10.eval rfl) rfl (Q4F _ _ _ _ c0 1 w1) fun a11 ts11 => ?_
    refine ts11.assign (d := 4) (x := .tmp 22) (by unfold OpAt; kernel_rfl) (ts11.eval rfl) fun a12 ts12 => ?_
    simp only [wpOps, Exit.then, Exit.inBlock]
    refine fin (IntKind.i64.wrap (c0 + 1)) c1 _ _ ts12 (by kernel_rfl) ?_ ?_
    ·rw [← hg1, Q21 (by omega), htk, Q4m, ht]; rfl
    ·rw [← hg2, htk, Q4m]; simp [ht]
  ·have hd : decide (((i : Nat) : Int) < ((X.length : Nat) : Int)) = false := by simp; omega
   rw [hd] at hb
   refine wp_seq (wp_cond_false hb (wp_exit ?_))
   simp only [Exit.then, Exit.inBlock, if_true]
   have : i = X.length := by omega
   subst this
   rw [List.take_of_length_le (Nat.le_refl _)] at ts2
   exact hQ a2 (ts2.mask [4, 5] (by kernel_rfl))
end Go.Am
namespace Go.Am
open Go Go.Proofs Go.Shelf Go.Lib
set_option maxHeartbeats 1000000 in
theorem Qah {w : World} {b o : Nat} {cs : Array Value} {E : TypeId} {fz : Nat × Nat} (hb : w.heap[b]? = some (.cells cs E fz)) {V1 V2 : List Pt} (h1 : (cs.toList.drop (o + 2)).take 128 = V1.map encP) (h2 : (cs.toList.drop (o + 130)).take 64 = V2.map encP)
  (hl1 : V1.length = 128) (hl2 : V2.length = 64) (hsz : o + 194 ≤ cs.size) {tr : Pt → Bool} (hK : ∀ p ∈ V1 ++ V2, Q7M w tr p) :
  Calls Try.prog 7 #[.pointer (some ⟨b, o, none⟩)] w fun e w' => e = .returned (.tuple #[.int .i64 (cnt (fun p => !tr p) ((V1 ++ V2).filter fun x : Pt => !x.isNone)), .int .i64 (cnt tr ((V1 ++ V2).filter fun x : Pt => !x.isNone))]) ∧ Fr w w' := by
 refine calls_of_wp Try.func7 (c := Func.code Try.f7) (by kernel_rfl) ?_
 rw [c7]
 have ts0 := TS.start 26 [.pointer (some ⟨b, o, none⟩)]
 refine wp_seq (wp_region ?_)
 rw [show List.range (L7 [0]).size = [0, 1] from by kernel_rfl]
 refine ts0.assign (v := .int .i64 0) (d := 2) (x := .const (.int .i64 0)) (by unfold OpAt; kernel_rfl) rfl fun a1 ts1 => ?_
 refine ts1.assign (v := .int .i64 0) (d := 3) (x := .const (.int .i64 0)) (by unfold OpAt; kernel_rfl) rfl fun a2 ts2 => ?_
 simp only [wpOps, Exit.then]
 refine wp_seq (wp_region ?_)
 rw [show List.range (L7 [1, 0]).size = [0, 1] from by kernel_rfl]
 refine ts2.assign (v := .int .i64 0) (d := 4) (x := .const (.int .i64 0)) (by unfold OpAt; kernel_rfl) rfl fun a3 ts3 => ?_
 refine ts3.assign (v := .int .i64 0) (d := 5) (x := .const (.int .i64 0)) (by unfold OpAt; kernel_rfl) rfl fun a4 ts4 => ?_
 simp only [wpOps, Exit.then]
 refine wp_seq (wp_seq (wp_region ?_))
 rw [show List.range (L7 [1, 1, 0, 0]).size = [0, 1, 2, 3] from by kernel_rfl]
 refine ts4.move (d := 8) (x := .tmp 0) (by unfold OpAt; kernel_rfl) (ts4.eval rfl) fun a5 ts5 => ?_
 have h8 := ts5.eval (t := 8) rfl
 generalize hX : ((V1 ++ V2).filter fun x : Pt => !x.isNone) = X
 have hXl : X.length ≤ 192 := by
  have := List.length_filter_le (fun x : Pt => !x.isNone) (V1 ++ V2)
  simp only [List.length_append, hl1, hl2] at this
  rw [← hX]; exact this
 refine ts5.enter (d := 9) (f := 24) (args := #[.tmp 8]) (ats := #[30]) (by unfold OpAt; kernel_rfl) Try.func24 (c := Func.code Try.f24) (by kernel_rfl) (by kernel_rfl) (R := fun e w' => ∃ s, e = .returned s ∧ Fr w w' ∧ SlAt w' w.heap.size s (X.map encP)) ?_ fun e w6 hR => ?_
 ·have hargs : (#[Operand.tmp 8].map a5.eval) = #[.pointer (some ⟨b, o, none⟩)] := by simp [h8]
  rw [hargs, ← hX]
  exact Qai hb h1 h2 hl1 hl2 hsz
 obtain ⟨s, rfl, hfr, hsl⟩ := hR
 refine ⟨_, rfl, fun a6 ts6 => ?_⟩
 obtain ⟨base, cap, rfl⟩ : ∃ base cap, s = .slice base X.length cap := by
  rcases hsl with ⟨h, hx⟩ | ⟨ob, off, cap, _, _, _, h, _⟩
  ·have : X = [] := by simpa using hx
   rw [this]; exact ⟨_, _, h⟩
  ·rw [List.length_map] at h; exact ⟨_, _, h⟩
 refine ts6.len (d := 10) (x := .tmp 9) (T := 63) (by unfold OpAt; kernel_rfl) (ts6.eval rfl) t63 fun a7 ts7 => ?_
 refine ts7.move (d := 11) (x := .const (.int .i64 0)) (by unfold OpAt; kernel_rfl) rfl fun a8 ts8 => ?_
 simp only [wpOps, Exit.then]
 have hmem : ∀ p ∈ X, p ∈ V1 ++ V2 ∧ p.isNone = false := fun p hp => by
  rw [← hX, List.mem_filter] at hp
  exact ⟨hp.1, by simpa using hp.2⟩
 refine QaH (w0 := w) (X := X) (tr := tr) (base := base) (cap := cap) (by omega) hsl (fun p hp => (hmem p hp).2) (fun p hp kb ko he => ?_) (ts8.mask [4, 5, 9, 10, 11] (by kernel_rfl)) fun a9 ts9 => ?_
 ·obtain ⟨kcs, kE, kfz, k1, k2⟩ := hK p (hmem p hp).1 kb ko he
  exact ⟨kcs, kE, kfz, (hfr.keep kb (QW k1)).trans k1, k2⟩
 simp only [Exit.then]
 generalize cnt (fun p => !tr p) X = c0 at ts9 ⊢
 generalize cnt tr X = c1 at ts9 ⊢
 refine wp_seq (wp_region ?_)
 rw [show List.range (L7 [1, 1, 1, 0]).size = [0, 1, 2, 3] from by kernel_rfl]
 refine ts9.move (d := 24) (x := .tmp 4) (by unfold OpAt; kernel_rfl) (ts9.eval rfl) fun a10 ts10 => ?_
 refine ts10.move (d := 25) (x := .tmp 5) (by unfold OpAt; kernel_rfl) (ts10.eval rfl) fun a11 ts11 => ?_
 refine ts11.assign (d := 2) (x := .tmp 24) (by unfold OpAt; kernel_rfl) (ts11.eval rfl) fun a12 ts12 => ?_
 refine ts12.assign (d := 3) (x := .tmp 25) (by unfold OpAt; kernel_rfl) (ts12.eval rfl) fun a13 ts13 => ?_
 simp only [wpOps, Exit.then]
 refine wp_ret ⟨ts13.defers, _, ?_, rfl, hfr⟩
 have e2 : a13.tmps.getD 2 undef = .int .i64 c0 := ts13.eval (t := 2) rfl
 have e3 : a13.tmps.getD 3 undef = .int .i64 c1 := ts13.eval (t := 3) rfl
 have hr : Try.f7.results.toList = [.tmp 2, .tmp 3] := by kernel_rfl
 have := Q1l (P := Try.prog) (w := w6) (fn := Try.f7) (tmps := a13.tmps) (us := [.int .i64 c0, .int .i64 c1]) (by
  rw [hr]
  show ((pure (a13.tmps.getD 2 undef) : Sem Value) >>= fun v => ((pure (a13.tmps.getD 3 undef) : Sem Value) >>= fun u => (pure [v, u] : Sem (List Value)))).run Try.prog _ = _
  rw [e2, e3]; rfl)
 exact this
def ptOf : AVal → Option (Option Nat)
 | .nilp => some none
 | .ptr k [] => some (some k)
 | _ => none
def ptrs : AVal → Option (List (Option Nat))
 | .unit => some []
 | .pair a b => (ptOf a).bind fun k => (ptrs b).bind fun l => some (k :: l)
 | _ => none
def Q5X : AVal → Option (List (Option Nat))
 | .unit => some []
 | .pair a b => (ptrs a).bind fun k => (Q5X b).bind fun l => some (k ++ l)
 | _ => none
def ptA (μ : LMap) : Option Nat → Pt
 | none => none
 | some k => (μ k).map fun l => (l.b, l.off)
theorem Qb2 {m : Mem} {μ : LMap} {a : AVal} {k : Option Nat} {cs : List Value} (h : ptOf a = some k) (hc : CRel m μ a cs) : a.size = 1 ∧ cs = [encP (ptA μ k)] := by
 cases a <;> simp only [ptOf] at h <;> try (cases h; done)
 ·cases h; exact ⟨rfl, hc⟩
 ·rename_i id p
  cases p with
  | nil =>
   simp only [Option.some.injEq] at h
   subst h
   obtain ⟨l, o, s, h1, h2, h3⟩ := hc
   have : o = 0 := by
    simp only [Sh.offP, Option.some.injEq, Prod.mk.injEq] at h2
    exact h2.1.symm
   subst this
   refine ⟨rfl, ?_⟩
   rw [h3]
   simp [encP, ptA, h1]
  | cons _ _ => simp at h
theorem Q8C {m : Mem} {μ : LMap} : ∀ {a : AVal} {ks : List (Option Nat)} {cs : List Value}, ptrs a = some ks → CRel m μ a cs → cs = (ks.map (ptA μ)).map encP
 | .unit, ks, cs, h, hc => by simp only [ptrs, Option.some.injEq] at h; subst h; exact hc
 | .pair a b, ks, cs, h, hc => by
  simp only [ptrs, Option.bind_eq_some_iff, Option.some.injEq] at h
  obtain ⟨k, h1, l, h2, rfl⟩ := h
  simp only [CRel] at hc
  obtain ⟨e1, e2⟩ := Qb2 h1 hc.1
  have e3 := Q8C h2 hc.2
  rw [e1] at e2 e3
  rw [← List.take_append_drop 1 cs, e2, e3]
  rfl
 | .undef, _, _, h, _ | .int _ _, _, _, h, _ | .bool _, _, _, h, _ | .str _, _, _, h, _ | .nilp, _, _, h, _ | .nils, _, _, h, _ | .ptr _ _, _, _, h, _ | .sl _ _ _ _, _, _, h, _ | .ros _ _, _, _, h, _ | .rop _ _, _, _, h, _
 | .parr _ _ _ _, _, _, h, _ | .arr _ _ _, _, _, h, _ | .vec _ _, _, _, h, _ | .vsl _, _, _, h, _ | .fn _ _, _, _, h, _ | .tup _, _, _, h, _ | .sfp _ _ _, _, _, h, _ | .vbs _, _, _, h, _ | .mp _, _, _, h, _ | .nilm, _, _, h, _ | .mpc _ _ _, _, _, h, _ => by simp [ptrs] at h
theorem Q4X {m : Mem} {μ : LMap} : ∀ {a : AVal} {ks : List (Option Nat)} {cs : List Value}, Q5X a = some ks → CRel m μ a cs → cs = (ks.map (ptA μ)).map encP
 | .unit, ks, cs, h, hc => by simp only [Q5X, Option.some.injEq] at h; subst h; exact hc
 | .pair a b, ks, cs, h, hc => by
  simp only [Q5X, Option.bind_eq_some_iff, Option.some.injEq] at h
  obtain ⟨k, h1, l, h2, rfl⟩ := h
  simp only [CRel] at hc
  have e2 := Q8C h1 hc.1
  have e3 := Q4X h2 hc.2
  rw [← List.take_append_drop a.size cs, e2, e3]
  simp
 | .undef, _, _, h, _ | .int _ _, _, _, h, _ | .bool _, _, _, h, _ | .str _, _, _, h, _ | .nilp, _, _, h, _ | .nils, _, _, h, _ | .ptr _ _, _, _, h, _ | .sl _ _ _ _, _, _, h, _ | .ros _ _, _, _, h, _ | .rop _ _, _, _, h, _
 | .parr _ _ _ _, _, _, h, _ | .arr _ _ _, _, _, h, _ | .vec _ _, _, _, h, _ | .vsl _, _, _, h, _ | .fn _ _, _, _, h, _ | .tup _, _, _, h, _ | .sfp _ _ _, _, _, h, _ | .vbs _, _, _, h, _ | .mp _, _, _, h, _ | .nilm, _, _, h, _ | .mpc _ _ _, _, _, h, _ => by simp [Q5X] at h
def trOf (H : Heap) (k : Nat) : Option Bool :=
 match H[k]? with
 | some (some kc) => (match Q2N kc 5, kc.sh.fieldOff 5 with | some (.bool b), some (41, .leaf) => some b | _, _ => none)
 | _ => none
def trIs (H : Heap) (v : Bool) : Option Nat → Bool
 | none => false
 | some k => (match trOf H k with | some b => b == v | none => false)
def QbA (H : Heap) : Option Nat → Bool
 | none => true
 | some k => (trOf H k).isSome
def QaA (args : List AVal) (H : Heap) : Option Res :=
 match args with
 | [.ptr id []] =>
  match H[id]? with
  | some (some c) =>
   match Q2N c 1, Q2N c 2, c.sh.fieldOff 1, c.sh.fieldOff 2 with
   | some x, some y, some (2, s1), some (130, s2) =>
    match Q5X x, Q5X y with
    | some ks1, some ks2 =>
     cond (Nat.beq ks1.length 128 && Nat.beq ks2.length 64 && Nat.beq s1.size 128 && Nat.beq s2.size 64 && (ks1 ++ ks2).all (QbA H))
      (some ⟨true, .tup (.pair (.int .i64 (((ks1 ++ ks2).filter (trIs H false)).length : Nat)) (.pair (.int .i64 (((ks1 ++ ks2).filter (trIs H true)).length : Nat)) .unit)), H, .touch H.length []⟩) none
    | _, _ => none
   | _, _, _, _ => none
  | _ => none
 | _ => none
def QaZ : QA := Q6A QaA
theorem Fr.post {m : Mem} {μ : LMap} {H : Heap} {w w' : World} (rh : RH m μ H w) (h : Fr w w') : Post m μ H w m μ H w' := by
 have k : ∀ {b : Nat} {o : Obj}, w.heap[b]? = some o → w'.heap[b]? = some o := fun hb => (h.keep _ (QW hb)).trans hb
 refine ⟨⟨fun b cs hb => ?_, fun i a hi => ?_, rh.inj, rh.dom, fun i a l hi hl hz => ?_, rh.vb, fun i a l hi hl hp => ?_, rh.mpi⟩, Mem.le_refl _, LMap.le_refl _, h.os, h.tape, h.output, h.size, fun b hb _ => h.keep b hb, fun _ ho _ => ho, fun _ _ hc => .inl hc, ⟨Nat.le_refl _, fun _ _ h => h⟩⟩
 ·obtain ⟨E, fz, h1⟩ := rh.mem b cs hb
  exact ⟨E, fz, k h1⟩
 ·obtain ⟨l, hbk⟩ := rh.blk i a hi
  refine ⟨l, hbk.loc, hbk.sh, ?_⟩
  rcases hbk.cells with g | ⟨p0, gm, cs, E, fz, g1, g2⟩
  ·exact .inl g
  ·exact .inr ⟨p0, gm, cs, E, fz, k g1, g2⟩
 ·obtain ⟨cs, fz, h1⟩ := rh.typ i a l hi hl hz
  exact ⟨cs, fz, k h1⟩
 ·obtain ⟨h0, kt, vt, xs, es, c, e, h1, h2⟩ := rh.mp i a l hi hl hp
  exact ⟨h0, kt, vt, xs, es, c, e, k h1, h2⟩
end Go.Am
namespace Go.Am
open Go Go.Proofs Go.Shelf Go.Lib
theorem Q9J {m : Mem} {μ : LMap} {H : Heap} {w : World} (rh : RH m μ H w) {k : Nat} {v : Bool} (h : trOf H k = some v) :
  ∃ a l, H[k]? = some (some a) ∧ μ k = some l ∧ 0 < l.tot ∧ ∃ cs E fz, w.heap[l.b]? = some (.cells cs E fz) ∧ cs[l.off + 41]? = some (.bool v) := by
 unfold trOf at h
 split at h
 ·rename_i kc hk
  split at h
  ·rename_i b hf ho
   cases h
   obtain ⟨l, hb⟩ := rh.blk k kc hk
   rcases hb.cells with ⟨p1, p2, p3, p4⟩ | ⟨p0, gm, cs, E, fz, g1, g2, g3, g4, g5⟩
   ·obtain ⟨hle, _⟩ := Q0u p4 ho
    rw [p3] at hle
    simp [Sh.size] at hle
   ·obtain ⟨hle, x, hx, _, hr⟩ := Q0u g5 ho
    rw [hf] at hx
    cases hx
    simp only [Sh.size] at hle hr
    have hr' : ((((cs.toList.drop l.off).take kc.sh.size).drop 41).take 1) = [.bool v] := hr
    refine ⟨kc, l, hk, hb.loc, p0, cs, E, fz, g1, ?_⟩
    have h5 := congrArg (·[0]?) hr'
    simp only [List.getElem?_take, List.getElem?_drop, Array.getElem?_toList, List.getElem?_cons_zero] at h5
    simpa [show 41 < kc.sh.size by omega] using h5
  ·cases h
 ·cases h
theorem Q7S {f : Option Nat → Pt} {p : Pt → Bool} {q : Option Nat → Bool} : ∀ (ks : List (Option Nat)), (∀ k ∈ ks, ((!(f k).isNone) && p (f k)) = q k) → ((((ks.map f).filter fun x : Pt => !x.isNone).filter p).length = (ks.filter q).length)
 | [], _ => rfl
 | k :: ks, h => by
  have hk := h k (by simp)
  have ih := Q7S ks fun x hx => h x (by simp [hx])
  simp only [List.map_cons, List.filter_cons]
  cases h1 : (f k).isNone with
  | true =>
   rw [h1] at hk
   simp only [Bool.not_true, Bool.false_and] at hk
   rw [← hk]
   simpa using ih
  | false =>
   rw [h1] at hk
   simp only [Bool.not_false, Bool.true_and] at hk
   simp only [Bool.not_false, if_true, List.filter_cons]
   rw [hk]
   cases q k with
   | true => simpa using ih
   | false => simpa using ih
theorem QbN : Qo Try.prog 7 QaZ := by
 refine Q95 fun args H r h _ => ?_
 simp only [QaA] at h
 split at h
 case h_2 => cases h
 rename_i id
 split at h
 case h_2 => cases h
 rename_i c hi
 split at h
 case h_2 => cases h
 rename_i x y s1 s2 hx hy ho1 ho2
 split at h
 case h_2 => cases h
 rename_i ks1 ks2 hk1 hk2
 rw [Bool.cond_eq_ite] at h
 split at h
 case isFalse => cases h
 rename_i hok
 cases h
 simp only [Bool.and_eq_true] at hok
 obtain ⟨⟨⟨⟨hl1, hl2⟩, hs1⟩, hs2⟩, hall⟩ := hok
 have hl1 := Nat.eq_of_beq_eq_true hl1
 have hl2 := Nat.eq_of_beq_eq_true hl2
 have hs1 := Nat.eq_of_beq_eq_true hs1
 have hs2 := Nat.eq_of_beq_eq_true hs2
 rw [List.all_eq_true] at hall
 refine ⟨fun i _ _ => rfl, ?_⟩
 intro m μ w vs rh hv
 match vs, hv with
 | [v0], hv =>
  obtain ⟨hv0, _⟩ := hv
  obtain ⟨l, o, s, hl, hof, he⟩ := hv0.one rfl rfl
  have : o = 0 := by
   simp only [Sh.offP, Option.some.injEq, Prod.mk.injEq] at hof
   exact hof.1.symm
  subst this
  have hv0' : v0 = .pointer (some ⟨l.b, l.off, none⟩) := (List.cons.inj he).1
  subst hv0'
  obtain ⟨l', hb⟩ := rh.blk id c hi
  have : l' = l := Option.some.inj (hb.loc.symm.trans hl)
  subst this
  refine ⟨.enter 7 #[.pointer (some ⟨l'.b, l'.off, none⟩)], w, Q0m Try.func7 (c := Func.code Try.f7) (by kernel_rfl) (by kernel_rfl) _ w, .inl ⟨_, _, rfl, ?_⟩⟩
  rcases hb.cells with ⟨p1, p2, p3, p4⟩ | ⟨p0, gm, cs, E, fz, g1, g2, g3, g4, g5⟩
  ·obtain ⟨hle, _⟩ := Q0u p4 ho1
   omega
  obtain ⟨hle1, x', hx', _, hr1⟩ := Q0u g5 ho1
  obtain ⟨hle2, y', hy', _, hr2⟩ := Q0u g5 ho2
  rw [hx] at hx'
  cases hx'
  rw [hy] at hy'
  cases hy'
  have q1 := Q4X hk1 hr1
  have q2 := Q4X hk2 hr2
  have sub : ∀ o n, o + n ≤ c.sh.size → ((((cs.toList.drop l'.off).take c.sh.size).drop o).take n) = (cs.toList.drop (l'.off + o)).take n := by
   intro o n hon
   rw [List.drop_take, List.take_take, List.drop_drop]
   congr 1
   omega
  rw [sub 2 s1.size hle1, hs1] at q1
  rw [sub 130 s2.size hle2, hs2] at q2
  classical
  let tr : Pt → Bool := fun p => decide (∃ k, some k ∈ ks1 ++ ks2 ∧ ptA μ (some k) = p ∧ trOf H k = some true)
  have trat : ∀ k, some k ∈ ks1 ++ ks2 → ∃ b lk, trOf H k = some b ∧ μ k = some lk ∧ tr (ptA μ (some k)) = b ∧ ∃ cs E fz, w.heap[lk.b]? = some (.cells cs E fz) ∧ cs[lk.off + 41]? = some (.bool b) := by
   intro k hk
   have := hall _ hk
   simp only [QbA] at this
   obtain ⟨b, hbk⟩ := Option.isSome_iff_exists.1 this
   obtain ⟨a, lk, e1, e2, e3, e4⟩ := Q9J rh hbk
   refine ⟨b, lk, hbk, e2, ?_, e4⟩
   cases b with
   | true => exact decide_eq_true ⟨k, hk, rfl, hbk⟩
   | false =>
    refine decide_eq_false ?_
    rintro ⟨k', hk', hp, ht⟩
    obtain ⟨a', lk', f1, f2, f3, _⟩ := Q9J rh ht
    have hbb : lk'.b = lk.b := by
     simp only [ptA, e2, f2, Option.map_some, Option.some.injEq, Prod.mk.injEq] at hp
     exact hp.1
    have := rh.inj k' k a' a lk' lk f1 e1 f2 e2 f3 e3 hbb
    subst this
    rw [hbk] at ht
    cases ht
  have hK : ∀ p ∈ ks1.map (ptA μ) ++ ks2.map (ptA μ), Q7M w tr p := by
   intro p hp kb ko hpe
   rw [← List.map_append] at hp
   obtain ⟨k, hk, hkp⟩ := List.mem_map.1 hp
   cases k with
   | none => rw [← hkp] at hpe; cases hpe
   | some k =>
    obtain ⟨b, lk, t1, t2, t3, cs', E', fz', t4, t5⟩ := trat k hk
    have : (lk.b, lk.off) = (kb, ko) := by
     rw [← hkp] at hpe
     simp only [ptA, t2, Option.map_some, Option.some.injEq] at hpe
     exact hpe
    cases this
    refine ⟨cs', E', fz', t4, ?_⟩
    rw [← hkp, t3]; exact t5
  refine (Qah g1 q1 q2 (by rw [List.length_map]; exact hl1) (by rw [List.length_map]; exact hl2) (by omega) hK).mono fun e w' hR => ?_
  obtain ⟨rfl, hfr⟩ := hR
  have hc1 : cnt tr (((ks1.map (ptA μ)) ++ (ks2.map (ptA μ))).filter fun x : Pt => !x.isNone) = (((ks1 ++ ks2).filter (trIs H true)).length : Nat) := by
   unfold cnt
   rw [← List.map_append, Q7S (q := trIs H true)]
   intro k hk
   cases k with
   | none => rfl
   | some k =>
    obtain ⟨b, lk, t1, t2, t3, _⟩ := trat k hk
    rw [t3]
    simp only [trIs, t1, ptA, t2, Option.map_some, Option.isNone_some]
    cases b <;> rfl
  have hc0 : cnt (fun p => !tr p) (((ks1.map (ptA μ)) ++ (ks2.map (ptA μ))).filter fun x : Pt => !x.isNone) = (((ks1 ++ ks2).filter (trIs H false)).length : Nat) := by
   unfold cnt
   rw [← List.map_append, Q7S (q := trIs H false)]
   intro k hk
   cases k with
   | none => rfl
   | some k =>
    obtain ⟨b, lk, t1, t2, t3, _⟩ := trat k hk
    rw [t3]
    simp only [trIs, t1, ptA, t2, Option.map_some, Option.isNone_some]
    cases b <;> rfl
  rw [hc0, hc1]
  exact ⟨_, m, μ, rfl, ⟨_, rfl, .int .i64 _, [.int .i64 _], rfl, rfl, .int .i64 _, [], rfl, rfl, rfl⟩, hfr.post rh⟩
end Go.Am
namespace Go.Am
open Go Go.Proofs
set_option maxRecDepth 100000
def Qn.run.told (k : Nat) : List (Nat × QA) := [(7, (QaZ )), (47, QZ.sem k), (38, QT.sem k), (36, QQ.sem k), (37, Q00.sem k), (29, Q09.sem k), (18, Q08.sem k)]
noncomputable def Qn.run.fns : List (Nat × Func) := [(4, Try.f4), (9, Try.f9), (10, Try.f10), (13, Try.f13), (19, Try.f19), (20, Try.f20), (21, Try.f21), (22, Try.f22), (23, Try.f23), (25, Try.f25), (26, Try.f26), (35, Try.f35)]
theorem Qn.run.told_ok (k : Nat) : ∀ f, Qo Try.prog f (gam (Qn.run.told k) f) := (QB (QbN) (QB (QZ.sem_ok k) (QB (QT.sem_ok k) (QB (QQ.sem_ok k) (QB (Q00.sem_ok k) (QB (Q09.sem_ok k) (QB (Q08.sem_ok k) QO)))))))
theorem Qn.run.fns_ok : Q3S Try.prog Qn.run.fns := (.cons Try.func4 (by kernel_rfl) (.cons Try.func9 (by kernel_rfl) (.cons Try.func10 (by kernel_rfl) (.cons Try.func13 (by kernel_rfl) (.cons Try.func19 (by kernel_rfl) (.cons Try.func20 (by kernel_rfl) (.cons Try.func21 (by kernel_rfl) (.cons Try.func22 (by kernel_rfl) (.cons Try.func23 (by kernel_rfl) (.cons Try.func25 (by kernel_rfl) (.cons Try.func26 (by kernel_rfl) (.cons Try.func35 (by kernel_rfl) .nil))))))))))))
def Qn.run.rds : List Nat := [20, 29]
noncomputable def Qn.run.ctx (k : Nat) : Ctx := ⟨Try.prog, runG Try.prog (Qn.run.told k) Qn.run.fns Qn.run.rds 20 8⟩
def Qn (_ : Nat) : Option (Bool × Unit) := some (true, ())
def Qn.tin : List Ty := []
def Qn.tout : List Ty := [.bool]
def Qn.sem (k : Nat) : QA := QP Qn.tin Qn.tout fun _ => Qn k
theorem Qn.run.body {ρ : Type} (K : dens [Ty.bool] → Option ρ) : evC (Qn.run.ctx 140737488355328) (Func.code Try.f9) (annR (Qn.run.ctx 140737488355328) 20 (Func.code Try.f9)) (Q2n Try.f9.ntmps []) (finK Try.prog Try.f9.results.toList [.bool] K) = K (true, ()) := by kernel_rfl
theorem Qn.sem_ok (k : Nat) : Qo Try.prog 9 (Qn.sem k) :=
 QbO (n := 8) (fuel := 20) (rds := Qn.run.rds) (Qn.run.told_ok 140737488355328) Try.mix Qn.run.fns_ok Try.func9 (by kernel_rfl) (by kernel_rfl) (fun K => Qn.run.body K)
end Go.Am
