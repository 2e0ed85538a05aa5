/- A part of a proof: a machine of abstract values that tells what functions of the program compute, and the plain facts on them. -/
import Derived.Test.YtegkgkighkpkiaaAm5
import Derived.Test.YtegkgkighkpkiaaRows
import Derived.KernelRfl
import Derived.Test.YtegkgkighkpkiaaAm4
import Derived.Test.YtegkgkighkpkiaaProg
import Derived.Test.YtegkgkighkpkiaaAm3
set_option linter.unusedVariables false
set_option linter.unusedSimpArgs false
set_option linter.unnecessarySimpa false
set_option linter.unusedSectionVars false
/- What the rows of this seat share. -/
namespace Go.Proofs.Ytegkgkighkpkiaa
open Go.RowKit Go.Am

theorem Try.own : ownKnob Try.prog.godebug = none := by kernel_rfl
theorem Try.laidOut : laidOutB Try.prog = true := by kernel_rfl
end Go.Proofs.Ytegkgkighkpkiaa
namespace Go.Am
open Go
theorem all_getD {p : Int → Prop} {l : List Int} (h : ∀ i, i < l.length → p (l.getD i 0)) : ∀ x ∈ l, p x := by
  intro x hx
  obtain ⟨i, hi, rfl⟩ := List.getElem_of_mem hx
  have := h i hi
  rw [List.getD_eq_getElem?_getD] at this
  simpa [hi] using this
theorem reachBytes_eq : reachBytes = 140737488351232 := rfl
end Go.Am
/- The program of the seat: orders. -/
namespace Go.Am
open Go Go.Proofs
theorem _root_.Go.Proofs.Try.mix : Try.prog.follows .mixedOrders = true := by kernel_rfl
end Go.Am
namespace Go.Am
open Go Go.Proofs
set_option maxRecDepth 100000
/-! 78 bedrock/num.take -/
abbrev num_take.l0.σ : Type := ByteArray × Int × Int × Int × Unit
abbrev num_take.l0.τ : Type := (Int × Unit)
def num_take.l0.r (k : Nat) {ρ : Type} (x : num_take.l0.σ) (kn : num_take.l0.σ → Option ρ) (ke : num_take.l0.τ → Option ρ) : Option ρ :=
  bif (decide (x.2.2.2.1 < x.2.2.1)) then (bif (decide (((0 : Int) ≤ x.2.2.2.1) ∧ (x.2.2.2.1 < (((ByteArray.size x.1) : Nat) : Int)))) then (let v0 : Int := (byteAt x.1 (Int.toNat x.2.2.2.1))
  let v1 : Int := (IntKind.wrap IntKind.i64 ((8 : Int) * x.2.2.2.1))
  bif (decide ((0 : Int) ≤ v1)) then (let v2 : Int := (bitsOp BinOp.or IntKind.u64 x.2.1 (shlOp IntKind.u64 (IntKind.wrap IntKind.u64 v0) v1))
  let v3 : Int := (IntKind.wrap IntKind.i64 (x.2.2.2.1 + (1 : Int)))
  kn (x.1, (v2, (x.2.2.1, (v3, ()))))) else (none)) else (none)) else (ke (x.2.1, ()))
def num_take.l0 (k : Nat) : Nat → num_take.l0.σ → Option num_take.l0.τ := loopJ (num_take.l0.r k)
def num_take.l0.T : StT := ⟨.dat .str :: us 2 ++ .dat (.int .u64) :: us 2 ++ .dat (.int .i64) :: .dat (.int .i64) :: us 13, []⟩
def num_take.l0.os : List Out := [⟨(.exit 0), [.mask [3], .auto 0], ⟨us 3 ++ .dat (.int .u64) :: us 17, []⟩⟩]
def num_take.c (k : Nat) {ρ : Type} (s : ByteArray) (K : Int × Unit → Option ρ) : Option ρ :=
  (num_take.l0 k k (s, ((0 : Int), ((((ByteArray.size s) : Nat) : Int), ((0 : Int), ()))))).bind fun t4 => K (t4.1, ())
def num_take (k : Nat) (s : ByteArray) : Option (Int × Unit) := num_take.c k s some
def num_take.tin : List Ty := [.str]
def num_take.tout : List Ty := [(.int .u64)]
def num_take.sem (k : Nat) : CallSem := callPure num_take.tin num_take.tout fun x => num_take k x.1
noncomputable def num_take.ctx (k : Nat) : Ctx := ⟨Try.prog, gam []⟩
theorem num_take.gok (k : Nat) : ∀ f, SemOK Try.prog f ((num_take.ctx k).Γ f) := gam_nil
theorem num_take.l0.round (k : Nat) : RoundIs (num_take.ctx k) (codeAt (Func.code Try.f78) [1, 1, 0, 1, 0, 0]) (.nil) num_take.l0.T [.mask [0, 3, 6, 7], .auto 0] num_take.l0.os (num_take.l0.r k) := by
  intro ρ x kn ke; kernel_rfl
theorem num_take.l0.ok (k : Nat) : StOK 0 Try.prog (.loop (codeAt (Func.code Try.f78) [1, 1, 0, 1, 0, 0])) (pieceSem num_take.l0.T num_take.l0.os (num_take.l0 k k)) :=
  loop_ok (C := num_take.ctx k) (num_take.gok k) Try.mix AnnOK.nil (by kernel_rfl) (by kernel_rfl) (by kernel_rfl) (num_take.l0.round k) k
def num_take.ann (k : Nat) : Ann := .node [] none (.nil) (.node [] none (.nil) (.node [] none (.node [] none (.nil) (.node [] none (.node [] (some (pieceSem num_take.l0.T num_take.l0.os (num_take.l0 k k))) .nil .nil) (.nil))) (.nil)))
theorem num_take.body (k : Nat) : BodyIs (num_take.ctx k) Try.f78 (Func.code Try.f78) (num_take.ann k) num_take.tin num_take.tout (fun x K => num_take.c k x.1 K) := by
  intro ρ x K; kernel_rfl
theorem num_take.sem_ok (k : Nat) : SemOK Try.prog 78 (num_take.sem k) :=
  callPure_ok (C := num_take.ctx k) (num_take.gok k) Try.mix (c := Func.code Try.f78) (ann := num_take.ann k) (tin := num_take.tin) (tout := num_take.tout) (fun x K => num_take.c k x.1 K) Try.func78 (by kernel_rfl) (by kernel_rfl) (AnnOK.seq AnnOK.nil (AnnOK.seq AnnOK.nil (AnnOK.seq (AnnOK.seq AnnOK.nil (AnnOK.block (AnnOK.loop (by kernel_rfl) (num_take.l0.ok k)))) AnnOK.nil))) (num_take.body k)

/-! 20 bedrock/num.CountLong -/
def num_CountLong.c (k : Nat) {ρ : Type} (n : Int) (K : Int × Unit → Option ρ) : Option ρ :=
  bif (decide (n < (253 : Int))) then (K ((1 : Int), ())) else (bif (decide (n < (65536 : Int))) then (K ((3 : Int), ())) else (bif (decide (n < (4294967296 : Int))) then (K ((5 : Int), ())) else (K ((9 : Int), ()))))
def num_CountLong (k : Nat) (n : Int) : Option (Int × Unit) := num_CountLong.c k n some
def num_CountLong.tin : List Ty := [(.int .u64)]
def num_CountLong.tout : List Ty := [(.int .i64)]
def num_CountLong.sem (k : Nat) : CallSem := callPure num_CountLong.tin num_CountLong.tout fun x => num_CountLong k x.1
noncomputable def num_CountLong.ctx (k : Nat) : Ctx := ⟨Try.prog, gam []⟩
theorem num_CountLong.gok (k : Nat) : ∀ f, SemOK Try.prog f ((num_CountLong.ctx k).Γ f) := gam_nil
def num_CountLong.ann (k : Nat) : Ann := .nil
theorem num_CountLong.body (k : Nat) : BodyIs (num_CountLong.ctx k) Try.f20 (Func.code Try.f20) (num_CountLong.ann k) num_CountLong.tin num_CountLong.tout (fun x K => num_CountLong.c k x.1 K) := by
  intro ρ x K; kernel_rfl
theorem num_CountLong.sem_ok (k : Nat) : SemOK Try.prog 20 (num_CountLong.sem k) :=
  callPure_ok (C := num_CountLong.ctx k) (num_CountLong.gok k) Try.mix (c := Func.code Try.f20) (ann := num_CountLong.ann k) (tin := num_CountLong.tin) (tout := num_CountLong.tout) (fun x K => num_CountLong.c k x.1 K) Try.func20 (by kernel_rfl) (by kernel_rfl) AnnOK.nil (num_CountLong.body k)

/-! 15 bedrock/num.TakeCount -/
abbrev num_TakeCount.p0.σ : Type := ByteArray × Int × Unit
abbrev num_TakeCount.p0.τ : Type := (Int × Int × Int × Unit) ⊕ (ByteArray × Int × Unit)
def num_TakeCount.p0.r (k : Nat) {ρ : Type} (x : num_TakeCount.p0.σ) (K : num_TakeCount.p0.τ → Option ρ) : Option ρ :=
  bif (decide (x.2.1 < (0 : Int))) then (K (.inl ((0 : Int), ((0 : Int), ((1 : Int), ()))))) else (let v0 : Int := (((ByteArray.size x.1) : Nat) : Int)
  bif (decide (x.2.1 > v0)) then (K (.inl ((0 : Int), ((0 : Int), ((1 : Int), ()))))) else (K (.inr (x.1, (x.2.1, ())))))
def num_TakeCount.p0 (k : Nat) (x : num_TakeCount.p0.σ) : Option num_TakeCount.p0.τ := num_TakeCount.p0.r k x some
def num_TakeCount.p0.T : StT := ⟨.dat .str :: .dat (.int .i64) :: us 50, []⟩
def num_TakeCount.p0.os : List Out := [⟨.ret, [.mask [4, 5, 6], .auto 0], ⟨us 4 ++ .dat (.int .u64) :: .dat (.int .i64) :: .dat (.int .i64) :: us 45, []⟩⟩, ⟨.normal, [.mask [0, 1], .auto 0], ⟨.dat .str :: .dat (.int .i64) :: us 50, []⟩⟩]
def num_TakeCount.c (k : Nat) {ρ : Type} (s : ByteArray) (at_1 : Int) (K : Int × Int × Int × Unit → Option ρ) : Option ρ :=
  (num_TakeCount.p0 k (s, (at_1, ()))).bind fun t1 => (match t1 with | .inl t2 => (K (t2.1, (t2.2.1, (t2.2.2.1, ())))) | .inr (t3) => (bif (decide (((0 : Int) ≤ t3.2.1) ∧ ((t3.2.1 ≤ (((ByteArray.size t3.1) : Nat) : Int)) ∧ ((((ByteArray.size t3.1) : Nat) : Int) ≤ (((ByteArray.size t3.1) : Nat) : Int))))) then (let v4 : ByteArray := (ByteArray.extract t3.1 (Int.toNat t3.2.1) (Int.toNat (((ByteArray.size t3.1) : Nat) : Int)))
  bif (strEq v4 (⟨(List.toArray [])⟩ : ByteArray)) then (K ((0 : Int), ((0 : Int), ((4 : Int), ())))) else (bif (decide (((0 : Int) ≤ (0 : Int)) ∧ ((0 : Int) < (((ByteArray.size v4) : Nat) : Int)))) then (bif (decide ((byteAt v4 0) < (253 : Int))) then (bif (decide (((0 : Int) ≤ (0 : Int)) ∧ ((0 : Int) < (((ByteArray.size v4) : Nat) : Int)))) then (let v5 : Int := (IntKind.wrap IntKind.i64 (t3.2.1 + (1 : Int)))
  K ((IntKind.wrap IntKind.u64 (byteAt v4 0)), (v5, ((0 : Int), ())))) else (none)) else (bif (decide (((0 : Int) ≤ (0 : Int)) ∧ ((0 : Int) < (((ByteArray.size v4) : Nat) : Int)))) then (let v6 : Int := (IntKind.wrap IntKind.u8 ((byteAt v4 0) - (253 : Int)))
  bif (decide ((0 : Int) ≤ v6)) then (let v7 : Int := (shlOp IntKind.i64 (2 : Int) v6)
  let v8 : Int := (IntKind.wrap IntKind.i64 ((1 : Int) + v7))
  bif (decide ((((ByteArray.size v4) : Nat) : Int) < v8)) then (K ((0 : Int), ((0 : Int), ((4 : Int), ())))) else (bif (decide (((0 : Int) ≤ (1 : Int)) ∧ (((1 : Int) ≤ v8) ∧ (v8 ≤ (((ByteArray.size v4) : Nat) : Int))))) then ((num_take k (ByteArray.extract v4 1 (Int.toNat v8))).bind fun t9 => (num_CountLong k t9.1).bind fun t10 => bif (t10.1 != v8) then (K ((0 : Int), ((0 : Int), ((6 : Int), ())))) else (let v11 : Int := (IntKind.wrap IntKind.i64 (t3.2.1 + v8))
  K (t9.1, (v11, ((0 : Int), ()))))) else (none))) else (none)) else (none))) else (none))) else (none)))
def num_TakeCount (k : Nat) (s : ByteArray) (at_1 : Int) : Option (Int × Int × Int × Unit) := num_TakeCount.c k s at_1 some
def num_TakeCount.tin : List Ty := [.str, (.int .i64)]
def num_TakeCount.tout : List Ty := [(.int .u64), (.int .i64), (.int .i64)]
def num_TakeCount.sem (k : Nat) : CallSem := callPure num_TakeCount.tin num_TakeCount.tout fun x => num_TakeCount k x.1 x.2.1
noncomputable def num_TakeCount.ctx (k : Nat) : Ctx := ⟨Try.prog, gam [(78, (num_take.sem k)), (20, (num_CountLong.sem k))]⟩
theorem num_TakeCount.gok (k : Nat) : ∀ f, SemOK Try.prog f ((num_TakeCount.ctx k).Γ f) := (gam_cons (num_take.sem_ok k) (gam_cons (num_CountLong.sem_ok k) gam_nil))
theorem num_TakeCount.p0.is (k : Nat) : PieceIs (num_TakeCount.ctx k) (codeAt (Func.code Try.f15) [1, 0]) (.nil) num_TakeCount.p0.T num_TakeCount.p0.os (num_TakeCount.p0.r k) := by
  intro ρ x K; kernel_rfl
theorem num_TakeCount.p0.ok (k : Nat) : StOK 0 Try.prog (codeAt (Func.code Try.f15) [1, 0]) (pieceSem num_TakeCount.p0.T num_TakeCount.p0.os (num_TakeCount.p0 k)) :=
  piece_ok (C := num_TakeCount.ctx k) (T := num_TakeCount.p0.T) (os := num_TakeCount.p0.os) (num_TakeCount.gok k) Try.mix (fun x K => num_TakeCount.p0.r k x K) AnnOK.nil (by kernel_rfl) (by kernel_rfl) (num_TakeCount.p0.is k)
def num_TakeCount.ann (k : Nat) : Ann := .node [] none (.nil) (.node [] none (.node [] (some (pieceSem num_TakeCount.p0.T num_TakeCount.p0.os (num_TakeCount.p0 k))) .nil .nil) (.nil))
theorem num_TakeCount.body (k : Nat) : BodyIs (num_TakeCount.ctx k) Try.f15 (Func.code Try.f15) (num_TakeCount.ann k) num_TakeCount.tin num_TakeCount.tout (fun x K => num_TakeCount.c k x.1 x.2.1 K) := by
  intro ρ x K; kernel_rfl
theorem num_TakeCount.sem_ok (k : Nat) : SemOK Try.prog 15 (num_TakeCount.sem k) :=
  callPure_ok (C := num_TakeCount.ctx k) (num_TakeCount.gok k) Try.mix (c := Func.code Try.f15) (ann := num_TakeCount.ann k) (tin := num_TakeCount.tin) (tout := num_TakeCount.tout) (fun x K => num_TakeCount.c k x.1 x.2.1 K) Try.func15 (by kernel_rfl) (by kernel_rfl) (AnnOK.seq AnnOK.nil (AnnOK.seq (AnnOK.loop (by kernel_rfl) (num_TakeCount.p0.ok k)) AnnOK.nil)) (num_TakeCount.body k)

/-! 79 bedrock/bedrockref01.Get -/
abbrev bedrockref01_Get.l0.σ : Type := ByteArray × Int × Int × Unit
abbrev bedrockref01_Get.l0.τ : Type := (Int × Unit)
def bedrockref01_Get.l0.r (k : Nat) {ρ : Type} (x : bedrockref01_Get.l0.σ) (kn : bedrockref01_Get.l0.σ → Option ρ) (ke : bedrockref01_Get.l0.τ → Option ρ) : Option ρ :=
  bif (decide (x.2.2.1 ≥ (0 : Int))) then (let v1 : Int := (IntKind.wrap IntKind.u64 (x.2.1 * (256 : Int)))
  bif (decide (((0 : Int) ≤ x.2.2.1) ∧ (x.2.2.1 < (((ByteArray.size x.1) : Nat) : Int)))) then (let v2 : Int := (byteAt x.1 (Int.toNat x.2.2.1))
  let v3 : Int := (IntKind.wrap IntKind.u64 (v1 + (IntKind.wrap IntKind.u64 v2)))
  let v4 : Int := (IntKind.wrap IntKind.i64 (x.2.2.1 - (1 : Int)))
  kn (x.1, (v3, (v4, ())))) else (none)) else (ke (x.2.1, ()))
def bedrockref01_Get.l0 (k : Nat) : Nat → bedrockref01_Get.l0.σ → Option bedrockref01_Get.l0.τ := loopJ (bedrockref01_Get.l0.r k)
def bedrockref01_Get.l0.T : StT := ⟨.dat .str :: us 2 ++ .dat (.int .u64) :: .dat (.int .i64) :: us 15, []⟩
def bedrockref01_Get.l0.os : List Out := [⟨(.exit 0), [.mask [3], .auto 0], ⟨us 3 ++ .dat (.int .u64) :: us 16, []⟩⟩]
def bedrockref01_Get.c (k : Nat) {ρ : Type} (s : ByteArray) (K : Int × Unit → Option ρ) : Option ρ :=
  let v0 : Int := (IntKind.wrap IntKind.i64 ((((ByteArray.size s) : Nat) : Int) - (1 : Int)))
  (bedrockref01_Get.l0 k k (s, ((0 : Int), (v0, ())))).bind fun t5 => K (t5.1, ())
def bedrockref01_Get (k : Nat) (s : ByteArray) : Option (Int × Unit) := bedrockref01_Get.c k s some
def bedrockref01_Get.tin : List Ty := [.str]
def bedrockref01_Get.tout : List Ty := [(.int .u64)]
def bedrockref01_Get.sem (k : Nat) : CallSem := callPure bedrockref01_Get.tin bedrockref01_Get.tout fun x => bedrockref01_Get k x.1
noncomputable def bedrockref01_Get.ctx (k : Nat) : Ctx := ⟨Try.prog, gam []⟩
theorem bedrockref01_Get.gok (k : Nat) : ∀ f, SemOK Try.prog f ((bedrockref01_Get.ctx k).Γ f) := gam_nil
theorem bedrockref01_Get.l0.round (k : Nat) : RoundIs (bedrockref01_Get.ctx k) (codeAt (Func.code Try.f79) [1, 1, 0, 1, 0, 0]) (.nil) bedrockref01_Get.l0.T [.mask [0, 3, 4], .auto 0] bedrockref01_Get.l0.os (bedrockref01_Get.l0.r k) := by
  intro ρ x kn ke; kernel_rfl
theorem bedrockref01_Get.l0.ok (k : Nat) : StOK 0 Try.prog (.loop (codeAt (Func.code Try.f79) [1, 1, 0, 1, 0, 0])) (pieceSem bedrockref01_Get.l0.T bedrockref01_Get.l0.os (bedrockref01_Get.l0 k k)) :=
  loop_ok (C := bedrockref01_Get.ctx k) (bedrockref01_Get.gok k) Try.mix AnnOK.nil (by kernel_rfl) (by kernel_rfl) (by kernel_rfl) (bedrockref01_Get.l0.round k) k
def bedrockref01_Get.ann (k : Nat) : Ann := .node [] none (.nil) (.node [] none (.nil) (.node [] none (.node [] none (.nil) (.node [] none (.node [] (some (pieceSem bedrockref01_Get.l0.T bedrockref01_Get.l0.os (bedrockref01_Get.l0 k k))) .nil .nil) (.nil))) (.nil)))
theorem bedrockref01_Get.body (k : Nat) : BodyIs (bedrockref01_Get.ctx k) Try.f79 (Func.code Try.f79) (bedrockref01_Get.ann k) bedrockref01_Get.tin bedrockref01_Get.tout (fun x K => bedrockref01_Get.c k x.1 K) := by
  intro ρ x K; kernel_rfl
theorem bedrockref01_Get.sem_ok (k : Nat) : SemOK Try.prog 79 (bedrockref01_Get.sem k) :=
  callPure_ok (C := bedrockref01_Get.ctx k) (bedrockref01_Get.gok k) Try.mix (c := Func.code Try.f79) (ann := bedrockref01_Get.ann k) (tin := bedrockref01_Get.tin) (tout := bedrockref01_Get.tout) (fun x K => bedrockref01_Get.c k x.1 K) Try.func79 (by kernel_rfl) (by kernel_rfl) (AnnOK.seq AnnOK.nil (AnnOK.seq AnnOK.nil (AnnOK.seq (AnnOK.seq AnnOK.nil (AnnOK.block (AnnOK.loop (by kernel_rfl) (bedrockref01_Get.l0.ok k)))) AnnOK.nil))) (bedrockref01_Get.body k)

/-! 80 bedrock/bedrockref01.Low -/
abbrev bedrockref01_Low.l0.σ : Type := Int × Int × ByteArray × Int × Unit
abbrev bedrockref01_Low.l0.τ : Type := (ByteArray × Unit)
def bedrockref01_Low.l0.r (k : Nat) {ρ : Type} (x : bedrockref01_Low.l0.σ) (kn : bedrockref01_Low.l0.σ → Option ρ) (ke : bedrockref01_Low.l0.τ → Option ρ) : Option ρ :=
  bif (decide (x.2.2.2.1 < x.2.1)) then (let v0 : Int := (Int.tmod x.1 (256 : Int))
  let v1 : ByteArray := (bytesOf (List.set (List.replicate 1 (0 : Int)) 0 (IntKind.wrap IntKind.u8 v0)))
  bif (Nat.ble ((ByteArray.size x.2.2.1) + (ByteArray.size v1)) 9223372036854775807) then (let v2 : ByteArray := (x.2.2.1 ++ v1)
  let v3 : Int := (IntKind.wrap IntKind.u64 (Int.tdiv x.1 (256 : Int)))
  let v4 : Int := (IntKind.wrap IntKind.i64 (x.2.2.2.1 + (1 : Int)))
  kn (v3, (x.2.1, (v2, (v4, ()))))) else (none)) else (ke (x.2.2.1, ()))
def bedrockref01_Low.l0 (k : Nat) : Nat → bedrockref01_Low.l0.σ → Option bedrockref01_Low.l0.τ := loopJ (bedrockref01_Low.l0.r k)
def bedrockref01_Low.l0.T : StT := ⟨.dat (.int .u64) :: .dat (.int .i64) :: us 3 ++ .dat .str :: .dat (.int .i64) :: us 15, []⟩
def bedrockref01_Low.l0.os : List Out := [⟨(.exit 0), [.mask [5], .auto 0], ⟨us 5 ++ .dat .str :: us 16, []⟩⟩]
def bedrockref01_Low.c (k : Nat) {ρ : Type} (n : Int) (bytes : Int) (K : ByteArray × Unit → Option ρ) : Option ρ :=
  (bedrockref01_Low.l0 k k (n, (bytes, ((⟨(List.toArray [])⟩ : ByteArray), ((0 : Int), ()))))).bind fun t5 => K (t5.1, ())
def bedrockref01_Low (k : Nat) (n : Int) (bytes : Int) : Option (ByteArray × Unit) := bedrockref01_Low.c k n bytes some
def bedrockref01_Low.tin : List Ty := [(.int .u64), (.int .i64)]
def bedrockref01_Low.tout : List Ty := [.str]
def bedrockref01_Low.sem (k : Nat) : CallSem := callPure bedrockref01_Low.tin bedrockref01_Low.tout fun x => bedrockref01_Low k x.1 x.2.1
noncomputable def bedrockref01_Low.ctx (k : Nat) : Ctx := ⟨Try.prog, gam []⟩
theorem bedrockref01_Low.gok (k : Nat) : ∀ f, SemOK Try.prog f ((bedrockref01_Low.ctx k).Γ f) := gam_nil
theorem bedrockref01_Low.l0.round (k : Nat) : RoundIs (bedrockref01_Low.ctx k) (codeAt (Func.code Try.f80) [1, 1, 0, 1, 0, 0]) (.nil) bedrockref01_Low.l0.T [.mask [0, 1, 5, 6], .auto 0] bedrockref01_Low.l0.os (bedrockref01_Low.l0.r k) := by
  intro ρ x kn ke; kernel_rfl
theorem bedrockref01_Low.l0.ok (k : Nat) : StOK 0 Try.prog (.loop (codeAt (Func.code Try.f80) [1, 1, 0, 1, 0, 0])) (pieceSem bedrockref01_Low.l0.T bedrockref01_Low.l0.os (bedrockref01_Low.l0 k k)) :=
  loop_ok (C := bedrockref01_Low.ctx k) (bedrockref01_Low.gok k) Try.mix AnnOK.nil (by kernel_rfl) (by kernel_rfl) (by kernel_rfl) (bedrockref01_Low.l0.round k) k
def bedrockref01_Low.ann (k : Nat) : Ann := .node [] none (.nil) (.node [] none (.nil) (.node [] none (.node [] none (.nil) (.node [] none (.node [] (some (pieceSem bedrockref01_Low.l0.T bedrockref01_Low.l0.os (bedrockref01_Low.l0 k k))) .nil .nil) (.nil))) (.nil)))
theorem bedrockref01_Low.body (k : Nat) : BodyIs (bedrockref01_Low.ctx k) Try.f80 (Func.code Try.f80) (bedrockref01_Low.ann k) bedrockref01_Low.tin bedrockref01_Low.tout (fun x K => bedrockref01_Low.c k x.1 x.2.1 K) := by
  intro ρ x K; kernel_rfl
theorem bedrockref01_Low.sem_ok (k : Nat) : SemOK Try.prog 80 (bedrockref01_Low.sem k) :=
  callPure_ok (C := bedrockref01_Low.ctx k) (bedrockref01_Low.gok k) Try.mix (c := Func.code Try.f80) (ann := bedrockref01_Low.ann k) (tin := bedrockref01_Low.tin) (tout := bedrockref01_Low.tout) (fun x K => bedrockref01_Low.c k x.1 x.2.1 K) Try.func80 (by kernel_rfl) (by kernel_rfl) (AnnOK.seq AnnOK.nil (AnnOK.seq AnnOK.nil (AnnOK.seq (AnnOK.seq AnnOK.nil (AnnOK.block (AnnOK.loop (by kernel_rfl) (bedrockref01_Low.l0.ok k)))) AnnOK.nil))) (bedrockref01_Low.body k)

/-! 17 bedrock/bedrockref01.Count -/
def bedrockref01_Count.c (k : Nat) {ρ : Type} (n : Int) (K : ByteArray × Unit → Option ρ) : Option ρ :=
  bif (decide (n < (253 : Int))) then ((bedrockref01_Low k n (1 : Int)).bind fun t0 => K (t0.1, ())) else (bif (decide (n ≤ (65535 : Int))) then ((bedrockref01_Low k n (2 : Int)).bind fun t1 => bif (Nat.ble (1 + (ByteArray.size t1.1)) 9223372036854775807) then (let v2 : ByteArray := ((⟨(List.toArray [253])⟩ : ByteArray) ++ t1.1)
  K (v2, ())) else (none)) else (bif (decide (n ≤ (4294967295 : Int))) then ((bedrockref01_Low k n (4 : Int)).bind fun t3 => bif (Nat.ble (1 + (ByteArray.size t3.1)) 9223372036854775807) then (let v4 : ByteArray := ((⟨(List.toArray [254])⟩ : ByteArray) ++ t3.1)
  K (v4, ())) else (none)) else ((bedrockref01_Low k n (8 : Int)).bind fun t5 => bif (Nat.ble (1 + (ByteArray.size t5.1)) 9223372036854775807) then (let v6 : ByteArray := ((⟨(List.toArray [255])⟩ : ByteArray) ++ t5.1)
  K (v6, ())) else (none))))
def bedrockref01_Count (k : Nat) (n : Int) : Option (ByteArray × Unit) := bedrockref01_Count.c k n some
def bedrockref01_Count.tin : List Ty := [(.int .u64)]
def bedrockref01_Count.tout : List Ty := [.str]
def bedrockref01_Count.sem (k : Nat) : CallSem := callPure bedrockref01_Count.tin bedrockref01_Count.tout fun x => bedrockref01_Count k x.1
noncomputable def bedrockref01_Count.ctx (k : Nat) : Ctx := ⟨Try.prog, gam [(80, (bedrockref01_Low.sem k))]⟩
theorem bedrockref01_Count.gok (k : Nat) : ∀ f, SemOK Try.prog f ((bedrockref01_Count.ctx k).Γ f) := (gam_cons (bedrockref01_Low.sem_ok k) gam_nil)
def bedrockref01_Count.ann (k : Nat) : Ann := .nil
theorem bedrockref01_Count.body (k : Nat) : BodyIs (bedrockref01_Count.ctx k) Try.f17 (Func.code Try.f17) (bedrockref01_Count.ann k) bedrockref01_Count.tin bedrockref01_Count.tout (fun x K => bedrockref01_Count.c k x.1 K) := by
  intro ρ x K; kernel_rfl
theorem bedrockref01_Count.sem_ok (k : Nat) : SemOK Try.prog 17 (bedrockref01_Count.sem k) :=
  callPure_ok (C := bedrockref01_Count.ctx k) (bedrockref01_Count.gok k) Try.mix (c := Func.code Try.f17) (ann := bedrockref01_Count.ann k) (tin := bedrockref01_Count.tin) (tout := bedrockref01_Count.tout) (fun x K => bedrockref01_Count.c k x.1 K) Try.func17 (by kernel_rfl) (by kernel_rfl) AnnOK.nil (bedrockref01_Count.body k)

/-! 16 bedrock/bedrockref01.TakeCount -/
abbrev bedrockref01_TakeCount.p0.σ : Type := ByteArray × Int × Unit
abbrev bedrockref01_TakeCount.p0.τ : Type := (Int × Int × Int × Unit) ⊕ (ByteArray × Int × Unit)
def bedrockref01_TakeCount.p0.r (k : Nat) {ρ : Type} (x : bedrockref01_TakeCount.p0.σ) (K : bedrockref01_TakeCount.p0.τ → Option ρ) : Option ρ :=
  bif (decide (x.2.1 < (0 : Int))) then (K (.inl ((0 : Int), ((0 : Int), ((1 : Int), ()))))) else (let v0 : Int := (((ByteArray.size x.1) : Nat) : Int)
  bif (decide (x.2.1 > v0)) then (K (.inl ((0 : Int), ((0 : Int), ((1 : Int), ()))))) else (K (.inr (x.1, (x.2.1, ())))))
def bedrockref01_TakeCount.p0 (k : Nat) (x : bedrockref01_TakeCount.p0.σ) : Option bedrockref01_TakeCount.p0.τ := bedrockref01_TakeCount.p0.r k x some
def bedrockref01_TakeCount.p0.T : StT := ⟨.dat .str :: .dat (.int .i64) :: us 61, []⟩
def bedrockref01_TakeCount.p0.os : List Out := [⟨.ret, [.mask [4, 5, 6], .auto 0], ⟨us 4 ++ .dat (.int .u64) :: .dat (.int .i64) :: .dat (.int .i64) :: us 56, []⟩⟩, ⟨.normal, [.mask [0, 1], .auto 0], ⟨.dat .str :: .dat (.int .i64) :: us 61, []⟩⟩]
abbrev bedrockref01_TakeCount.p1.σ : Type := ByteArray × Int × Int × Unit
abbrev bedrockref01_TakeCount.p1.τ : Type := (ByteArray × Int × Int × Unit)
def bedrockref01_TakeCount.p1.r (k : Nat) {ρ : Type} (x : bedrockref01_TakeCount.p1.σ) (K : bedrockref01_TakeCount.p1.τ → Option ρ) : Option ρ :=
  bif (decide (((0 : Int) ≤ x.2.1) ∧ (x.2.1 < (((ByteArray.size x.1) : Nat) : Int)))) then (let v5 : Int := (byteAt x.1 (Int.toNat x.2.1))
  bif (v5 == (253 : Int)) then (K (x.1, (x.2.1, ((2 : Int), ())))) else (bif (v5 == (254 : Int)) then (K (x.1, (x.2.1, ((4 : Int), ())))) else (bif (v5 == (255 : Int)) then (K (x.1, (x.2.1, ((8 : Int), ())))) else (K (x.1, (x.2.1, (x.2.2.1, ()))))))) else (none)
def bedrockref01_TakeCount.p1 (k : Nat) (x : bedrockref01_TakeCount.p1.σ) : Option bedrockref01_TakeCount.p1.τ := bedrockref01_TakeCount.p1.r k x some
def bedrockref01_TakeCount.p1.T : StT := ⟨.dat .str :: .dat (.int .i64) :: us 5 ++ .dat (.int .i64) :: us 55, []⟩
def bedrockref01_TakeCount.p1.os : List Out := [⟨.normal, [.mask [0, 1, 7], .auto 0], ⟨.dat .str :: .dat (.int .i64) :: us 5 ++ .dat (.int .i64) :: us 55, []⟩⟩]
abbrev bedrockref01_TakeCount.p2.σ : Type := ByteArray × Int × Int × Int × Unit
abbrev bedrockref01_TakeCount.p2.τ : Type := (Int × Int × Int × Unit)
def bedrockref01_TakeCount.p2.r (k : Nat) {ρ : Type} (x : bedrockref01_TakeCount.p2.σ) (K : bedrockref01_TakeCount.p2.τ → Option ρ) : Option ρ :=
  bif (decide (x.2.2.1 > (0 : Int))) then (let v11 : Int := (IntKind.wrap IntKind.i64 (x.2.1 + (1 : Int)))
  let v12 : Int := (IntKind.wrap IntKind.i64 (x.2.1 + (1 : Int)))
  let v13 : Int := (IntKind.wrap IntKind.i64 (v12 + x.2.2.1))
  bif (decide (((0 : Int) ≤ v11) ∧ ((v11 ≤ v13) ∧ (v13 ≤ (((ByteArray.size x.1) : Nat) : Int))))) then (let v14 : ByteArray := (ByteArray.extract x.1 (Int.toNat v11) (Int.toNat v13))
  (bedrockref01_Get k v14).bind fun t15 => K (x.2.1, (x.2.2.1, (t15.1, ())))) else (none)) else (K (x.2.1, (x.2.2.1, (x.2.2.2.1, ()))))
def bedrockref01_TakeCount.p2 (k : Nat) (x : bedrockref01_TakeCount.p2.σ) : Option bedrockref01_TakeCount.p2.τ := bedrockref01_TakeCount.p2.r k x some
def bedrockref01_TakeCount.p2.T : StT := ⟨.dat .str :: .dat (.int .i64) :: us 5 ++ .dat (.int .i64) :: .dat (.int .u64) :: us 54, []⟩
def bedrockref01_TakeCount.p2.os : List Out := [⟨.normal, [.mask [1, 7, 8], .auto 0], ⟨us 1 ++ .dat (.int .i64) :: us 5 ++ .dat (.int .i64) :: .dat (.int .u64) :: us 54, []⟩⟩]
def bedrockref01_TakeCount.c (k : Nat) {ρ : Type} (s : ByteArray) (at_1 : Int) (K : Int × Int × Int × Unit → Option ρ) : Option ρ :=
  (bedrockref01_TakeCount.p0 k (s, (at_1, ()))).bind fun t1 => (match t1 with | .inl t2 => (K (t2.1, (t2.2.1, (t2.2.2.1, ())))) | .inr (t3) => (let v4 : Int := (((ByteArray.size t3.1) : Nat) : Int)
  bif (t3.2.1 == v4) then (K ((0 : Int), ((0 : Int), ((4 : Int), ())))) else ((bedrockref01_TakeCount.p1 k (t3.1, (t3.2.1, ((0 : Int), ())))).bind fun t6 => let v7 : Int := (((ByteArray.size t6.1) : Nat) : Int)
  let v8 : Int := (IntKind.wrap IntKind.i64 (v7 - t6.2.1))
  let v9 : Int := (IntKind.wrap IntKind.i64 (v8 - (1 : Int)))
  bif (decide (v9 < t6.2.2.1)) then (K ((0 : Int), ((0 : Int), ((4 : Int), ())))) else (bif (decide (((0 : Int) ≤ t6.2.1) ∧ (t6.2.1 < (((ByteArray.size t6.1) : Nat) : Int)))) then (let v10 : Int := (byteAt t6.1 (Int.toNat t6.2.1))
  (bedrockref01_TakeCount.p2 k (t6.1, (t6.2.1, (t6.2.2.1, ((IntKind.wrap IntKind.u64 v10), ()))))).bind fun t16 => (bedrockref01_Count k t16.2.2.1).bind fun t17 => let v18 : Int := (((ByteArray.size t17.1) : Nat) : Int)
  let v19 : Int := (IntKind.wrap IntKind.i64 ((1 : Int) + t16.2.1))
  bif (v18 != v19) then (K ((0 : Int), ((0 : Int), ((6 : Int), ())))) else (let v20 : Int := (IntKind.wrap IntKind.i64 (t16.1 + (1 : Int)))
  let v21 : Int := (IntKind.wrap IntKind.i64 (v20 + t16.2.1))
  K (t16.2.2.1, (v21, ((0 : Int), ()))))) else (none)))))
def bedrockref01_TakeCount (k : Nat) (s : ByteArray) (at_1 : Int) : Option (Int × Int × Int × Unit) := bedrockref01_TakeCount.c k s at_1 some
def bedrockref01_TakeCount.tin : List Ty := [.str, (.int .i64)]
def bedrockref01_TakeCount.tout : List Ty := [(.int .u64), (.int .i64), (.int .i64)]
def bedrockref01_TakeCount.sem (k : Nat) : CallSem := callPure bedrockref01_TakeCount.tin bedrockref01_TakeCount.tout fun x => bedrockref01_TakeCount k x.1 x.2.1
noncomputable def bedrockref01_TakeCount.ctx (k : Nat) : Ctx := ⟨Try.prog, gam [(79, (bedrockref01_Get.sem k)), (17, (bedrockref01_Count.sem k))]⟩
theorem bedrockref01_TakeCount.gok (k : Nat) : ∀ f, SemOK Try.prog f ((bedrockref01_TakeCount.ctx k).Γ f) := (gam_cons (bedrockref01_Get.sem_ok k) (gam_cons (bedrockref01_Count.sem_ok k) gam_nil))
theorem bedrockref01_TakeCount.p0.is (k : Nat) : PieceIs (bedrockref01_TakeCount.ctx k) (codeAt (Func.code Try.f16) [1, 0]) (.nil) bedrockref01_TakeCount.p0.T bedrockref01_TakeCount.p0.os (bedrockref01_TakeCount.p0.r k) := by
  intro ρ x K; kernel_rfl
theorem bedrockref01_TakeCount.p0.ok (k : Nat) : StOK 0 Try.prog (codeAt (Func.code Try.f16) [1, 0]) (pieceSem bedrockref01_TakeCount.p0.T bedrockref01_TakeCount.p0.os (bedrockref01_TakeCount.p0 k)) :=
  piece_ok (C := bedrockref01_TakeCount.ctx k) (T := bedrockref01_TakeCount.p0.T) (os := bedrockref01_TakeCount.p0.os) (bedrockref01_TakeCount.gok k) Try.mix (fun x K => bedrockref01_TakeCount.p0.r k x K) AnnOK.nil (by kernel_rfl) (by kernel_rfl) (bedrockref01_TakeCount.p0.is k)
theorem bedrockref01_TakeCount.p1.is (k : Nat) : PieceIs (bedrockref01_TakeCount.ctx k) (codeAt (Func.code Try.f16) [1, 1, 1, 1, 0]) (.nil) bedrockref01_TakeCount.p1.T bedrockref01_TakeCount.p1.os (bedrockref01_TakeCount.p1.r k) := by
  intro ρ x K; kernel_rfl
theorem bedrockref01_TakeCount.p1.ok (k : Nat) : StOK 0 Try.prog (codeAt (Func.code Try.f16) [1, 1, 1, 1, 0]) (pieceSem bedrockref01_TakeCount.p1.T bedrockref01_TakeCount.p1.os (bedrockref01_TakeCount.p1 k)) :=
  piece_ok (C := bedrockref01_TakeCount.ctx k) (T := bedrockref01_TakeCount.p1.T) (os := bedrockref01_TakeCount.p1.os) (bedrockref01_TakeCount.gok k) Try.mix (fun x K => bedrockref01_TakeCount.p1.r k x K) AnnOK.nil (by kernel_rfl) (by kernel_rfl) (bedrockref01_TakeCount.p1.is k)
theorem bedrockref01_TakeCount.p2.is (k : Nat) : PieceIs (bedrockref01_TakeCount.ctx k) (codeAt (Func.code Try.f16) [1, 1, 1, 1, 1, 1, 1, 0]) (.nil) bedrockref01_TakeCount.p2.T bedrockref01_TakeCount.p2.os (bedrockref01_TakeCount.p2.r k) := by
  intro ρ x K; kernel_rfl
theorem bedrockref01_TakeCount.p2.ok (k : Nat) : StOK 0 Try.prog (codeAt (Func.code Try.f16) [1, 1, 1, 1, 1, 1, 1, 0]) (pieceSem bedrockref01_TakeCount.p2.T bedrockref01_TakeCount.p2.os (bedrockref01_TakeCount.p2 k)) :=
  piece_ok (C := bedrockref01_TakeCount.ctx k) (T := bedrockref01_TakeCount.p2.T) (os := bedrockref01_TakeCount.p2.os) (bedrockref01_TakeCount.gok k) Try.mix (fun x K => bedrockref01_TakeCount.p2.r k x K) AnnOK.nil (by kernel_rfl) (by kernel_rfl) (bedrockref01_TakeCount.p2.is k)
def bedrockref01_TakeCount.ann (k : Nat) : Ann := .node [] none (.nil) (.node [] none (.node [] (some (pieceSem bedrockref01_TakeCount.p0.T bedrockref01_TakeCount.p0.os (bedrockref01_TakeCount.p0 k))) .nil .nil) (.node [] none (.nil) (.node [] none (.nil) (.node [] none (.node [] (some (pieceSem bedrockref01_TakeCount.p1.T bedrockref01_TakeCount.p1.os (bedrockref01_TakeCount.p1 k))) .nil .nil) (.node [] none (.nil) (.node [] none (.nil) (.node [] none (.node [] (some (pieceSem bedrockref01_TakeCount.p2.T bedrockref01_TakeCount.p2.os (bedrockref01_TakeCount.p2 k))) .nil .nil) (.nil))))))))
theorem bedrockref01_TakeCount.body (k : Nat) : BodyIs (bedrockref01_TakeCount.ctx k) Try.f16 (Func.code Try.f16) (bedrockref01_TakeCount.ann k) bedrockref01_TakeCount.tin bedrockref01_TakeCount.tout (fun x K => bedrockref01_TakeCount.c k x.1 x.2.1 K) := by
  intro ρ x K; kernel_rfl
theorem bedrockref01_TakeCount.sem_ok (k : Nat) : SemOK Try.prog 16 (bedrockref01_TakeCount.sem k) :=
  callPure_ok (C := bedrockref01_TakeCount.ctx k) (bedrockref01_TakeCount.gok k) Try.mix (c := Func.code Try.f16) (ann := bedrockref01_TakeCount.ann k) (tin := bedrockref01_TakeCount.tin) (tout := bedrockref01_TakeCount.tout) (fun x K => bedrockref01_TakeCount.c k x.1 x.2.1 K) Try.func16 (by kernel_rfl) (by kernel_rfl) (AnnOK.seq AnnOK.nil (AnnOK.seq (AnnOK.loop (by kernel_rfl) (bedrockref01_TakeCount.p0.ok k)) (AnnOK.seq AnnOK.nil (AnnOK.seq AnnOK.nil (AnnOK.seq (AnnOK.loop (by kernel_rfl) (bedrockref01_TakeCount.p1.ok k)) (AnnOK.seq AnnOK.nil (AnnOK.seq AnnOK.nil (AnnOK.seq (AnnOK.loop (by kernel_rfl) (bedrockref01_TakeCount.p2.ok k)) AnnOK.nil)))))))) (bedrockref01_TakeCount.body k)

/-! 43 bedrock/num.Hex -/
abbrev num_Hex.l0.σ : Type := ByteArray × Int × Int × (List Int) × Unit
abbrev num_Hex.l0.τ : Type := ((List Int) × Unit)
def num_Hex.l0.r (k : Nat) {ρ : Type} (x : num_Hex.l0.σ) (kn : num_Hex.l0.σ → Option ρ) (ke : num_Hex.l0.τ → Option ρ) : Option ρ :=
  bif (decide (x.2.2.1 < x.2.1)) then (bif (decide (((0 : Int) ≤ x.2.2.1) ∧ (x.2.2.1 < (((ByteArray.size x.1) : Nat) : Int)))) then (let v1 : Int := (byteAt x.1 (Int.toNat x.2.2.1))
  let v2 : Int := (shrOp IntKind.u8 v1 (4 : Int))
  bif (decide (((0 : Int) ≤ v2) ∧ (v2 < ((16 : Nat) : Int)))) then (let v3 : Int := (byteAt (⟨(List.toArray [48, 49, 50, 51, 52, 53, 54, 55, 56, 57, 97, 98, 99, 100, 101, 102])⟩ : ByteArray) (Int.toNat v2))
  bif (decide (((0 : Int) ≤ x.2.2.1) ∧ (x.2.2.1 < (((ByteArray.size x.1) : Nat) : Int)))) then (let v4 : Int := (byteAt x.1 (Int.toNat x.2.2.1))
  let v5 : Int := (bitsOp BinOp.and IntKind.u8 v4 (15 : Int))
  bif (decide (((0 : Int) ≤ v5) ∧ (v5 < ((16 : Nat) : Int)))) then (let v6 : Int := (byteAt (⟨(List.toArray [48, 49, 50, 51, 52, 53, 54, 55, 56, 57, 97, 98, 99, 100, 101, 102])⟩ : ByteArray) (Int.toNat v5))
  bif (Nat.ble (((List.length x.2.2.2.1) + (List.length (List.set (List.set (List.replicate 2 (0 : Int)) 0 v3) 1 v6))) * 1) 140737488355328) then (let v7 : Int := (IntKind.wrap IntKind.i64 (x.2.2.1 + (1 : Int)))
  kn (x.1, (x.2.1, (v7, ((x.2.2.2.1 ++ (List.set (List.set (List.replicate 2 (0 : Int)) 0 v3) 1 v6)), ()))))) else (none)) else (none)) else (none)) else (none)) else (none)) else (ke (x.2.2.2.1, ()))
def num_Hex.l0 (k : Nat) : Nat → num_Hex.l0.σ → Option num_Hex.l0.τ := loopJ (num_Hex.l0.r k)
def num_Hex.l0.T : StT := ⟨.dat .str :: us 2 ++ .vsl 0 :: us 6 ++ .dat (.int .i64) :: .dat (.int .i64) :: us 18, [.vec (.int .u8)]⟩
def num_Hex.l0.os : List Out := [⟨(.exit 0), [.mask [3], .auto 0], ⟨us 3 ++ .vsl 0 :: us 26, [.vec (.int .u8)]⟩⟩]
def num_Hex.c (k : Nat) {ρ : Type} (s : ByteArray) (K : ByteArray × Unit → Option ρ) : Option ρ :=
  let v0 : Int := (IntKind.wrap IntKind.i64 ((2 : Int) * (((ByteArray.size s) : Nat) : Int)))
  bif ((decide (((0 : Int) ≤ (0 : Int)) ∧ ((0 : Int) ≤ v0))) && (Nat.ble ((Int.toNat v0) * 1) 140737488355328)) then ((num_Hex.l0 k k (s, ((((ByteArray.size s) : Nat) : Int), ((0 : Int), ((List.replicate 0 (0 : Int)), ()))))).bind fun t8 => K ((bytesOf t8.1), ())) else (none)
def num_Hex (k : Nat) (s : ByteArray) : Option (ByteArray × Unit) := num_Hex.c k s some
def num_Hex.tin : List Ty := [.str]
def num_Hex.tout : List Ty := [.str]
def num_Hex.sem (k : Nat) : CallSem := callPure num_Hex.tin num_Hex.tout fun x => num_Hex k x.1
noncomputable def num_Hex.ctx (k : Nat) : Ctx := ⟨Try.prog, gam []⟩
theorem num_Hex.gok (k : Nat) : ∀ f, SemOK Try.prog f ((num_Hex.ctx k).Γ f) := gam_nil
theorem num_Hex.l0.round (k : Nat) : RoundIs (num_Hex.ctx k) (codeAt (Func.code Try.f43) [1, 1, 0, 1, 0, 0]) (.nil) num_Hex.l0.T [.mask [0, 3, 10, 11], .auto 0] num_Hex.l0.os (num_Hex.l0.r k) := by
  intro ρ x kn ke; kernel_rfl
theorem num_Hex.l0.ok (k : Nat) : StOK 0 Try.prog (.loop (codeAt (Func.code Try.f43) [1, 1, 0, 1, 0, 0])) (pieceSem num_Hex.l0.T num_Hex.l0.os (num_Hex.l0 k k)) :=
  loop_ok (C := num_Hex.ctx k) (num_Hex.gok k) Try.mix AnnOK.nil (by kernel_rfl) (by kernel_rfl) (by kernel_rfl) (num_Hex.l0.round k) k
def num_Hex.ann (k : Nat) : Ann := .node [] none (.nil) (.node [] none (.nil) (.node [] none (.node [] none (.nil) (.node [] none (.node [.mask [0, 3, 10, 11], .auto 0] (some (pieceSem num_Hex.l0.T num_Hex.l0.os (num_Hex.l0 k k))) .nil .nil) (.nil))) (.nil)))
theorem num_Hex.body (k : Nat) : BodyIs (num_Hex.ctx k) Try.f43 (Func.code Try.f43) (num_Hex.ann k) num_Hex.tin num_Hex.tout (fun x K => num_Hex.c k x.1 K) := by
  intro ρ x K; kernel_rfl
theorem num_Hex.sem_ok (k : Nat) : SemOK Try.prog 43 (num_Hex.sem k) :=
  callPure_ok (C := num_Hex.ctx k) (num_Hex.gok k) Try.mix (c := Func.code Try.f43) (ann := num_Hex.ann k) (tin := num_Hex.tin) (tout := num_Hex.tout) (fun x K => num_Hex.c k x.1 K) Try.func43 (by kernel_rfl) (by kernel_rfl) (AnnOK.seq AnnOK.nil (AnnOK.seq AnnOK.nil (AnnOK.seq (AnnOK.seq AnnOK.nil (AnnOK.block (AnnOK.loop (by kernel_rfl) (num_Hex.l0.ok k)))) AnnOK.nil))) (num_Hex.body k)

/-! 18 bedrock/bedrocklaw01.awake -/
def bedrocklaw01_awake.c (k : Nat) {ρ : Type}  (K : Bool × Unit → Option ρ) : Option ρ :=
  (num_TakeCount k (⟨(List.toArray [253, 0, 1])⟩ : ByteArray) (0 : Int)).bind fun t0 => let v1 : Int := t0.1
  let v2 : Int := t0.2.1
  let v3 : Int := t0.2.2.1
  bif (v1 == (256 : Int)) then (bif (v2 == (3 : Int)) then (bif (v3 == (0 : Int)) then ((num_Hex k (⟨(List.toArray [171])⟩ : ByteArray)).bind fun t4 => K ((strEq t4.1 (⟨(List.toArray [97, 98])⟩ : ByteArray)), ())) else (K (false, ()))) else (K (false, ()))) else (K (false, ()))
def bedrocklaw01_awake (k : Nat)  : Option (Bool × Unit) := bedrocklaw01_awake.c k  some
def bedrocklaw01_awake.tin : List Ty := []
def bedrocklaw01_awake.tout : List Ty := [.bool]
def bedrocklaw01_awake.sem (k : Nat) : CallSem := callPure bedrocklaw01_awake.tin bedrocklaw01_awake.tout fun x => bedrocklaw01_awake k 
noncomputable def bedrocklaw01_awake.ctx (k : Nat) : Ctx := ⟨Try.prog, gam [(15, (num_TakeCount.sem k)), (43, (num_Hex.sem k))]⟩
theorem bedrocklaw01_awake.gok (k : Nat) : ∀ f, SemOK Try.prog f ((bedrocklaw01_awake.ctx k).Γ f) := (gam_cons (num_TakeCount.sem_ok k) (gam_cons (num_Hex.sem_ok k) gam_nil))
def bedrocklaw01_awake.ann (k : Nat) : Ann := .nil
theorem bedrocklaw01_awake.body (k : Nat) : BodyIs (bedrocklaw01_awake.ctx k) Try.f18 (Func.code Try.f18) (bedrocklaw01_awake.ann k) bedrocklaw01_awake.tin bedrocklaw01_awake.tout (fun x K => bedrocklaw01_awake.c k  K) := by
  intro ρ x K; kernel_rfl
theorem bedrocklaw01_awake.sem_ok (k : Nat) : SemOK Try.prog 18 (bedrocklaw01_awake.sem k) :=
  callPure_ok (C := bedrocklaw01_awake.ctx k) (bedrocklaw01_awake.gok k) Try.mix (c := Func.code Try.f18) (ann := bedrocklaw01_awake.ann k) (tin := bedrocklaw01_awake.tin) (tout := bedrocklaw01_awake.tout) (fun x K => bedrocklaw01_awake.c k  K) Try.func18 (by kernel_rfl) (by kernel_rfl) AnnOK.nil (bedrocklaw01_awake.body k)

/-! 81 bedrock/num.lay -/
abbrev num_lay.l0.σ : Type := Int × Int × Int × (List Int) × Unit
abbrev num_lay.l0.τ : Type := ((List Int) × Unit)
def num_lay.l0.r (k : Nat) {ρ : Type} (x : num_lay.l0.σ) (kn : num_lay.l0.σ → Option ρ) (ke : num_lay.l0.τ → Option ρ) : Option ρ :=
  bif (decide (x.2.2.1 < x.2.1)) then (let v1 : Int := (IntKind.wrap IntKind.i64 ((8 : Int) * x.2.2.1))
  bif (decide ((0 : Int) ≤ v1)) then (let v2 : Int := (shrOp IntKind.u64 x.1 v1)
  bif (decide (((0 : Int) ≤ x.2.2.1) ∧ (x.2.2.1 < (((List.length x.2.2.2.1) : Nat) : Int)))) then (let v3 : Int := (IntKind.wrap IntKind.i64 (x.2.2.1 + (1 : Int)))
  kn (x.1, (x.2.1, (v3, ((List.set x.2.2.2.1 (Int.toNat x.2.2.1) (IntKind.wrap IntKind.u8 v2)), ()))))) else (none)) else (none)) else (ke (x.2.2.2.1, ()))
def num_lay.l0 (k : Nat) : Nat → num_lay.l0.σ → Option num_lay.l0.τ := loopJ (num_lay.l0.r k)
def num_lay.l0.T : StT := ⟨.dat (.int .u64) :: us 4 ++ .vsl 0 :: us 4 ++ .dat (.int .i64) :: .dat (.int .i64) :: us 13, [.vec (.int .u8)]⟩
def num_lay.l0.os : List Out := [⟨(.exit 0), [.mask [5], .auto 0], ⟨us 5 ++ .vsl 0 :: us 19, [.vec (.int .u8)]⟩⟩]
def num_lay.c (k : Nat) {ρ : Type} (n : Int) (bytes : Int) (K : ByteArray × Unit → Option ρ) : Option ρ :=
  bif ((decide (((0 : Int) ≤ bytes) ∧ (bytes ≤ bytes))) && (Nat.ble ((Int.toNat bytes) * 1) 140737488355328)) then (let v0 : Int := (((List.length (List.replicate (Int.toNat bytes) (0 : Int))) : Nat) : Int)
  (num_lay.l0 k k (n, (v0, ((0 : Int), ((List.replicate (Int.toNat bytes) (0 : Int)), ()))))).bind fun t4 => K ((bytesOf t4.1), ())) else (none)
def num_lay (k : Nat) (n : Int) (bytes : Int) : Option (ByteArray × Unit) := num_lay.c k n bytes some
def num_lay.tin : List Ty := [(.int .u64), (.int .i64)]
def num_lay.tout : List Ty := [.str]
def num_lay.sem (k : Nat) : CallSem := callPure num_lay.tin num_lay.tout fun x => num_lay k x.1 x.2.1
noncomputable def num_lay.ctx (k : Nat) : Ctx := ⟨Try.prog, gam []⟩
theorem num_lay.gok (k : Nat) : ∀ f, SemOK Try.prog f ((num_lay.ctx k).Γ f) := gam_nil
theorem num_lay.l0.round (k : Nat) : RoundIs (num_lay.ctx k) (codeAt (Func.code Try.f81) [1, 1, 0, 1, 0, 0]) (.nil) num_lay.l0.T [.mask [0, 5, 10, 11], .auto 0] num_lay.l0.os (num_lay.l0.r k) := by
  intro ρ x kn ke; kernel_rfl
theorem num_lay.l0.ok (k : Nat) : StOK 0 Try.prog (.loop (codeAt (Func.code Try.f81) [1, 1, 0, 1, 0, 0])) (pieceSem num_lay.l0.T num_lay.l0.os (num_lay.l0 k k)) :=
  loop_ok (C := num_lay.ctx k) (num_lay.gok k) Try.mix AnnOK.nil (by kernel_rfl) (by kernel_rfl) (by kernel_rfl) (num_lay.l0.round k) k
def num_lay.ann (k : Nat) : Ann := .node [] none (.nil) (.node [] none (.nil) (.node [] none (.node [] none (.nil) (.node [] none (.node [.mask [0, 5, 10, 11], .auto 0] (some (pieceSem num_lay.l0.T num_lay.l0.os (num_lay.l0 k k))) .nil .nil) (.nil))) (.nil)))
theorem num_lay.body (k : Nat) : BodyIs (num_lay.ctx k) Try.f81 (Func.code Try.f81) (num_lay.ann k) num_lay.tin num_lay.tout (fun x K => num_lay.c k x.1 x.2.1 K) := by
  intro ρ x K; kernel_rfl
theorem num_lay.sem_ok (k : Nat) : SemOK Try.prog 81 (num_lay.sem k) :=
  callPure_ok (C := num_lay.ctx k) (num_lay.gok k) Try.mix (c := Func.code Try.f81) (ann := num_lay.ann k) (tin := num_lay.tin) (tout := num_lay.tout) (fun x K => num_lay.c k x.1 x.2.1 K) Try.func81 (by kernel_rfl) (by kernel_rfl) (AnnOK.seq AnnOK.nil (AnnOK.seq AnnOK.nil (AnnOK.seq (AnnOK.seq AnnOK.nil (AnnOK.block (AnnOK.loop (by kernel_rfl) (num_lay.l0.ok k)))) AnnOK.nil))) (num_lay.body k)

/-! 19 bedrock/num.Count -/
def num_Count.c (k : Nat) {ρ : Type} (n : Int) (K : ByteArray × Unit → Option ρ) : Option ρ :=
  (num_CountLong k n).bind fun t0 => bif (t0.1 == (1 : Int)) then ((num_lay k n (1 : Int)).bind fun t1 => K (t1.1, ())) else (bif (t0.1 == (3 : Int)) then ((num_lay k (253 : Int) (1 : Int)).bind fun t2 => (num_lay k n (2 : Int)).bind fun t3 => bif (Nat.ble ((ByteArray.size t2.1) + (ByteArray.size t3.1)) 9223372036854775807) then (let v4 : ByteArray := (t2.1 ++ t3.1)
  K (v4, ())) else (none)) else (bif (t0.1 == (5 : Int)) then ((num_lay k (254 : Int) (1 : Int)).bind fun t5 => (num_lay k n (4 : Int)).bind fun t6 => bif (Nat.ble ((ByteArray.size t5.1) + (ByteArray.size t6.1)) 9223372036854775807) then (let v7 : ByteArray := (t5.1 ++ t6.1)
  K (v7, ())) else (none)) else ((num_lay k (255 : Int) (1 : Int)).bind fun t8 => (num_lay k n (8 : Int)).bind fun t9 => bif (Nat.ble ((ByteArray.size t8.1) + (ByteArray.size t9.1)) 9223372036854775807) then (let v10 : ByteArray := (t8.1 ++ t9.1)
  K (v10, ())) else (none))))
def num_Count (k : Nat) (n : Int) : Option (ByteArray × Unit) := num_Count.c k n some
def num_Count.tin : List Ty := [(.int .u64)]
def num_Count.tout : List Ty := [.str]
def num_Count.sem (k : Nat) : CallSem := callPure num_Count.tin num_Count.tout fun x => num_Count k x.1
noncomputable def num_Count.ctx (k : Nat) : Ctx := ⟨Try.prog, gam [(20, (num_CountLong.sem k)), (81, (num_lay.sem k))]⟩
theorem num_Count.gok (k : Nat) : ∀ f, SemOK Try.prog f ((num_Count.ctx k).Γ f) := (gam_cons (num_CountLong.sem_ok k) (gam_cons (num_lay.sem_ok k) gam_nil))
def num_Count.ann (k : Nat) : Ann := .nil
theorem num_Count.body (k : Nat) : BodyIs (num_Count.ctx k) Try.f19 (Func.code Try.f19) (num_Count.ann k) num_Count.tin num_Count.tout (fun x K => num_Count.c k x.1 K) := by
  intro ρ x K; kernel_rfl
theorem num_Count.sem_ok (k : Nat) : SemOK Try.prog 19 (num_Count.sem k) :=
  callPure_ok (C := num_Count.ctx k) (num_Count.gok k) Try.mix (c := Func.code Try.f19) (ann := num_Count.ann k) (tin := num_Count.tin) (tout := num_Count.tout) (fun x K => num_Count.c k x.1 K) Try.func19 (by kernel_rfl) (by kernel_rfl) AnnOK.nil (num_Count.body k)

/-! 3 bedrock/bedrocklaw01.NumCounts -/
def bedrocklaw01_NumCounts.c (k : Nat) {ρ : Type} (n : Int) (s : ByteArray) (at_2 : Int) (K : Bool × Unit → Option ρ) : Option ρ :=
  (num_TakeCount k s at_2).bind fun t0 => let v1 : Int := t0.1
  let v2 : Int := t0.2.1
  let v3 : Int := t0.2.2.1
  (bedrockref01_TakeCount k s at_2).bind fun t4 => let v5 : Int := t4.1
  let v6 : Int := t4.2.1
  let v7 : Int := t4.2.2.1
  (bedrockref01_Count k n).bind fun t8 => (num_TakeCount k t8.1 (0 : Int)).bind fun t9 => let v10 : Int := t9.1
  let v11 : Int := t9.2.1
  let v12 : Int := t9.2.2.1
  (bedrocklaw01_awake k ).bind fun t13 => bif t13.1 then (bif (v1 == v5) then (bif (v2 == v6) then (bif (v3 == v7) then ((num_Count k n).bind fun t14 => bif (strEq t14.1 t8.1) then ((num_CountLong k n).bind fun t15 => let v16 : Int := (((ByteArray.size t8.1) : Nat) : Int)
  bif (t15.1 == v16) then (bif (v10 == n) then (K ((v12 == (0 : Int)), ())) else (K (false, ()))) else (K (false, ()))) else (K (false, ()))) else (K (false, ()))) else (K (false, ()))) else (K (false, ()))) else (K (false, ()))
def bedrocklaw01_NumCounts (k : Nat) (n : Int) (s : ByteArray) (at_2 : Int) : Option (Bool × Unit) := bedrocklaw01_NumCounts.c k n s at_2 some
def bedrocklaw01_NumCounts.tin : List Ty := [(.int .u64), .str, (.int .i64)]
def bedrocklaw01_NumCounts.tout : List Ty := [.bool]
def bedrocklaw01_NumCounts.sem (k : Nat) : CallSem := callPure bedrocklaw01_NumCounts.tin bedrocklaw01_NumCounts.tout fun x => bedrocklaw01_NumCounts k x.1 x.2.1 x.2.2.1
noncomputable def bedrocklaw01_NumCounts.ctx (k : Nat) : Ctx := ⟨Try.prog, gam [(15, (num_TakeCount.sem k)), (16, (bedrockref01_TakeCount.sem k)), (17, (bedrockref01_Count.sem k)), (18, (bedrocklaw01_awake.sem k)), (19, (num_Count.sem k)), (20, (num_CountLong.sem k))]⟩
theorem bedrocklaw01_NumCounts.gok (k : Nat) : ∀ f, SemOK Try.prog f ((bedrocklaw01_NumCounts.ctx k).Γ f) := (gam_cons (num_TakeCount.sem_ok k) (gam_cons (bedrockref01_TakeCount.sem_ok k) (gam_cons (bedrockref01_Count.sem_ok k) (gam_cons (bedrocklaw01_awake.sem_ok k) (gam_cons (num_Count.sem_ok k) (gam_cons (num_CountLong.sem_ok k) gam_nil))))))
def bedrocklaw01_NumCounts.ann (k : Nat) : Ann := .nil
theorem bedrocklaw01_NumCounts.body (k : Nat) : BodyIs (bedrocklaw01_NumCounts.ctx k) Try.f3 (Func.code Try.f3) (bedrocklaw01_NumCounts.ann k) bedrocklaw01_NumCounts.tin bedrocklaw01_NumCounts.tout (fun x K => bedrocklaw01_NumCounts.c k x.1 x.2.1 x.2.2.1 K) := by
  intro ρ x K; kernel_rfl
theorem bedrocklaw01_NumCounts.sem_ok (k : Nat) : SemOK Try.prog 3 (bedrocklaw01_NumCounts.sem k) :=
  callPure_ok (C := bedrocklaw01_NumCounts.ctx k) (bedrocklaw01_NumCounts.gok k) Try.mix (c := Func.code Try.f3) (ann := bedrocklaw01_NumCounts.ann k) (tin := bedrocklaw01_NumCounts.tin) (tout := bedrocklaw01_NumCounts.tout) (fun x K => bedrocklaw01_NumCounts.c k x.1 x.2.1 x.2.2.1 K) Try.func3 (by kernel_rfl) (by kernel_rfl) AnnOK.nil (bedrocklaw01_NumCounts.body k)

end Go.Am
/- Plain tools: loops that count; machine words as numbers. -/
namespace Go.Am
open Go

/-- A loop that goes through S a, S (a + 1), .. S n, and ends. -/
theorem loop_range {σ τ : Type} {r : {ρ : Type} → σ → (σ → Option ρ) → (τ → Option ρ) → Option ρ} (S : Nat → σ) (n : Nat) (T : τ) (a : Nat)
    (hstep : ∀ i, a ≤ i → i < n → ∀ (kn : σ → Option τ) (ke : τ → Option τ), r (S i) kn ke = kn (S (i + 1))) (hend : ∀ (kn : σ → Option τ) (ke : τ → Option τ), r (S n) kn ke = ke T) :
    ∀ {fuel : Nat}, a ≤ n → n - a < fuel → loopJ r fuel (S a) = some T := by
  intro fuel ha hf
  have key : ∀ (d i fuel : Nat), a ≤ i → i + d = n → d < fuel → loopJ r fuel (S i) = some T := by
    intro d
    induction d with
    | zero =>
      intro i fuel _ hi hf
      cases fuel with
      | zero => omega
      | succ fuel =>
        have : i = n := by omega
        subst this
        exact hend _ _
    | succ d ih =>
      intro i fuel hai hi hf
      cases fuel with
      | zero => omega
      | succ fuel =>
        show r (S i) (loopJ r fuel) some = _
        rw [hstep i hai (by omega)]
        exact ih (i + 1) fuel (by omega) (by omega) (by omega)
  exact key (n - a) a fuel (Nat.le_refl _) (by omega) hf

theorem loop_from0 {σ τ : Type} {r : {ρ : Type} → σ → (σ → Option ρ) → (τ → Option ρ) → Option ρ} (S : Nat → σ) (n : Nat) (T : τ)
    (hstep : ∀ i, i < n → ∀ (kn : σ → Option τ) (ke : τ → Option τ), r (S i) kn ke = kn (S (i + 1))) (hend : ∀ (kn : σ → Option τ) (ke : τ → Option τ), r (S n) kn ke = ke T)
    {fuel : Nat} (hf : n < fuel) : loopJ r fuel (S 0) = some T := loop_range S n T 0 (fun i _ hi => hstep i hi) hend (Nat.zero_le _) (by omega)

/-- A loop whose states keep to I, and that ends in T's. -/
theorem loop_inv {σ τ : Type} {r : {ρ : Type} → σ → (σ → Option ρ) → (τ → Option ρ) → Option ρ} (I : Nat → σ → Prop) (T : τ → Prop)
    (h : ∀ n s, I n s → (∃ s' m, m < n ∧ I m s' ∧ ∀ (kn : σ → Option τ) (ke : τ → Option τ), r s kn ke = kn s') ∨ (∃ t, T t ∧ ∀ (kn : σ → Option τ) (ke : τ → Option τ), r s kn ke = ke t)) :
    ∀ (n fuel : Nat) (s : σ), n < fuel → I n s → ∃ t, T t ∧ loopJ r fuel s = some t
  | n, fuel + 1, s, hf, hi => by
    rcases h n s hi with ⟨s', m, hm, hI, hr⟩ | ⟨t, ht, hr⟩
    · obtain ⟨t, ht, h2⟩ := loop_inv I T h m fuel s' (by omega) hI
      exact ⟨t, ht, (hr (loopJ r fuel) some).trans h2⟩
    · exact ⟨t, ht, hr (loopJ r fuel) some⟩

theorem i64_in {n : Int} (h : -9223372036854775808 ≤ n ∧ n ≤ 9223372036854775807) : IntKind.i64.wrap n = n := IntWalk.i64_in n h
theorem u64_in {n : Int} (h : 0 ≤ n ∧ n ≤ 18446744073709551615) : IntKind.u64.wrap n = n := IntWalk.u64_in n h
theorem u8_in {n : Int} (h : 0 ≤ n ∧ n ≤ 255) : IntKind.u8.wrap n = n := IntWalk.u8_in n h
theorem ble_of {a b : Nat} (h : a ≤ b) : Nat.ble a b = true := by rw [Nat.ble_eq]; exact h
theorem u8_mod (n : Int) : IntKind.u8.wrap n = n % 256 := IntKind.wrap_u8 n
theorem u32_mod (n : Int) : IntKind.u32.wrap n = n % 4294967296 := IntKind.wrap_u32 n
theorem u64_mod (n : Int) : IntKind.u64.wrap n = n % 18446744073709551616 := IntKind.wrap_u64 n
theorem u32_in {n : Int} (h : 0 ≤ n ∧ n ≤ 4294967295) : IntKind.u32.wrap n = n := by rw [u32_mod]; omega

theorem cond_true' {α : Type} {b : Bool} {x y : α} (h : b = true) : (bif b then x else y) = x := by rw [h]; rfl
theorem cond_false' {α : Type} {b : Bool} {x y : α} (h : b = false) : (bif b then x else y) = y := by rw [h]; rfl
/-- A test that holds. -/
theorem bif_yes {α : Type} {p : Prop} [Decidable p] {x y : α} (h : p) : (bif decide p then x else y) = x := by rw [decide_eq_true h]; rfl
theorem bif_no {α : Type} {p : Prop} [Decidable p] {x y : α} (h : ¬ p) : (bif decide p then x else y) = y := by rw [decide_eq_false h]; rfl

/-! bits -/
theorem or_comm_bits (k : IntKind) (x y : Int) : bitsOp .or k x y = bitsOp .or k y x := by
  simp only [bitsOp, BitVec.or_comm]
theorem xor_comm_bits (k : IntKind) (x y : Int) : bitsOp .xor k x y = bitsOp .xor k y x := by
  simp only [bitsOp, BitVec.xor_comm]
theorem and_comm_bits (k : IntKind) (x y : Int) : bitsOp .and k x y = bitsOp .and k y x := by
  simp only [bitsOp, BitVec.and_comm]

theorem toNat_ofInt (w A : Nat) (h : A < 2 ^ w) : (BitVec.ofInt w (A : Int)).toNat = A := by
  rw [BitVec.toNat_ofInt]
  have : ((A : Int) % ((2 : Nat) ^ w : Nat)).toNat = A % 2 ^ w := by
    rw [← Int.natCast_emod]; rfl
  rw [this]
  exact Nat.mod_eq_of_lt h

theorem and_u32 {A B : Nat} (ha : A < 4294967296) (hb : B < 4294967296) : bitsOp .and .u32 (A : Int) (B : Int) = ((A &&& B : Nat) : Int) := by
  show IntKind.u32.wrap (((BitVec.ofInt 32 (A : Int) &&& BitVec.ofInt 32 (B : Int) : BitVec 32).toNat : Nat) : Int) = _
  rw [BitVec.toNat_and, toNat_ofInt 32 A (by simpa using ha), toNat_ofInt 32 B (by simpa using hb)]
  exact u32_in ⟨by omega, by have : A &&& B ≤ A := Nat.and_le_left; omega⟩
theorem or_u32 {A B : Nat} (ha : A < 4294967296) (hb : B < 4294967296) : bitsOp .or .u32 (A : Int) (B : Int) = ((A ||| B : Nat) : Int) := by
  show IntKind.u32.wrap (((BitVec.ofInt 32 (A : Int) ||| BitVec.ofInt 32 (B : Int) : BitVec 32).toNat : Nat) : Int) = _
  rw [BitVec.toNat_or, toNat_ofInt 32 A (by simpa using ha), toNat_ofInt 32 B (by simpa using hb)]
  exact u32_in ⟨by omega, by have : A ||| B < 2 ^ 32 := Nat.or_lt_two_pow (by simpa using ha) (by simpa using hb); simp at this; omega⟩
theorem xor_u32 {A B : Nat} (ha : A < 4294967296) (hb : B < 4294967296) : bitsOp .xor .u32 (A : Int) (B : Int) = ((A ^^^ B : Nat) : Int) := by
  show IntKind.u32.wrap (((BitVec.ofInt 32 (A : Int) ^^^ BitVec.ofInt 32 (B : Int) : BitVec 32).toNat : Nat) : Int) = _
  rw [BitVec.toNat_xor, toNat_ofInt 32 A (by simpa using ha), toNat_ofInt 32 B (by simpa using hb)]
  exact u32_in ⟨by omega, by have : A ^^^ B < 2 ^ 32 := Nat.xor_lt_two_pow (by simpa using ha) (by simpa using hb); simp at this; omega⟩

theorem not_u32 {x : Int} (h : 0 ≤ x ∧ x ≤ 4294967295) : notI .u32 x = 4294967295 - x := by
  obtain ⟨A, rfl⟩ := Int.eq_ofNat_of_zero_le h.1
  show bitsOp .xor .u32 (4294967295 : Int) (A : Int) = _
  rw [show (4294967295 : Int) = ((4294967295 : Nat) : Int) from rfl, xor_u32 (by omega) (by omega)]
  have : 4294967295 ^^^ A = 4294967295 - A := by
    have h1 : (BitVec.allOnes 32 ^^^ BitVec.ofNat 32 A).toNat = 4294967295 - A := by
      rw [BitVec.allOnes_xor, BitVec.toNat_not, BitVec.toNat_ofNat, Nat.mod_eq_of_lt (by omega)]
    rw [← h1, BitVec.toNat_xor, BitVec.toNat_allOnes, BitVec.toNat_ofNat, Nat.mod_eq_of_lt (show A < 2 ^ 32 by omega)]
  rw [this]; omega

theorem bits_u32_range (op : BinOp) (x y : Int) (h : op = .and ∨ op = .or ∨ op = .xor) : 0 ≤ bitsOp op .u32 x y ∧ bitsOp op .u32 x y ≤ 4294967295 := by
  rcases h with rfl | rfl | rfl <;> simp only [bitsOp] <;> rw [u32_mod] <;> omega

/-- Laid over one another where their bits are apart. -/
theorem or_add {A B j : Nat} (ha : A < 2 ^ j) : A ||| B * 2 ^ j = B * 2 ^ j + A := by
  rw [Nat.or_comm, Nat.mul_comm, ← Nat.two_pow_add_eq_or_of_lt ha]
theorem or_u32_add {A B j : Nat} (ha : A < 2 ^ j) (hlt : B * 2 ^ j + A < 4294967296) : bitsOp .or .u32 ((B * 2 ^ j : Nat) : Int) (A : Int) = ((B * 2 ^ j + A : Nat) : Int) := by
  rw [or_u32 (by omega) (by omega), Nat.or_comm, or_add ha]

theorem shl_u32 (x : Int) {j : Nat} (hj : j ≤ 32) : shlOp .u32 x (j : Int) = (x * 2 ^ j) % 4294967296 := by
  unfold shlOp
  rw [show min (j : Int).toNat IntKind.u32.bits = j by simp [IntKind.bits]; omega, u32_mod]
theorem shr_u32 {x : Int} {j : Nat} (hj : j ≤ 32) : shrOp .u32 x (j : Int) = x / 2 ^ j := by
  unfold shrOp
  rw [show min (j : Int).toNat IntKind.u32.bits = j by simp [IntKind.bits]; omega]
  exact Int.fdiv_eq_ediv_of_nonneg _ (Int.le_of_lt (Int.pow_pos (by omega)))

/-- Four bytes, the highest first. -/
def word4 (a b c d : Int) : Int := ((a * 256 + b) * 256 + c) * 256 + d

def isByte (x : Int) : Prop := 0 ≤ x ∧ x < 256
def isW32 (x : Int) : Prop := 0 ≤ x ∧ x ≤ 4294967295
end Go.Am
/- NumCounts: the plain law. -/
namespace Go.Am
open Go


theorem lay_loop (k : Nat) (n : Int) (b : Nat) (hb : b ≤ 8) : ∀ (d i fuel : Nat), i + d = b → d < fuel →
    num_lay.l0 k fuel (n, (b : Int), (i : Int), lowI n i ++ List.replicate d 0, ()) = some (lowI n b, ())
  | 0, i, fuel + 1, hi, _ => by
    have : i = b := by omega
    subst this
    show num_lay.l0.r k _ (loopJ (num_lay.l0.r k) fuel) some = _
    simp only [num_lay.l0.r]
    rw [decide_eq_false (by omega), cond_false]
    simp
  | d + 1, i, fuel + 1, hi, hf => by
    show num_lay.l0.r k _ (loopJ (num_lay.l0.r k) fuel) some = _
    simp only [num_lay.l0.r]
    rw [decide_eq_true (by omega), cond_true, i64_in (by omega), decide_eq_true (by omega), cond_true]
    have hlen : (lowI n i ++ List.replicate (d + 1) (0 : Int)).length = b := by simp [lowI_length]; omega
    rw [hlen, decide_eq_true (by omega), cond_true, i64_in (by omega)]
    have h8 : (8 : Int) * (i : Int) = ((8 * i : Nat) : Int) := by omega
    rw [h8, shr_u64 (by omega), pow8, u8_mod, show (i : Int).toNat = i by omega]
    have hset : (lowI n i ++ List.replicate (d + 1) (0 : Int)).set i (n / 256 ^ i % 256) = lowI n (i + 1) ++ List.replicate d 0 := by
      rw [List.set_append]
      simp [lowI_length, lowI_snoc, List.replicate_succ]
    rw [hset]
    have ih := lay_loop k n b hb d (i + 1) fuel (by omega) (by omega)
    rw [show ((i + 1 : Nat) : Int) = (i : Int) + 1 by omega] at ih
    exact ih

theorem num_lay_eq {k : Nat} (hk : 9 ≤ k) (n : Int) (b : Nat) (hb : b ≤ 8) : num_lay k n (b : Int) = some (bytesOf (lowI n b), ()) := by
  unfold num_lay num_lay.c
  rw [decide_eq_true (by omega), show (b : Int).toNat = b by omega]
  have : Nat.ble (b * 1) 140737488355328 = true := ble_of (by omega)
  rw [this]
  simp only [Bool.and_self, cond_true]
  have := lay_loop k n b hb b 0 k (by omega) (by omega)
  simp only [lowI, List.nil_append] at this
  rw [List.length_replicate]
  show (num_lay.l0 k k (n, (b : Int), ((0 : Nat) : Int), List.replicate b 0, ())).bind _ = _
  rw [this]
  rfl

theorem low_loop (k : Nat) (n : Int) (hn : 0 ≤ n ∧ n ≤ 18446744073709551615) (b : Nat) (hb : b ≤ 8) : ∀ (d i fuel : Nat), i + d = b → d < fuel →
    bedrockref01_Low.l0 k fuel (n / 256 ^ i, (b : Int), bytesOf (lowI n i), (i : Int), ()) = some (bytesOf (lowI n b), ())
  | 0, i, fuel + 1, hi, _ => by
    have : i = b := by omega
    subst this
    show bedrockref01_Low.l0.r k _ (loopJ (bedrockref01_Low.l0.r k) fuel) some = _
    simp only [bedrockref01_Low.l0.r]
    rw [decide_eq_false (by omega), cond_false]
  | d + 1, i, fuel + 1, hi, hf => by
    show bedrockref01_Low.l0.r k _ (loopJ (bedrockref01_Low.l0.r k) fuel) some = _
    simp only [bedrockref01_Low.l0.r]
    rw [decide_eq_true (by omega), cond_true]
    have hq : 0 ≤ n / 256 ^ i := Int.ediv_nonneg hn.1 (Int.le_of_lt (Int.pow_pos (by omega)))
    have hq2 : n / 256 ^ i ≤ n := Int.ediv_le_self _ hn.1
    rw [Int.tmod_eq_emod_of_nonneg hq, Int.tdiv_eq_ediv_of_nonneg hq, u8_mod, i64_in (by omega), u64_in (by omega)]
    have h1 : List.set (List.replicate 1 (0 : Int)) 0 (n / 256 ^ i % 256 % 256) = [n / 256 ^ i % 256] := by
      simp
    rw [h1, bytesOf_size, bytesOf_size, lowI_length]
    have : Nat.ble (i + [n / 256 ^ i % 256].length) 9223372036854775807 = true := ble_of (by simp; omega)
    rw [this, cond_true, bytesOf_append, ← lowI_snoc, Int.ediv_ediv_of_nonneg (Int.le_of_lt (Int.pow_pos (by omega))), ← Int.pow_succ]
    have ih := low_loop k n hn b hb d (i + 1) fuel (by omega) (by omega)
    rw [show ((i + 1 : Nat) : Int) = (i : Int) + 1 by omega] at ih
    exact ih

theorem bedrockref01_Low_eq {k : Nat} (hk : 9 ≤ k) (n : Int) (hn : 0 ≤ n ∧ n ≤ 18446744073709551615) (b : Nat) (hb : b ≤ 8) : bedrockref01_Low k n (b : Int) = some (bytesOf (lowI n b), ()) := by
  unfold bedrockref01_Low bedrockref01_Low.c
  have := low_loop k n hn b hb b 0 k (by omega) (by omega)
  simp only [Int.pow_zero, Int.ediv_one, lowI] at this
  show (bedrockref01_Low.l0 k k (n, (b : Int), bytesOf [], ((0 : Nat) : Int), ())).bind _ = _
  rw [this]
  rfl

theorem take_loop (k : Nat) (s : ByteArray) (hs : s.size ≤ 8) : ∀ (d i fuel : Nat), i + d = s.size → d < fuel →
    num_take.l0 k fuel (s, leI ((ofBytes s).take i), (s.size : Int), (i : Int), ()) = some (leI (ofBytes s), ())
  | 0, i, fuel + 1, hi, _ => by
    have : i = s.size := by omega
    subst this
    show num_take.l0.r k _ (loopJ (num_take.l0.r k) fuel) some = _
    simp only [num_take.l0.r]
    rw [decide_eq_false (by omega), cond_false, ← ofBytes_length, List.take_length]
  | d + 1, i, fuel + 1, hi, hf => by
    show num_take.l0.r k _ (loopJ (num_take.l0.r k) fuel) some = _
    simp only [num_take.l0.r]
    have hr := byteAt_range s (i : Int).toNat
    rw [decide_eq_true (by omega), cond_true, decide_eq_true (by omega), cond_true, i64_in (by omega), decide_eq_true (by omega), cond_true, i64_in (by omega), u64_in (by omega)]
    have hin : bytesIn ((ofBytes s).take i) := fun x hx => ofBytes_mem (List.mem_of_mem_take hx)
    obtain ⟨h0, h1⟩ := leI_range hin
    have hlen : ((ofBytes s).take i).length = i := by rw [List.length_take, ofBytes_length]; omega
    rw [hlen] at h1
    have hstep : leI ((ofBytes s).take (i + 1)) = leI ((ofBytes s).take i) + 256 ^ i * byteAt s i := by
      have hi' : i < (ofBytes s).length := by rw [ofBytes_length]; omega
      rw [List.take_succ_eq_append_getElem hi', leI_append, hlen, byteAt_eq, List.getD_eq_getElem?_getD, List.getElem?_eq_getElem hi']
      simp [leI]
    have hin2 : bytesIn ((ofBytes s).take (i + 1)) := fun x hx => ofBytes_mem (List.mem_of_mem_take hx)
    obtain ⟨g0, g1⟩ := leI_range hin2
    have hlen2 : ((ofBytes s).take (i + 1)).length = i + 1 := by rw [List.length_take, ofBytes_length]; omega
    rw [hlen2] at g1
    have hpow : (256 : Int) ^ (i + 1) ≤ 18446744073709551616 := by
      have : i + 1 ≤ 8 := by omega
      have h2 : ∀ j : Nat, j ≤ 8 → (256 : Int) ^ j ≤ 18446744073709551616 := by
        intro j hj
        match j, hj with
        | 0, _ | 1, _ | 2, _ | 3, _ | 4, _ | 5, _ | 6, _ | 7, _ | 8, _ => decide
      exact h2 _ this
    have hshl : shlOp IntKind.u64 (byteAt s (i : Int).toNat) (8 * (i : Int)) = ((byteAt s i).toNat * 2 ^ (8 * i) : Nat) := by
      unfold shlOp
      rw [show (8 * (i : Int)).toNat = 8 * i by omega, show (i : Int).toNat = i by omega]
      have : min (8 * i) IntKind.u64.bits = 8 * i := by simp [IntKind.bits]; omega
      rw [this]
      have hb := byteAt_range s i
      have e : byteAt s i * 2 ^ (8 * i) = (((byteAt s i).toNat * 2 ^ (8 * i) : Nat) : Int) := by
        rw [Int.natCast_mul, Int.natCast_pow, show ((byteAt s i).toNat : Int) = byteAt s i by omega]; rfl
      rw [e, u64_in]
      rw [← e, pow8, Int.mul_comm]
      have : 256 ^ i * byteAt s i ≤ leI ((ofBytes s).take (i + 1)) := by omega
      have : 0 ≤ 256 ^ i * byteAt s i := Int.mul_nonneg (Int.le_of_lt (Int.pow_pos (by omega))) hb.1
      omega
    have hb := byteAt_range s i
    have hor := or_u64 (A := (leI ((ofBytes s).take i)).toNat) (B := (byteAt s i).toNat) (j := 8 * i) (by
      have e : ((2 ^ (8 * i) : Nat) : Int) = 256 ^ i := by rw [Int.natCast_pow]; exact pow8 i
      omega) (by
      have e : (((byteAt s i).toNat * 2 ^ (8 * i) : Nat) : Int) = 256 ^ i * byteAt s i := by
        rw [Int.natCast_mul, Int.natCast_pow, show ((2 : Nat) : Int) = 2 from rfl, pow8, Int.mul_comm, show ((byteAt s i).toNat : Int) = byteAt s i by omega]
      omega)
    rw [show ((leI ((ofBytes s).take i)).toNat : Int) = leI ((ofBytes s).take i) by omega] at hor
    rw [hshl, hor]
    have hfin : (((byteAt s i).toNat * 2 ^ (8 * i) + (leI ((ofBytes s).take i)).toNat : Nat) : Int) = leI ((ofBytes s).take (i + 1)) := by
      rw [hstep, Int.natCast_add, Int.natCast_mul, Int.natCast_pow, show ((2 : Nat) : Int) = 2 from rfl, pow8, Int.mul_comm]
      rw [show ((byteAt s i).toNat : Int) = byteAt s i by omega]
      omega
    rw [hfin]
    have ih := take_loop k s hs d (i + 1) fuel (by omega) (by omega)
    rw [show ((i + 1 : Nat) : Int) = (i : Int) + 1 by omega] at ih
    exact ih

theorem num_take_eq {k : Nat} (hk : 9 ≤ k) (s : ByteArray) (hs : s.size ≤ 8) : num_take k s = some (leI (ofBytes s), ()) := by
  unfold num_take num_take.c
  have := take_loop k s hs s.size 0 k (by omega) (by omega)
  simp only [List.take_zero, leI] at this
  show (num_take.l0 k k (s, (0 : Int), (s.size : Int), ((0 : Nat) : Int), ())).bind _ = _
  rw [this]
  rfl

theorem get_loop (k : Nat) (s : ByteArray) (hs : s.size ≤ 8) : ∀ (i fuel : Nat), i ≤ s.size → i < fuel →
    bedrockref01_Get.l0 k fuel (s, leI ((ofBytes s).drop i), (i : Int) - 1, ()) = some (leI (ofBytes s), ())
  | 0, fuel + 1, hi, _ => by
    have e : bedrockref01_Get.l0 k (fuel + 1) (s, leI ((ofBytes s).drop 0), ((0 : Nat) : Int) - 1, ()) = bedrockref01_Get.l0.r k (s, leI ((ofBytes s).drop 0), ((0 : Nat) : Int) - 1, ()) (loopJ (bedrockref01_Get.l0.r k) fuel) some := rfl
    rw [e]
    simp only [bedrockref01_Get.l0.r]
    rw [decide_eq_false (by omega), cond_false, List.drop_zero]
  | i + 1, fuel + 1, hi, hf => by
    show bedrockref01_Get.l0.r k _ (loopJ (bedrockref01_Get.l0.r k) fuel) some = _
    simp only [bedrockref01_Get.l0.r]
    have hr := byteAt_range s i
    rw [show ((i + 1 : Nat) : Int) - 1 = (i : Int) by omega, show (i : Int).toNat = i by omega]
    have hin : bytesIn ((ofBytes s).drop i) := fun x hx => ofBytes_mem (List.mem_of_mem_drop hx)
    obtain ⟨h0, h1⟩ := leI_range hin
    have hlen : ((ofBytes s).drop i).length = s.size - i := by rw [List.length_drop, ofBytes_length]
    rw [hlen] at h1
    have hpow : (256 : Int) ^ (s.size - i) ≤ 18446744073709551616 := by
      have h2 : ∀ j : Nat, j ≤ 8 → (256 : Int) ^ j ≤ 18446744073709551616 := by
        intro j hj
        match j, hj with
        | 0, _ | 1, _ | 2, _ | 3, _ | 4, _ | 5, _ | 6, _ | 7, _ | 8, _ => decide
      exact h2 _ (by omega)
    have hstep : leI ((ofBytes s).drop i) = byteAt s i + 256 * leI ((ofBytes s).drop (i + 1)) := by
      have hi' : i < (ofBytes s).length := by rw [ofBytes_length]; omega
      rw [List.drop_eq_getElem_cons hi', leI, byteAt_eq, List.getD_eq_getElem?_getD, List.getElem?_eq_getElem hi']
      rfl
    have hin2 : bytesIn ((ofBytes s).drop (i + 1)) := fun x hx => ofBytes_mem (List.mem_of_mem_drop hx)
    have g0 := (leI_range hin2).1
    rw [decide_eq_true (by omega), cond_true, decide_eq_true (by omega), cond_true, u64_in (n := byteAt s i) (by omega), u64_in (n := _ * 256) (by omega), u64_in (by omega), i64_in (by omega)]
    rw [show leI ((ofBytes s).drop (i + 1)) * 256 + byteAt s i = leI ((ofBytes s).drop i) by omega]
    exact get_loop k s hs i fuel (by omega) (by omega)

theorem bedrockref01_Get_eq {k : Nat} (hk : 9 ≤ k) (s : ByteArray) (hs : s.size ≤ 8) : bedrockref01_Get k s = some (leI (ofBytes s), ()) := by
  unfold bedrockref01_Get bedrockref01_Get.c
  have := get_loop k s hs s.size k (by omega) (by omega)
  rw [show (ofBytes s).drop s.size = [] by rw [← ofBytes_length]; simp] at this
  simp only [leI] at this
  rw [i64_in (by omega)]
  show (bedrockref01_Get.l0 k k (s, (0 : Int), (s.size : Int) - 1, ())).bind _ = _
  rw [this]
  rfl

/-- How many bytes a count has; its bytes. -/
def cLong (n : Int) : Int := if n < 253 then 1 else if n < 65536 then 3 else if n < 4294967296 then 5 else 9
def cBytes (n : Int) : List Int := if n < 253 then lowI n 1 else if n < 65536 then 253 :: lowI n 2 else if n < 4294967296 then 254 :: lowI n 4 else 255 :: lowI n 8

theorem cBytes_length (n : Int) : ((cBytes n).length : Int) = cLong n := by
  unfold cBytes cLong
  split
  · simp [lowI_length]
  · split
    · simp [lowI_length]
    · split <;> simp [lowI_length]

theorem cBytes_in (n : Int) : bytesIn (cBytes n) := by
  have cons : ∀ (x : Int) l, 0 ≤ x ∧ x < 256 → bytesIn l → bytesIn (x :: l) := fun x l h h2 y hy => by
    rcases List.mem_cons.1 hy with rfl | hy
    · exact h
    · exact h2 y hy
  unfold cBytes
  split
  · exact lowI_in _ _
  · split
    · exact cons _ _ (by omega) (lowI_in _ _)
    · split <;> exact cons _ _ (by omega) (lowI_in _ _)

theorem num_CountLong_eq (k : Nat) (n : Int) : num_CountLong k n = some (cLong n, ()) := by
  unfold num_CountLong num_CountLong.c cLong
  by_cases h1 : n < 253
  · rw [decide_eq_true h1, if_pos h1]; rfl
  · rw [decide_eq_false h1, if_neg h1, cond_false]
    by_cases h2 : n < 65536
    · rw [decide_eq_true h2, if_pos h2]; rfl
    · rw [decide_eq_false h2, if_neg h2, cond_false]
      by_cases h3 : n < 4294967296
      · rw [decide_eq_true h3, if_pos h3]; rfl
      · rw [decide_eq_false h3, if_neg h3, cond_false]

theorem lay1 {k : Nat} (hk : 9 ≤ k) (x : Int) (hx : 0 ≤ x ∧ x < 256) : num_lay k x 1 = some (bytesOf [x], ()) := by
  have := num_lay_eq hk x 1 (by omega)
  simp only [lowI, show x % 256 = x by omega] at this
  exact this

theorem num_Count_eq {k : Nat} (hk : 9 ≤ k) (n : Int) : num_Count k n = some (bytesOf (cBytes n), ()) := by
  unfold num_Count num_Count.c
  rw [num_CountLong_eq]
  simp only [Option.bind_some]
  unfold cLong cBytes
  have l2 := num_lay_eq hk n 2 (by omega)
  have l4 := num_lay_eq hk n 4 (by omega)
  have l8 := num_lay_eq hk n 8 (by omega)
  have hb : ∀ (x : Int) (j : Nat), j ≤ 8 → Nat.ble ((bytesOf [x]).size + (bytesOf (lowI n j)).size) 9223372036854775807 = true := fun x j hj => ble_of (by rw [bytesOf_size, bytesOf_size, lowI_length]; simp; omega)
  split
  · show (bif true then _ else _) = _
    have := num_lay_eq hk n 1 (by omega)
    rw [cond_true]
    show (num_lay k n ((1 : Nat) : Int)).bind _ = _
    rw [this]; rfl
  · split
    · show (num_lay k 253 1).bind _ = _
      rw [lay1 hk 253 (by omega)]
      show (num_lay k n ((2 : Nat) : Int)).bind _ = _
      rw [l2]
      simp only [Option.bind_some, hb 253 2 (by omega), cond_true, bytesOf_append, List.singleton_append]
    · split
      · show (num_lay k 254 1).bind _ = _
        rw [lay1 hk 254 (by omega)]
        show (num_lay k n ((4 : Nat) : Int)).bind _ = _
        rw [l4]
        simp only [Option.bind_some, hb 254 4 (by omega), cond_true, bytesOf_append, List.singleton_append]
      · show (num_lay k 255 1).bind _ = _
        rw [lay1 hk 255 (by omega)]
        show (num_lay k n ((8 : Nat) : Int)).bind _ = _
        rw [l8]
        simp only [Option.bind_some, hb 255 8 (by omega), cond_true, bytesOf_append, List.singleton_append]

theorem bedrockref01_Count_eq {k : Nat} (hk : 9 ≤ k) (n : Int) (hn : 0 ≤ n ∧ n ≤ 18446744073709551615) : bedrockref01_Count k n = some (bytesOf (cBytes n), ()) := by
  unfold bedrockref01_Count bedrockref01_Count.c
  have l1 := bedrockref01_Low_eq hk n hn 1 (by omega)
  have l2 := bedrockref01_Low_eq hk n hn 2 (by omega)
  have l4 := bedrockref01_Low_eq hk n hn 4 (by omega)
  have l8 := bedrockref01_Low_eq hk n hn 8 (by omega)
  have hb : ∀ (j : Nat), j ≤ 8 → Nat.ble (1 + (bytesOf (lowI n j)).size) 9223372036854775807 = true := fun j hj => ble_of (by rw [bytesOf_size, lowI_length]; omega)
  unfold cBytes
  by_cases h1 : n < 253
  · rw [decide_eq_true h1, if_pos h1, cond_true]
    show (bedrockref01_Low k n ((1 : Nat) : Int)).bind _ = _
    rw [l1]; rfl
  · rw [decide_eq_false h1, if_neg h1, cond_false]
    by_cases h2 : n < 65536
    · rw [decide_eq_true (show n ≤ 65535 by omega), if_pos h2, cond_true]
      show (bedrockref01_Low k n ((2 : Nat) : Int)).bind _ = _
      rw [l2]
      simp only [Option.bind_some, hb 2 (by omega), cond_true]
      show some (bytesOf [253] ++ _, ()) = _
      rw [bytesOf_append]; rfl
    · rw [decide_eq_false (show ¬ n ≤ 65535 by omega), if_neg h2, cond_false]
      by_cases h3 : n < 4294967296
      · rw [decide_eq_true (show n ≤ 4294967295 by omega), if_pos h3, cond_true]
        show (bedrockref01_Low k n ((4 : Nat) : Int)).bind _ = _
        rw [l4]
        simp only [Option.bind_some, hb 4 (by omega), cond_true]
        show some (bytesOf [254] ++ _, ()) = _
        rw [bytesOf_append]; rfl
      · rw [decide_eq_false (show ¬ n ≤ 4294967295 by omega), if_neg h3, cond_false]
        show (bedrockref01_Low k n ((8 : Nat) : Int)).bind _ = _
        rw [l8]
        simp only [Option.bind_some, hb 8 (by omega), cond_true]
        show some (bytesOf [255] ++ _, ()) = _
        rw [bytesOf_append]; rfl
end Go.Am
namespace Go.Am
open Go

/-- What both ways of taking a count answer. -/
def tcSpec (s : ByteArray) (a : Int) : Int × Int × Int × Unit :=
  if a < 0 ∨ a > s.size then (0, 0, 1, ()) else
    match (ofBytes s).drop a.toNat with
    | [] => (0, 0, 4, ())
    | b :: l =>
      if b < 253 then (b, a + 1, 0, ()) else
        let m : Nat := if b = 253 then 2 else if b = 254 then 4 else 8
        if l.length < m then (0, 0, 4, ()) else
          let n := leI (l.take m)
          if cLong n = 1 + m then (n, a + (1 + m), 0, ()) else (0, 0, 6, ())

theorem num_tc_p0 (k : Nat) (s : ByteArray) (a : Int) : num_TakeCount.p0 k (s, a, ()) = some (if a < 0 ∨ a > (s.size : Int) then .inl (0, 0, 1, ()) else .inr (s, a, ())) := by
  unfold num_TakeCount.p0
  simp only [num_TakeCount.p0.r]
  by_cases h1 : a < 0
  · rw [bif_yes h1, if_pos (.inl h1)]
  · rw [bif_no h1]
    by_cases h2 : a > (s.size : Int)
    · rw [bif_yes h2, if_pos (.inr h2)]
    · rw [bif_no h2, if_neg (by omega)]

theorem num_TakeCount_eq {k : Nat} (hk : 9 ≤ k) (s : ByteArray) (a : Int) (hs : s.size ≤ 9223372036854775807) : num_TakeCount k s a = some (tcSpec s a) := by
  unfold num_TakeCount num_TakeCount.c tcSpec
  rw [num_tc_p0]
  by_cases h0 : a < 0 ∨ a > (s.size : Int)
  · rw [if_pos h0, if_pos h0]; rfl
  rw [if_neg h0, if_neg h0]
  simp only [Option.bind_some]
  rw [decide_eq_true (by omega), cond_true]
  have he : ofBytes (s.extract a.toNat ((s.size : Nat) : Int).toNat) = (ofBytes s).drop a.toNat := by
    rw [ofBytes_extract, List.take_of_length_le]
    rw [List.length_drop, ofBytes_length]; omega
  generalize hv : s.extract a.toNat ((s.size : Nat) : Int).toNat = v at he ⊢
  rw [← he]
  have hsz := ofBytes_length v
  have hlen : v.size = s.size - a.toNat := by rw [← hsz, he, List.length_drop, ofBytes_length]
  have hat := byteAt_eq v 0
  have hrng := byteAt_range v 0
  generalize hl : ofBytes v = l at hsz hat ⊢
  cases l with
  | nil =>
    have : v = ⟨List.toArray []⟩ := ofBytes_inj (by rw [hl]; rfl)
    rw [this]; dsimp only; rw [strEq_self]; rfl
  | cons b l =>
    have hne : strEq v ⟨List.toArray []⟩ = false := strEq_false fun e => by rw [e] at hl; cases hl
    simp only [List.length_cons] at hsz
    simp only [List.getD_cons_zero] at hat
    dsimp only
    rw [hne, cond_false, decide_eq_true (by omega), cond_true, hat]
    rw [hat] at hrng
    by_cases h3 : b < 253
    · rw [decide_eq_true h3, if_pos h3, cond_true, cond_true, i64_in (by omega), u64_in (by omega)]
    rw [decide_eq_false h3, if_neg h3, cond_false, cond_true]
    have key : ∀ (m : Nat), m ≤ 8 → 1 ≤ m → shlOp IntKind.i64 2 (IntKind.u8.wrap (b - 253)) = (m : Int) → 0 ≤ IntKind.u8.wrap (b - 253) →
        (bif decide ((0 : Int) ≤ IntKind.u8.wrap (b - 253)) then
          (bif decide (((v.size : Nat) : Int) < IntKind.i64.wrap (1 + shlOp IntKind.i64 2 (IntKind.u8.wrap (b - 253)))) then some ((0 : Int), (0 : Int), (4 : Int), ()) else
            (bif decide ((0 : Int) ≤ 1 ∧ (1 : Int) ≤ IntKind.i64.wrap (1 + shlOp IntKind.i64 2 (IntKind.u8.wrap (b - 253))) ∧ IntKind.i64.wrap (1 + shlOp IntKind.i64 2 (IntKind.u8.wrap (b - 253))) ≤ ((v.size : Nat) : Int)) then
              (num_take k (v.extract 1 (IntKind.i64.wrap (1 + shlOp IntKind.i64 2 (IntKind.u8.wrap (b - 253)))).toNat)).bind fun t5 => (num_CountLong k t5.1).bind fun t6 =>
                bif t6.1 != IntKind.i64.wrap (1 + shlOp IntKind.i64 2 (IntKind.u8.wrap (b - 253))) then some ((0 : Int), (0 : Int), (6 : Int), ()) else
                  some (t5.1, IntKind.i64.wrap (a + IntKind.i64.wrap (1 + shlOp IntKind.i64 2 (IntKind.u8.wrap (b - 253)))), (0 : Int), ())
            else none)) else none) =
        some (if l.length < m then (0, 0, 4, ()) else if cLong (leI (l.take m)) = 1 + m then (leI (l.take m), a + (1 + m), 0, ()) else (0, 0, 6, ())) := by
      intro m hm hm1 e1 e2
      rw [e1, decide_eq_true e2, cond_true, i64_in (by omega)]
      by_cases h4 : l.length < m
      · rw [if_pos h4, decide_eq_true (by omega), cond_true]
      · rw [if_neg h4, decide_eq_false (by omega), cond_false, decide_eq_true (by omega), cond_true]
        have hx : ofBytes (v.extract 1 (1 + (m : Int)).toNat) = l.take m := by
          rw [ofBytes_extract, hl, List.drop_succ_cons, List.drop_zero]
          congr 1; omega
        have hxs : (v.extract 1 (1 + (m : Int)).toNat).size = m := by
          rw [← ofBytes_length, hx, List.length_take]; omega
        rw [num_take_eq hk _ (by omega), hx]
        simp only [Option.bind_some, num_CountLong_eq]
        by_cases h5 : cLong (leI (l.take m)) = 1 + (m : Int)
        · rw [if_pos h5, h5, bne_self_eq_false, cond_false, i64_in (by omega)]
        · rw [if_neg h5]
          have : (cLong (leI (l.take m)) != 1 + (m : Int)) = true := by simpa using h5
          rw [this, cond_true]
    have hb : b = 253 ∨ b = 254 ∨ b = 255 := by omega
    rcases hb with rfl | rfl | rfl
    · exact key 2 (by omega) (by omega) (by decide) (by decide)
    · exact key 4 (by omega) (by omega) (by decide) (by decide)
    · exact key 8 (by omega) (by omega) (by decide) (by decide)
end Go.Am
namespace Go.Am
open Go

theorem ref_tc_p0 (k : Nat) (s : ByteArray) (a : Int) : bedrockref01_TakeCount.p0 k (s, a, ()) = some (if a < 0 ∨ a > (s.size : Int) then .inl (0, 0, 1, ()) else .inr (s, a, ())) := by
  unfold bedrockref01_TakeCount.p0
  simp only [bedrockref01_TakeCount.p0.r]
  by_cases h1 : a < 0
  · rw [bif_yes h1, if_pos (.inl h1)]
  · rw [bif_no h1]
    by_cases h2 : a > (s.size : Int)
    · rw [bif_yes h2, if_pos (.inr h2)]
    · rw [bif_no h2, if_neg (by omega)]

theorem ref_tc_p1 (k : Nat) (s : ByteArray) (a : Int) (h : 0 ≤ a ∧ a < (s.size : Int)) : bedrockref01_TakeCount.p1 k (s, a, (0 : Int), ()) =
    some (s, a, (if byteAt s a.toNat = 253 then 2 else if byteAt s a.toNat = 254 then 4 else if byteAt s a.toNat = 255 then 8 else 0), ()) := by
  unfold bedrockref01_TakeCount.p1
  simp only [bedrockref01_TakeCount.p1.r]
  rw [bif_yes h]
  by_cases h4 : byteAt s a.toNat = 253
  · rw [if_pos h4, h4]; rfl
  by_cases h5 : byteAt s a.toNat = 254
  · rw [if_neg h4, if_pos h5, h5]; rfl
  by_cases h6 : byteAt s a.toNat = 255
  · rw [if_neg h4, if_neg h5, if_pos h6, h6]; rfl
  rw [if_neg h4, if_neg h5, if_neg h6, beq_false_of_ne h4, beq_false_of_ne h5, beq_false_of_ne h6]; rfl

theorem bedrockref01_TakeCount_eq {k : Nat} (hk : 9 ≤ k) (s : ByteArray) (a : Int) (hs : s.size ≤ 9223372036854775807) : bedrockref01_TakeCount k s a = some (tcSpec s a) := by
  unfold bedrockref01_TakeCount bedrockref01_TakeCount.c tcSpec
  rw [ref_tc_p0]
  by_cases h0 : a < 0 ∨ a > (s.size : Int)
  · rw [if_pos h0, if_pos h0]; rfl
  rw [if_neg h0, if_neg h0]
  simp only [Option.bind_some]
  by_cases h3 : a = (s.size : Int)
  · have : (ofBytes s).drop a.toNat = [] := List.drop_eq_nil_of_le (by rw [ofBytes_length]; omega)
    rw [this, h3, beq_self_eq_true]; rfl
  rw [beq_false_of_ne h3, cond_false, ref_tc_p1 k s a (by omega)]
  simp only [Option.bind_some]
  have hlt : a.toNat < (ofBytes s).length := by rw [ofBytes_length]; omega
  have hd := List.drop_eq_getElem_cons hlt
  have hat : byteAt s a.toNat = (ofBytes s)[a.toNat] := by rw [byteAt_eq, List.getD_eq_getElem?_getD, List.getElem?_eq_getElem hlt]; rfl
  rw [← hat] at hd
  have hrng := byteAt_range s a.toNat
  rw [hd]
  generalize byteAt s a.toNat = b at hrng ⊢
  have hlen : ((ofBytes s).drop (a.toNat + 1)).length = s.size - (a.toNat + 1) := by rw [List.length_drop, ofBytes_length]
  dsimp only
  have e0 : IntKind.i64.wrap ((s.size : Int) - a) = (s.size : Int) - a := i64_in (by omega)
  have e1 : IntKind.i64.wrap ((s.size : Int) - a - 1) = (s.size : Int) - a - 1 := i64_in (by omega)
  have e2 : IntKind.i64.wrap (a + 1) = a + 1 := i64_in (by omega)
  rw [e0, e1]
  have key : ∀ (m : Nat), m ≤ 8 → 1 ≤ m →
      (bif decide ((s.size : Int) - a - 1 < (m : Int)) then some ((0 : Int), (0 : Int), (4 : Int), ()) else
        (bif decide ((0 : Int) ≤ a ∧ a < (s.size : Int)) then
            (bedrockref01_TakeCount.p2 k (s, a, (m : Int), IntKind.u64.wrap b, ())).bind fun t16 => (bedrockref01_Count k t16.2.2.1).bind fun t6 =>
              bif ((t6.1.size : Int) != IntKind.i64.wrap (1 + t16.2.1)) then some ((0 : Int), (0 : Int), (6 : Int), ()) else some (t16.2.2.1, IntKind.i64.wrap (IntKind.i64.wrap (t16.1 + 1) + t16.2.1), (0 : Int), ())
           else none)) =
      some (if ((ofBytes s).drop (a.toNat + 1)).length < m then (0, 0, 4, ()) else if cLong (leI (((ofBytes s).drop (a.toNat + 1)).take m)) = 1 + m then (leI (((ofBytes s).drop (a.toNat + 1)).take m), a + (1 + m), 0, ()) else (0, 0, 6, ())) := by
    intro m hm hm1
    by_cases h4 : ((ofBytes s).drop (a.toNat + 1)).length < m
    · rw [if_pos h4, decide_eq_true (by omega), cond_true]
    · rw [if_neg h4, bif_no (by omega), bif_yes (by omega)]
      unfold bedrockref01_TakeCount.p2
      simp only [bedrockref01_TakeCount.p2.r]
      rw [bif_yes (by omega), e2]
      have e3 : IntKind.i64.wrap (a + 1 + (m : Int)) = a + 1 + m := i64_in (by omega)
      have e4 : IntKind.i64.wrap (1 + (m : Int)) = 1 + m := i64_in (by omega)
      rw [e3, bif_yes (by omega)]
      have hx : ofBytes (s.extract (a + 1).toNat (a + 1 + (m : Int)).toNat) = ((ofBytes s).drop (a.toNat + 1)).take m := by
        rw [ofBytes_extract, show (a + 1).toNat = a.toNat + 1 by omega]
        congr 1; omega
      have hxs : (s.extract (a + 1).toNat (a + 1 + (m : Int)).toNat).size = m := by
        rw [← ofBytes_length, hx, List.length_take]; omega
      rw [bedrockref01_Get_eq hk _ (by omega), hx]
      have hin : bytesIn (((ofBytes s).drop (a.toNat + 1)).take m) := fun x hx => ofBytes_mem (List.mem_of_mem_drop (List.mem_of_mem_take hx))
      obtain ⟨g0, g1⟩ := leI_range hin
      have hpow : ∀ j : Nat, j ≤ 8 → (256 : Int) ^ j ≤ 18446744073709551616 := by
        intro j hj
        match j, hj with
        | 0, _ | 1, _ | 2, _ | 3, _ | 4, _ | 5, _ | 6, _ | 7, _ | 8, _ => decide
      have := hpow (((ofBytes s).drop (a.toNat + 1)).take m).length (by rw [List.length_take]; omega)
      simp only [Option.bind_some]
      rw [bedrockref01_Count_eq hk _ (by omega), e2, e3, e4]
      simp only [Option.bind_some, bytesOf_size, cBytes_length]
      by_cases h5 : cLong (leI (((ofBytes s).drop (a.toNat + 1)).take m)) = 1 + (m : Int)
      · rw [if_pos h5, h5, bne_self_eq_false, cond_false, show a + 1 + (m : Int) = a + (1 + m) by omega]
      · rw [if_neg h5]
        have : (cLong (leI (((ofBytes s).drop (a.toNat + 1)).take m)) != 1 + (m : Int)) = true := by simpa using h5
        rw [this, cond_true]
  by_cases h4 : b = 253
  · subst h4; exact key 2 (by omega) (by omega)
  by_cases h5 : b = 254
  · subst h5; exact key 4 (by omega) (by omega)
  by_cases h6 : b = 255
  · subst h6; exact key 8 (by omega) (by omega)
  rw [if_neg h4, if_neg h5, if_neg h6, if_pos (show b < 253 by omega), bif_no (by omega), bif_yes (by omega)]
  unfold bedrockref01_TakeCount.p2
  simp only [bedrockref01_TakeCount.p2.r]
  rw [bif_no (by omega), u64_in (by omega)]
  simp only [Option.bind_some]
  rw [bedrockref01_Count_eq hk _ (by omega)]
  simp only [Option.bind_some, bytesOf_size, cBytes_length]
  have : cLong b = 1 := by unfold cLong; rw [if_pos (by omega)]
  rw [this]
  show (bif (1 : Int) != 1 then _ else _) = _
  rw [bne_self_eq_false, cond_false, Int.add_zero, e2, e2]

theorem tcSpec_count (n : Int) (hn : 0 ≤ n ∧ n ≤ 18446744073709551615) : tcSpec (bytesOf (cBytes n)) 0 = (n, cLong n, 0, ()) := by
  unfold tcSpec
  rw [if_neg (by rw [bytesOf_size]; omega), ofBytes_bytesOf (cBytes_in n)]
  show (match cBytes n with | [] => _ | b :: l => _) = _
  unfold cBytes
  have hlong : ∀ (x : Int) (m : Nat) (l : List Int), ¬ x < 253 → (if x = 253 then 2 else if x = 254 then 4 else 8) = m → l = lowI n m → n < 256 ^ m → cLong n = 1 + m →
      (if x < 253 then (x, (0 : Int) + 1, (0 : Int), ()) else
        let m : Nat := if x = 253 then 2 else if x = 254 then 4 else 8
        if l.length < m then ((0 : Int), (0 : Int), (4 : Int), ()) else
          let n := leI (l.take m)
          if cLong n = 1 + m then (n, 0 + (1 + m), 0, ()) else (0, 0, 6, ())) = (n, cLong n, (0 : Int), ()) := by
    intro x m l hx hm hl hlt hc
    rw [if_neg hx]
    simp only [hm, hl]
    have : (lowI n m).take m = lowI n m := List.take_of_length_le (by rw [lowI_length]; omega)
    rw [if_neg (by rw [lowI_length]; omega), this, leI_lowI, Int.emod_eq_of_lt hn.1 hlt, if_pos hc, hc]
    simp
  by_cases h1 : n < 253
  · rw [if_pos h1]
    simp only [lowI]
    rw [show n % 256 = n by omega, if_pos h1]
    unfold cLong
    rw [if_pos h1]; rfl
  · rw [if_neg h1]
    by_cases h2 : n < 65536
    · rw [if_pos h2]
      exact hlong 253 2 _ (by omega) rfl rfl (by omega) (by unfold cLong; rw [if_neg h1, if_pos h2]; rfl)
    · rw [if_neg h2]
      by_cases h3 : n < 4294967296
      · rw [if_pos h3]
        exact hlong 254 4 _ (by omega) rfl rfl (by omega) (by unfold cLong; rw [if_neg h1, if_neg h2, if_pos h3]; rfl)
      · rw [if_neg h3]
        exact hlong 255 8 _ (by omega) rfl rfl (by omega) (by unfold cLong; rw [if_neg h1, if_neg h2, if_neg h3]; rfl)

theorem awake_eq : bedrocklaw01_awake 20 = some (true, ()) := by kernel_rfl

theorem numCounts_true (n : Int) (s : ByteArray) (a : Int) (hn : 0 ≤ n ∧ n ≤ 18446744073709551615) (hs : s.size ≤ 9223372036854775807) : bedrocklaw01_NumCounts 20 n s a = some (true, ()) := by
  unfold bedrocklaw01_NumCounts bedrocklaw01_NumCounts.c
  have hsz : (bytesOf (cBytes n)).size ≤ 9223372036854775807 := by
    have h := cBytes_length n
    rw [bytesOf_size]
    unfold cLong at h
    split at h
    · omega
    · split at h
      · omega
      · split at h <;> omega
  rw [num_TakeCount_eq (by omega) s a hs, bedrockref01_TakeCount_eq (by omega) s a hs, bedrockref01_Count_eq (by omega) n hn, awake_eq, num_Count_eq (by omega), num_CountLong_eq]
  simp only [Option.bind_some]
  rw [num_TakeCount_eq (by omega) _ 0 hsz, tcSpec_count n hn]
  simp only [Option.bind_some, beq_self_eq_true, cond_true, strEq_self, bytesOf_size, cBytes_length]
end Go.Am
