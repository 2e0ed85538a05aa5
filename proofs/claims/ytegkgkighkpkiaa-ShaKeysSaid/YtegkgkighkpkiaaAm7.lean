/- A part of a proof: a machine of abstract values that tells what functions of the program compute, and the plain facts on them. -/
import Derived.Test.YtegkgkighkpkiaaAm4
import Derived.Test.YtegkgkighkpkiaaProg
import Derived.KernelRfl
set_option linter.unusedVariables false
set_option linter.unusedSimpArgs false
set_option linter.unnecessarySimpa false
set_option linter.unusedSectionVars false
/- The program of the seat: orders. -/
namespace Go.Am
open Go Go.Proofs
theorem _root_.Go.Proofs.Try.mix : Try.prog.follows .mixedOrders = true := by kernel_rfl
end Go.Am
namespace Go.Am
open Go Go.Proofs
set_option maxRecDepth 100000
/-! 78 bedrock/num.take -/
abbrev num_take.l0.σ : Type := ByteArray × Int × Int × Int × Unit
abbrev num_take.l0.τ : Type := (Int × Unit)
def num_take.l0.r (k : Nat) {ρ : Type} (x : num_take.l0.σ) (kn : num_take.l0.σ → Option ρ) (ke : num_take.l0.τ → Option ρ) : Option ρ :=
  bif (decide (x.2.2.2.1 < x.2.2.1)) then (bif (decide (((0 : Int) ≤ x.2.2.2.1) ∧ (x.2.2.2.1 < (((ByteArray.size x.1) : Nat) : Int)))) then (let v0 : Int := (byteAt x.1 (Int.toNat x.2.2.2.1))
  let v1 : Int := (IntKind.wrap IntKind.i64 ((8 : Int) * x.2.2.2.1))
  bif (decide ((0 : Int) ≤ v1)) then (let v2 : Int := (bitsOp BinOp.or IntKind.u64 x.2.1 (shlOp IntKind.u64 (IntKind.wrap IntKind.u64 v0) v1))
  let v3 : Int := (IntKind.wrap IntKind.i64 (x.2.2.2.1 + (1 : Int)))
  kn (x.1, (v2, (x.2.2.1, (v3, ()))))) else (none)) else (none)) else (ke (x.2.1, ()))
def num_take.l0 (k : Nat) : Nat → num_take.l0.σ → Option num_take.l0.τ := loopJ (num_take.l0.r k)
def num_take.l0.T : StT := ⟨.dat .str :: us 2 ++ .dat (.int .u64) :: us 2 ++ .dat (.int .i64) :: .dat (.int .i64) :: us 13, []⟩
def num_take.l0.os : List Out := [⟨(.exit 0), [.mask [3], .auto 0], ⟨us 3 ++ .dat (.int .u64) :: us 17, []⟩⟩]
def num_take.c (k : Nat) {ρ : Type} (s : ByteArray) (K : Int × Unit → Option ρ) : Option ρ :=
  (num_take.l0 k k (s, ((0 : Int), ((((ByteArray.size s) : Nat) : Int), ((0 : Int), ()))))).bind fun t4 => K (t4.1, ())
def num_take (k : Nat) (s : ByteArray) : Option (Int × Unit) := num_take.c k s some
def num_take.tin : List Ty := [.str]
def num_take.tout : List Ty := [(.int .u64)]
def num_take.sem (k : Nat) : CallSem := callPure num_take.tin num_take.tout fun x => num_take k x.1
noncomputable def num_take.ctx (k : Nat) : Ctx := ⟨Try.prog, gam []⟩
theorem num_take.gok (k : Nat) : ∀ f, SemOK Try.prog f ((num_take.ctx k).Γ f) := gam_nil
theorem num_take.l0.round (k : Nat) : RoundIs (num_take.ctx k) (codeAt (Func.code Try.f78) [1, 1, 0, 1, 0, 0]) (.nil) num_take.l0.T [.mask [0, 3, 6, 7], .auto 0] num_take.l0.os (num_take.l0.r k) := by
  intro ρ x kn ke; kernel_rfl
theorem num_take.l0.ok (k : Nat) : StOK 0 Try.prog (.loop (codeAt (Func.code Try.f78) [1, 1, 0, 1, 0, 0])) (pieceSem num_take.l0.T num_take.l0.os (num_take.l0 k k)) :=
  loop_ok (C := num_take.ctx k) (num_take.gok k) Try.mix AnnOK.nil (by kernel_rfl) (by kernel_rfl) (by kernel_rfl) (num_take.l0.round k) k
def num_take.ann (k : Nat) : Ann := .node [] none (.nil) (.node [] none (.nil) (.node [] none (.node [] none (.nil) (.node [] none (.node [] (some (pieceSem num_take.l0.T num_take.l0.os (num_take.l0 k k))) .nil .nil) (.nil))) (.nil)))
theorem num_take.body (k : Nat) : BodyIs (num_take.ctx k) Try.f78 (Func.code Try.f78) (num_take.ann k) num_take.tin num_take.tout (fun x K => num_take.c k x.1 K) := by
  intro ρ x K; kernel_rfl
theorem num_take.sem_ok (k : Nat) : SemOK Try.prog 78 (num_take.sem k) :=
  callPure_ok (C := num_take.ctx k) (num_take.gok k) Try.mix (c := Func.code Try.f78) (ann := num_take.ann k) (tin := num_take.tin) (tout := num_take.tout) (fun x K => num_take.c k x.1 K) Try.func78 (by kernel_rfl) (by kernel_rfl) (AnnOK.seq AnnOK.nil (AnnOK.seq AnnOK.nil (AnnOK.seq (AnnOK.seq AnnOK.nil (AnnOK.block (AnnOK.loop (by kernel_rfl) (num_take.l0.ok k)))) AnnOK.nil))) (num_take.body k)

/-! 20 bedrock/num.CountLong -/
def num_CountLong.c (k : Nat) {ρ : Type} (n : Int) (K : Int × Unit → Option ρ) : Option ρ :=
  bif (decide (n < (253 : Int))) then (K ((1 : Int), ())) else (bif (decide (n < (65536 : Int))) then (K ((3 : Int), ())) else (bif (decide (n < (4294967296 : Int))) then (K ((5 : Int), ())) else (K ((9 : Int), ()))))
def num_CountLong (k : Nat) (n : Int) : Option (Int × Unit) := num_CountLong.c k n some
def num_CountLong.tin : List Ty := [(.int .u64)]
def num_CountLong.tout : List Ty := [(.int .i64)]
def num_CountLong.sem (k : Nat) : CallSem := callPure num_CountLong.tin num_CountLong.tout fun x => num_CountLong k x.1
noncomputable def num_CountLong.ctx (k : Nat) : Ctx := ⟨Try.prog, gam []⟩
theorem num_CountLong.gok (k : Nat) : ∀ f, SemOK Try.prog f ((num_CountLong.ctx k).Γ f) := gam_nil
def num_CountLong.ann (k : Nat) : Ann := .nil
theorem num_CountLong.body (k : Nat) : BodyIs (num_CountLong.ctx k) Try.f20 (Func.code Try.f20) (num_CountLong.ann k) num_CountLong.tin num_CountLong.tout (fun x K => num_CountLong.c k x.1 K) := by
  intro ρ x K; kernel_rfl
theorem num_CountLong.sem_ok (k : Nat) : SemOK Try.prog 20 (num_CountLong.sem k) :=
  callPure_ok (C := num_CountLong.ctx k) (num_CountLong.gok k) Try.mix (c := Func.code Try.f20) (ann := num_CountLong.ann k) (tin := num_CountLong.tin) (tout := num_CountLong.tout) (fun x K => num_CountLong.c k x.1 K) Try.func20 (by kernel_rfl) (by kernel_rfl) AnnOK.nil (num_CountLong.body k)

/-! 15 bedrock/num.TakeCount -/
abbrev num_TakeCount.p0.σ : Type := ByteArray × Int × Unit
abbrev num_TakeCount.p0.τ : Type := (Int × Int × Int × Unit) ⊕ (ByteArray × Int × Unit)
def num_TakeCount.p0.r (k : Nat) {ρ : Type} (x : num_TakeCount.p0.σ) (K : num_TakeCount.p0.τ → Option ρ) : Option ρ :=
  bif (decide (x.2.1 < (0 : Int))) then (K (.inl ((0 : Int), ((0 : Int), ((1 : Int), ()))))) else (let v0 : Int := (((ByteArray.size x.1) : Nat) : Int)
  bif (decide (x.2.1 > v0)) then (K (.inl ((0 : Int), ((0 : Int), ((1 : Int), ()))))) else (K (.inr (x.1, (x.2.1, ())))))
def num_TakeCount.p0 (k : Nat) (x : num_TakeCount.p0.σ) : Option num_TakeCount.p0.τ := num_TakeCount.p0.r k x some
def num_TakeCount.p0.T : StT := ⟨.dat .str :: .dat (.int .i64) :: us 50, []⟩
def num_TakeCount.p0.os : List Out := [⟨.ret, [.mask [4, 5, 6], .auto 0], ⟨us 4 ++ .dat (.int .u64) :: .dat (.int .i64) :: .dat (.int .i64) :: us 45, []⟩⟩, ⟨.normal, [.mask [0, 1], .auto 0], ⟨.dat .str :: .dat (.int .i64) :: us 50, []⟩⟩]
def num_TakeCount.c (k : Nat) {ρ : Type} (s : ByteArray) (at_1 : Int) (K : Int × Int × Int × Unit → Option ρ) : Option ρ :=
  (num_TakeCount.p0 k (s, (at_1, ()))).bind fun t1 => (match t1 with | .inl t2 => (K (t2.1, (t2.2.1, (t2.2.2.1, ())))) | .inr (t3) => (bif (decide (((0 : Int) ≤ t3.2.1) ∧ ((t3.2.1 ≤ (((ByteArray.size t3.1) : Nat) : Int)) ∧ ((((ByteArray.size t3.1) : Nat) : Int) ≤ (((ByteArray.size t3.1) : Nat) : Int))))) then (let v4 : ByteArray := (ByteArray.extract t3.1 (Int.toNat t3.2.1) (Int.toNat (((ByteArray.size t3.1) : Nat) : Int)))
  bif (strEq v4 (⟨(List.toArray [])⟩ : ByteArray)) then (K ((0 : Int), ((0 : Int), ((4 : Int), ())))) else (bif (decide (((0 : Int) ≤ (0 : Int)) ∧ ((0 : Int) < (((ByteArray.size v4) : Nat) : Int)))) then (bif (decide ((byteAt v4 0) < (253 : Int))) then (bif (decide (((0 : Int) ≤ (0 : Int)) ∧ ((0 : Int) < (((ByteArray.size v4) : Nat) : Int)))) then (let v5 : Int := (IntKind.wrap IntKind.i64 (t3.2.1 + (1 : Int)))
  K ((IntKind.wrap IntKind.u64 (byteAt v4 0)), (v5, ((0 : Int), ())))) else (none)) else (bif (decide (((0 : Int) ≤ (0 : Int)) ∧ ((0 : Int) < (((ByteArray.size v4) : Nat) : Int)))) then (let v6 : Int := (IntKind.wrap IntKind.u8 ((byteAt v4 0) - (253 : Int)))
  bif (decide ((0 : Int) ≤ v6)) then (let v7 : Int := (shlOp IntKind.i64 (2 : Int) v6)
  let v8 : Int := (IntKind.wrap IntKind.i64 ((1 : Int) + v7))
  bif (decide ((((ByteArray.size v4) : Nat) : Int) < v8)) then (K ((0 : Int), ((0 : Int), ((4 : Int), ())))) else (bif (decide (((0 : Int) ≤ (1 : Int)) ∧ (((1 : Int) ≤ v8) ∧ (v8 ≤ (((ByteArray.size v4) : Nat) : Int))))) then ((num_take k (ByteArray.extract v4 1 (Int.toNat v8))).bind fun t9 => (num_CountLong k t9.1).bind fun t10 => bif (t10.1 != v8) then (K ((0 : Int), ((0 : Int), ((6 : Int), ())))) else (let v11 : Int := (IntKind.wrap IntKind.i64 (t3.2.1 + v8))
  K (t9.1, (v11, ((0 : Int), ()))))) else (none))) else (none)) else (none))) else (none))) else (none)))
def num_TakeCount (k : Nat) (s : ByteArray) (at_1 : Int) : Option (Int × Int × Int × Unit) := num_TakeCount.c k s at_1 some
def num_TakeCount.tin : List Ty := [.str, (.int .i64)]
def num_TakeCount.tout : List Ty := [(.int .u64), (.int .i64), (.int .i64)]
def num_TakeCount.sem (k : Nat) : CallSem := callPure num_TakeCount.tin num_TakeCount.tout fun x => num_TakeCount k x.1 x.2.1
noncomputable def num_TakeCount.ctx (k : Nat) : Ctx := ⟨Try.prog, gam [(78, (num_take.sem k)), (20, (num_CountLong.sem k))]⟩
theorem num_TakeCount.gok (k : Nat) : ∀ f, SemOK Try.prog f ((num_TakeCount.ctx k).Γ f) := (gam_cons (num_take.sem_ok k) (gam_cons (num_CountLong.sem_ok k) gam_nil))
theorem num_TakeCount.p0.is (k : Nat) : PieceIs (num_TakeCount.ctx k) (codeAt (Func.code Try.f15) [1, 0]) (.nil) num_TakeCount.p0.T num_TakeCount.p0.os (num_TakeCount.p0.r k) := by
  intro ρ x K; kernel_rfl
theorem num_TakeCount.p0.ok (k : Nat) : StOK 0 Try.prog (codeAt (Func.code Try.f15) [1, 0]) (pieceSem num_TakeCount.p0.T num_TakeCount.p0.os (num_TakeCount.p0 k)) :=
  piece_ok (C := num_TakeCount.ctx k) (T := num_TakeCount.p0.T) (os := num_TakeCount.p0.os) (num_TakeCount.gok k) Try.mix (fun x K => num_TakeCount.p0.r k x K) AnnOK.nil (by kernel_rfl) (by kernel_rfl) (num_TakeCount.p0.is k)
def num_TakeCount.ann (k : Nat) : Ann := .node [] none (.nil) (.node [] none (.node [] (some (pieceSem num_TakeCount.p0.T num_TakeCount.p0.os (num_TakeCount.p0 k))) .nil .nil) (.nil))
theorem num_TakeCount.body (k : Nat) : BodyIs (num_TakeCount.ctx k) Try.f15 (Func.code Try.f15) (num_TakeCount.ann k) num_TakeCount.tin num_TakeCount.tout (fun x K => num_TakeCount.c k x.1 x.2.1 K) := by
  intro ρ x K; kernel_rfl
theorem num_TakeCount.sem_ok (k : Nat) : SemOK Try.prog 15 (num_TakeCount.sem k) :=
  callPure_ok (C := num_TakeCount.ctx k) (num_TakeCount.gok k) Try.mix (c := Func.code Try.f15) (ann := num_TakeCount.ann k) (tin := num_TakeCount.tin) (tout := num_TakeCount.tout) (fun x K => num_TakeCount.c k x.1 x.2.1 K) Try.func15 (by kernel_rfl) (by kernel_rfl) (AnnOK.seq AnnOK.nil (AnnOK.seq (AnnOK.loop (by kernel_rfl) (num_TakeCount.p0.ok k)) AnnOK.nil)) (num_TakeCount.body k)

/-! 79 bedrock/bedrockref01.Get -/
abbrev bedrockref01_Get.l0.σ : Type := ByteArray × Int × Int × Unit
abbrev bedrockref01_Get.l0.τ : Type := (Int × Unit)
def bedrockref01_Get.l0.r (k : Nat) {ρ : Type} (x : bedrockref01_Get.l0.σ) (kn : bedrockref01_Get.l0.σ → Option ρ) (ke : bedrockref01_Get.l0.τ → Option ρ) : Option ρ :=
  bif (decide (x.2.2.1 ≥ (0 : Int))) then (let v1 : Int := (IntKind.wrap IntKind.u64 (x.2.1 * (256 : Int)))
  bif (decide (((0 : Int) ≤ x.2.2.1) ∧ (x.2.2.1 < (((ByteArray.size x.1) : Nat) : Int)))) then (let v2 : Int := (byteAt x.1 (Int.toNat x.2.2.1))
  let v3 : Int := (IntKind.wrap IntKind.u64 (v1 + (IntKind.wrap IntKind.u64 v2)))
  let v4 : Int := (IntKind.wrap IntKind.i64 (x.2.2.1 - (1 : Int)))
  kn (x.1, (v3, (v4, ())))) else (none)) else (ke (x.2.1, ()))
def bedrockref01_Get.l0 (k : Nat) : Nat → bedrockref01_Get.l0.σ → Option bedrockref01_Get.l0.τ := loopJ (bedrockref01_Get.l0.r k)
def bedrockref01_Get.l0.T : StT := ⟨.dat .str :: us 2 ++ .dat (.int .u64) :: .dat (.int .i64) :: us 15, []⟩
def bedrockref01_Get.l0.os : List Out := [⟨(.exit 0), [.mask [3], .auto 0], ⟨us 3 ++ .dat (.int .u64) :: us 16, []⟩⟩]
def bedrockref01_Get.c (k : Nat) {ρ : Type} (s : ByteArray) (K : Int × Unit → Option ρ) : Option ρ :=
  let v0 : Int := (IntKind.wrap IntKind.i64 ((((ByteArray.size s) : Nat) : Int) - (1 : Int)))
  (bedrockref01_Get.l0 k k (s, ((0 : Int), (v0, ())))).bind fun t5 => K (t5.1, ())
def bedrockref01_Get (k : Nat) (s : ByteArray) : Option (Int × Unit) := bedrockref01_Get.c k s some
def bedrockref01_Get.tin : List Ty := [.str]
def bedrockref01_Get.tout : List Ty := [(.int .u64)]
def bedrockref01_Get.sem (k : Nat) : CallSem := callPure bedrockref01_Get.tin bedrockref01_Get.tout fun x => bedrockref01_Get k x.1
noncomputable def bedrockref01_Get.ctx (k : Nat) : Ctx := ⟨Try.prog, gam []⟩
theorem bedrockref01_Get.gok (k : Nat) : ∀ f, SemOK Try.prog f ((bedrockref01_Get.ctx k).Γ f) := gam_nil
theorem bedrockref01_Get.l0.round (k : Nat) : RoundIs (bedrockref01_Get.ctx k) (codeAt (Func.code Try.f79) [1, 1, 0, 1, 0, 0]) (.nil) bedrockref01_Get.l0.T [.mask [0, 3, 4], .auto 0] bedrockref01_Get.l0.os (bedrockref01_Get.l0.r k) := by
  intro ρ x kn ke; kernel_rfl
theorem bedrockref01_Get.l0.ok (k : Nat) : StOK 0 Try.prog (.loop (codeAt (Func.code Try.f79) [1, 1, 0, 1, 0, 0])) (pieceSem bedrockref01_Get.l0.T bedrockref01_Get.l0.os (bedrockref01_Get.l0 k k)) :=
  loop_ok (C := bedrockref01_Get.ctx k) (bedrockref01_Get.gok k) Try.mix AnnOK.nil (by kernel_rfl) (by kernel_rfl) (by kernel_rfl) (bedrockref01_Get.l0.round k) k
def bedrockref01_Get.ann (k : Nat) : Ann := .node [] none (.nil) (.node [] none (.nil) (.node [] none (.node [] none (.nil) (.node [] none (.node [] (some (pieceSem bedrockref01_Get.l0.T bedrockref01_Get.l0.os (bedrockref01_Get.l0 k k))) .nil .nil) (.nil))) (.nil)))
theorem bedrockref01_Get.body (k : Nat) : BodyIs (bedrockref01_Get.ctx k) Try.f79 (Func.code Try.f79) (bedrockref01_Get.ann k) bedrockref01_Get.tin bedrockref01_Get.tout (fun x K => bedrockref01_Get.c k x.1 K) := by
  intro ρ x K; kernel_rfl
theorem bedrockref01_Get.sem_ok (k : Nat) : SemOK Try.prog 79 (bedrockref01_Get.sem k) :=
  callPure_ok (C := bedrockref01_Get.ctx k) (bedrockref01_Get.gok k) Try.mix (c := Func.code Try.f79) (ann := bedrockref01_Get.ann k) (tin := bedrockref01_Get.tin) (tout := bedrockref01_Get.tout) (fun x K => bedrockref01_Get.c k x.1 K) Try.func79 (by kernel_rfl) (by kernel_rfl) (AnnOK.seq AnnOK.nil (AnnOK.seq AnnOK.nil (AnnOK.seq (AnnOK.seq AnnOK.nil (AnnOK.block (AnnOK.loop (by kernel_rfl) (bedrockref01_Get.l0.ok k)))) AnnOK.nil))) (bedrockref01_Get.body k)

/-! 80 bedrock/bedrockref01.Low -/
abbrev bedrockref01_Low.l0.σ : Type := Int × Int × ByteArray × Int × Unit
abbrev bedrockref01_Low.l0.τ : Type := (ByteArray × Unit)
def bedrockref01_Low.l0.r (k : Nat) {ρ : Type} (x : bedrockref01_Low.l0.σ) (kn : bedrockref01_Low.l0.σ → Option ρ) (ke : bedrockref01_Low.l0.τ → Option ρ) : Option ρ :=
  bif (decide (x.2.2.2.1 < x.2.1)) then (let v0 : Int := (Int.tmod x.1 (256 : Int))
  let v1 : ByteArray := (bytesOf (List.set (List.replicate 1 (0 : Int)) 0 (IntKind.wrap IntKind.u8 v0)))
  bif (Nat.ble ((ByteArray.size x.2.2.1) + (ByteArray.size v1)) 9223372036854775807) then (let v2 : ByteArray := (x.2.2.1 ++ v1)
  let v3 : Int := (IntKind.wrap IntKind.u64 (Int.tdiv x.1 (256 : Int)))
  let v4 : Int := (IntKind.wrap IntKind.i64 (x.2.2.2.1 + (1 : Int)))
  kn (v3, (x.2.1, (v2, (v4, ()))))) else (none)) else (ke (x.2.2.1, ()))
def bedrockref01_Low.l0 (k : Nat) : Nat → bedrockref01_Low.l0.σ → Option bedrockref01_Low.l0.τ := loopJ (bedrockref01_Low.l0.r k)
def bedrockref01_Low.l0.T : StT := ⟨.dat (.int .u64) :: .dat (.int .i64) :: us 3 ++ .dat .str :: .dat (.int .i64) :: us 15, []⟩
def bedrockref01_Low.l0.os : List Out := [⟨(.exit 0), [.mask [5], .auto 0], ⟨us 5 ++ .dat .str :: us 16, []⟩⟩]
def bedrockref01_Low.c (k : Nat) {ρ : Type} (n : Int) (bytes : Int) (K : ByteArray × Unit → Option ρ) : Option ρ :=
  (bedrockref01_Low.l0 k k (n, (bytes, ((⟨(List.toArray [])⟩ : ByteArray), ((0 : Int), ()))))).bind fun t5 => K (t5.1, ())
def bedrockref01_Low (k : Nat) (n : Int) (bytes : Int) : Option (ByteArray × Unit) := bedrockref01_Low.c k n bytes some
def bedrockref01_Low.tin : List Ty := [(.int .u64), (.int .i64)]
def bedrockref01_Low.tout : List Ty := [.str]
def bedrockref01_Low.sem (k : Nat) : CallSem := callPure bedrockref01_Low.tin bedrockref01_Low.tout fun x => bedrockref01_Low k x.1 x.2.1
noncomputable def bedrockref01_Low.ctx (k : Nat) : Ctx := ⟨Try.prog, gam []⟩
theorem bedrockref01_Low.gok (k : Nat) : ∀ f, SemOK Try.prog f ((bedrockref01_Low.ctx k).Γ f) := gam_nil
theorem bedrockref01_Low.l0.round (k : Nat) : RoundIs (bedrockref01_Low.ctx k) (codeAt (Func.code Try.f80) [1, 1, 0, 1, 0, 0]) (.nil) bedrockref01_Low.l0.T [.mask [0, 1, 5, 6], .auto 0] bedrockref01_Low.l0.os (bedrockref01_Low.l0.r k) := by
  intro ρ x kn ke; kernel_rfl
theorem bedrockref01_Low.l0.ok (k : Nat) : StOK 0 Try.prog (.loop (codeAt (Func.code Try.f80) [1, 1, 0, 1, 0, 0])) (pieceSem bedrockref01_Low.l0.T bedrockref01_Low.l0.os (bedrockref01_Low.l0 k k)) :=
  loop_ok (C := bedrockref01_Low.ctx k) (bedrockref01_Low.gok k) Try.mix AnnOK.nil (by kernel_rfl) (by kernel_rfl) (by kernel_rfl) (bedrockref01_Low.l0.round k) k
def bedrockref01_Low.ann (k : Nat) : Ann := .node [] none (.nil) (.node [] none (.nil) (.node [] none (.node [] none (.nil) (.node [] none (.node [] (some (pieceSem bedrockref01_Low.l0.T bedrockref01_Low.l0.os (bedrockref01_Low.l0 k k))) .nil .nil) (.nil))) (.nil)))
theorem bedrockref01_Low.body (k : Nat) : BodyIs (bedrockref01_Low.ctx k) Try.f80 (Func.code Try.f80) (bedrockref01_Low.ann k) bedrockref01_Low.tin bedrockref01_Low.tout (fun x K => bedrockref01_Low.c k x.1 x.2.1 K) := by
  intro ρ x K; kernel_rfl
theorem bedrockref01_Low.sem_ok (k : Nat) : SemOK Try.prog 80 (bedrockref01_Low.sem k) :=
  callPure_ok (C := bedrockref01_Low.ctx k) (bedrockref01_Low.gok k) Try.mix (c := Func.code Try.f80) (ann := bedrockref01_Low.ann k) (tin := bedrockref01_Low.tin) (tout := bedrockref01_Low.tout) (fun x K => bedrockref01_Low.c k x.1 x.2.1 K) Try.func80 (by kernel_rfl) (by kernel_rfl) (AnnOK.seq AnnOK.nil (AnnOK.seq AnnOK.nil (AnnOK.seq (AnnOK.seq AnnOK.nil (AnnOK.block (AnnOK.loop (by kernel_rfl) (bedrockref01_Low.l0.ok k)))) AnnOK.nil))) (bedrockref01_Low.body k)

/-! 17 bedrock/bedrockref01.Count -/
def bedrockref01_Count.c (k : Nat) {ρ : Type} (n : Int) (K : ByteArray × Unit → Option ρ) : Option ρ :=
  bif (decide (n < (253 : Int))) then ((bedrockref01_Low k n (1 : Int)).bind fun t0 => K (t0.1, ())) else (bif (decide (n ≤ (65535 : Int))) then ((bedrockref01_Low k n (2 : Int)).bind fun t1 => bif (Nat.ble (1 + (ByteArray.size t1.1)) 9223372036854775807) then (let v2 : ByteArray := ((⟨(List.toArray [253])⟩ : ByteArray) ++ t1.1)
  K (v2, ())) else (none)) else (bif (decide (n ≤ (4294967295 : Int))) then ((bedrockref01_Low k n (4 : Int)).bind fun t3 => bif (Nat.ble (1 + (ByteArray.size t3.1)) 9223372036854775807) then (let v4 : ByteArray := ((⟨(List.toArray [254])⟩ : ByteArray) ++ t3.1)
  K (v4, ())) else (none)) else ((bedrockref01_Low k n (8 : Int)).bind fun t5 => bif (Nat.ble (1 + (ByteArray.size t5.1)) 9223372036854775807) then (let v6 : ByteArray := ((⟨(List.toArray [255])⟩ : ByteArray) ++ t5.1)
  K (v6, ())) else (none))))
def bedrockref01_Count (k : Nat) (n : Int) : Option (ByteArray × Unit) := bedrockref01_Count.c k n some
def bedrockref01_Count.tin : List Ty := [(.int .u64)]
def bedrockref01_Count.tout : List Ty := [.str]
def bedrockref01_Count.sem (k : Nat) : CallSem := callPure bedrockref01_Count.tin bedrockref01_Count.tout fun x => bedrockref01_Count k x.1
noncomputable def bedrockref01_Count.ctx (k : Nat) : Ctx := ⟨Try.prog, gam [(80, (bedrockref01_Low.sem k))]⟩
theorem bedrockref01_Count.gok (k : Nat) : ∀ f, SemOK Try.prog f ((bedrockref01_Count.ctx k).Γ f) := (gam_cons (bedrockref01_Low.sem_ok k) gam_nil)
def bedrockref01_Count.ann (k : Nat) : Ann := .nil
theorem bedrockref01_Count.body (k : Nat) : BodyIs (bedrockref01_Count.ctx k) Try.f17 (Func.code Try.f17) (bedrockref01_Count.ann k) bedrockref01_Count.tin bedrockref01_Count.tout (fun x K => bedrockref01_Count.c k x.1 K) := by
  intro ρ x K; kernel_rfl
theorem bedrockref01_Count.sem_ok (k : Nat) : SemOK Try.prog 17 (bedrockref01_Count.sem k) :=
  callPure_ok (C := bedrockref01_Count.ctx k) (bedrockref01_Count.gok k) Try.mix (c := Func.code Try.f17) (ann := bedrockref01_Count.ann k) (tin := bedrockref01_Count.tin) (tout := bedrockref01_Count.tout) (fun x K => bedrockref01_Count.c k x.1 K) Try.func17 (by kernel_rfl) (by kernel_rfl) AnnOK.nil (bedrockref01_Count.body k)

/-! 16 bedrock/bedrockref01.TakeCount -/
abbrev bedrockref01_TakeCount.p0.σ : Type := ByteArray × Int × Unit
abbrev bedrockref01_TakeCount.p0.τ : Type := (Int × Int × Int × Unit) ⊕ (ByteArray × Int × Unit)
def bedrockref01_TakeCount.p0.r (k : Nat) {ρ : Type} (x : bedrockref01_TakeCount.p0.σ) (K : bedrockref01_TakeCount.p0.τ → Option ρ) : Option ρ :=
  bif (decide (x.2.1 < (0 : Int))) then (K (.inl ((0 : Int), ((0 : Int), ((1 : Int), ()))))) else (let v0 : Int := (((ByteArray.size x.1) : Nat) : Int)
  bif (decide (x.2.1 > v0)) then (K (.inl ((0 : Int), ((0 : Int), ((1 : Int), ()))))) else (K (.inr (x.1, (x.2.1, ())))))
def bedrockref01_TakeCount.p0 (k : Nat) (x : bedrockref01_TakeCount.p0.σ) : Option bedrockref01_TakeCount.p0.τ := bedrockref01_TakeCount.p0.r k x some
def bedrockref01_TakeCount.p0.T : StT := ⟨.dat .str :: .dat (.int .i64) :: us 61, []⟩
def bedrockref01_TakeCount.p0.os : List Out := [⟨.ret, [.mask [4, 5, 6], .auto 0], ⟨us 4 ++ .dat (.int .u64) :: .dat (.int .i64) :: .dat (.int .i64) :: us 56, []⟩⟩, ⟨.normal, [.mask [0, 1], .auto 0], ⟨.dat .str :: .dat (.int .i64) :: us 61, []⟩⟩]
abbrev bedrockref01_TakeCount.p1.σ : Type := ByteArray × Int × Int × Unit
abbrev bedrockref01_TakeCount.p1.τ : Type := (ByteArray × Int × Int × Unit)
def bedrockref01_TakeCount.p1.r (k : Nat) {ρ : Type} (x : bedrockref01_TakeCount.p1.σ) (K : bedrockref01_TakeCount.p1.τ → Option ρ) : Option ρ :=
  bif (decide (((0 : Int) ≤ x.2.1) ∧ (x.2.1 < (((ByteArray.size x.1) : Nat) : Int)))) then (let v5 : Int := (byteAt x.1 (Int.toNat x.2.1))
  bif (v5 == (253 : Int)) then (K (x.1, (x.2.1, ((2 : Int), ())))) else (bif (v5 == (254 : Int)) then (K (x.1, (x.2.1, ((4 : Int), ())))) else (bif (v5 == (255 : Int)) then (K (x.1, (x.2.1, ((8 : Int), ())))) else (K (x.1, (x.2.1, (x.2.2.1, ()))))))) else (none)
def bedrockref01_TakeCount.p1 (k : Nat) (x : bedrockref01_TakeCount.p1.σ) : Option bedrockref01_TakeCount.p1.τ := bedrockref01_TakeCount.p1.r k x some
def bedrockref01_TakeCount.p1.T : StT := ⟨.dat .str :: .dat (.int .i64) :: us 5 ++ .dat (.int .i64) :: us 55, []⟩
def bedrockref01_TakeCount.p1.os : List Out := [⟨.normal, [.mask [0, 1, 7], .auto 0], ⟨.dat .str :: .dat (.int .i64) :: us 5 ++ .dat (.int .i64) :: us 55, []⟩⟩]
abbrev bedrockref01_TakeCount.p2.σ : Type := ByteArray × Int × Int × Int × Unit
abbrev bedrockref01_TakeCount.p2.τ : Type := (Int × Int × Int × Unit)
def bedrockref01_TakeCount.p2.r (k : Nat) {ρ : Type} (x : bedrockref01_TakeCount.p2.σ) (K : bedrockref01_TakeCount.p2.τ → Option ρ) : Option ρ :=
  bif (decide (x.2.2.1 > (0 : Int))) then (let v11 : Int := (IntKind.wrap IntKind.i64 (x.2.1 + (1 : Int)))
  let v12 : Int := (IntKind.wrap IntKind.i64 (x.2.1 + (1 : Int)))
  let v13 : Int := (IntKind.wrap IntKind.i64 (v12 + x.2.2.1))
  bif (decide (((0 : Int) ≤ v11) ∧ ((v11 ≤ v13) ∧ (v13 ≤ (((ByteArray.size x.1) : Nat) : Int))))) then (let v14 : ByteArray := (ByteArray.extract x.1 (Int.toNat v11) (Int.toNat v13))
  (bedrockref01_Get k v14).bind fun t15 => K (x.2.1, (x.2.2.1, (t15.1, ())))) else (none)) else (K (x.2.1, (x.2.2.1, (x.2.2.2.1, ()))))
def bedrockref01_TakeCount.p2 (k : Nat) (x : bedrockref01_TakeCount.p2.σ) : Option bedrockref01_TakeCount.p2.τ := bedrockref01_TakeCount.p2.r k x some
def bedrockref01_TakeCount.p2.T : StT := ⟨.dat .str :: .dat (.int .i64) :: us 5 ++ .dat (.int .i64) :: .dat (.int .u64) :: us 54, []⟩
def bedrockref01_TakeCount.p2.os : List Out := [⟨.normal, [.mask [1, 7, 8], .auto 0], ⟨us 1 ++ .dat (.int .i64) :: us 5 ++ .dat (.int .i64) :: .dat (.int .u64) :: us 54, []⟩⟩]
def bedrockref01_TakeCount.c (k : Nat) {ρ : Type} (s : ByteArray) (at_1 : Int) (K : Int × Int × Int × Unit → Option ρ) : Option ρ :=
  (bedrockref01_TakeCount.p0 k (s, (at_1, ()))).bind fun t1 => (match t1 with | .inl t2 => (K (t2.1, (t2.2.1, (t2.2.2.1, ())))) | .inr (t3) => (let v4 : Int := (((ByteArray.size t3.1) : Nat) : Int)
  bif (t3.2.1 == v4) then (K ((0 : Int), ((0 : Int), ((4 : Int), ())))) else ((bedrockref01_TakeCount.p1 k (t3.1, (t3.2.1, ((0 : Int), ())))).bind fun t6 => let v7 : Int := (((ByteArray.size t6.1) : Nat) : Int)
  let v8 : Int := (IntKind.wrap IntKind.i64 (v7 - t6.2.1))
  let v9 : Int := (IntKind.wrap IntKind.i64 (v8 - (1 : Int)))
  bif (decide (v9 < t6.2.2.1)) then (K ((0 : Int), ((0 : Int), ((4 : Int), ())))) else (bif (decide (((0 : Int) ≤ t6.2.1) ∧ (t6.2.1 < (((ByteArray.size t6.1) : Nat) : Int)))) then (let v10 : Int := (byteAt t6.1 (Int.toNat t6.2.1))
  (bedrockref01_TakeCount.p2 k (t6.1, (t6.2.1, (t6.2.2.1, ((IntKind.wrap IntKind.u64 v10), ()))))).bind fun t16 => (bedrockref01_Count k t16.2.2.1).bind fun t17 => let v18 : Int := (((ByteArray.size t17.1) : Nat) : Int)
  let v19 : Int := (IntKind.wrap IntKind.i64 ((1 : Int) + t16.2.1))
  bif (v18 != v19) then (K ((0 : Int), ((0 : Int), ((6 : Int), ())))) else (let v20 : Int := (IntKind.wrap IntKind.i64 (t16.1 + (1 : Int)))
  let v21 : Int := (IntKind.wrap IntKind.i64 (v20 + t16.2.1))
  K (t16.2.2.1, (v21, ((0 : Int), ()))))) else (none)))))
def bedrockref01_TakeCount (k : Nat) (s : ByteArray) (at_1 : Int) : Option (Int × Int × Int × Unit) := bedrockref01_TakeCount.c k s at_1 some
def bedrockref01_TakeCount.tin : List Ty := [.str, (.int .i64)]
def bedrockref01_TakeCount.tout : List Ty := [(.int .u64), (.int .i64), (.int .i64)]
def bedrockref01_TakeCount.sem (k : Nat) : CallSem := callPure bedrockref01_TakeCount.tin bedrockref01_TakeCount.tout fun x => bedrockref01_TakeCount k x.1 x.2.1
noncomputable def bedrockref01_TakeCount.ctx (k : Nat) : Ctx := ⟨Try.prog, gam [(79, (bedrockref01_Get.sem k)), (17, (bedrockref01_Count.sem k))]⟩
theorem bedrockref01_TakeCount.gok (k : Nat) : ∀ f, SemOK Try.prog f ((bedrockref01_TakeCount.ctx k).Γ f) := (gam_cons (bedrockref01_Get.sem_ok k) (gam_cons (bedrockref01_Count.sem_ok k) gam_nil))
theorem bedrockref01_TakeCount.p0.is (k : Nat) : PieceIs (bedrockref01_TakeCount.ctx k) (codeAt (Func.code Try.f16) [1, 0]) (.nil) bedrockref01_TakeCount.p0.T bedrockref01_TakeCount.p0.os (bedrockref01_TakeCount.p0.r k) := by
  intro ρ x K; kernel_rfl
theorem bedrockref01_TakeCount.p0.ok (k : Nat) : StOK 0 Try.prog (codeAt (Func.code Try.f16) [1, 0]) (pieceSem bedrockref01_TakeCount.p0.T bedrockref01_TakeCount.p0.os (bedrockref01_TakeCount.p0 k)) :=
  piece_ok (C := bedrockref01_TakeCount.ctx k) (T := bedrockref01_TakeCount.p0.T) (os := bedrockref01_TakeCount.p0.os) (bedrockref01_TakeCount.gok k) Try.mix (fun x K => bedrockref01_TakeCount.p0.r k x K) AnnOK.nil (by kernel_rfl) (by kernel_rfl) (bedrockref01_TakeCount.p0.is k)
theorem bedrockref01_TakeCount.p1.is (k : Nat) : PieceIs (bedrockref01_TakeCount.ctx k) (codeAt (Func.code Try.f16) [1, 1, 1, 1, 0]) (.nil) bedrockref01_TakeCount.p1.T bedrockref01_TakeCount.p1.os (bedrockref01_TakeCount.p1.r k) := by
  intro ρ x K; kernel_rfl
theorem bedrockref01_TakeCount.p1.ok (k : Nat) : StOK 0 Try.prog (codeAt (Func.code Try.f16) [1, 1, 1, 1, 0]) (pieceSem bedrockref01_TakeCount.p1.T bedrockref01_TakeCount.p1.os (bedrockref01_TakeCount.p1 k)) :=
  piece_ok (C := bedrockref01_TakeCount.ctx k) (T := bedrockref01_TakeCount.p1.T) (os := bedrockref01_TakeCount.p1.os) (bedrockref01_TakeCount.gok k) Try.mix (fun x K => bedrockref01_TakeCount.p1.r k x K) AnnOK.nil (by kernel_rfl) (by kernel_rfl) (bedrockref01_TakeCount.p1.is k)
theorem bedrockref01_TakeCount.p2.is (k : Nat) : PieceIs (bedrockref01_TakeCount.ctx k) (codeAt (Func.code Try.f16) [1, 1, 1, 1, 1, 1, 1, 0]) (.nil) bedrockref01_TakeCount.p2.T bedrockref01_TakeCount.p2.os (bedrockref01_TakeCount.p2.r k) := by
  intro ρ x K; kernel_rfl
theorem bedrockref01_TakeCount.p2.ok (k : Nat) : StOK 0 Try.prog (codeAt (Func.code Try.f16) [1, 1, 1, 1, 1, 1, 1, 0]) (pieceSem bedrockref01_TakeCount.p2.T bedrockref01_TakeCount.p2.os (bedrockref01_TakeCount.p2 k)) :=
  piece_ok (C := bedrockref01_TakeCount.ctx k) (T := bedrockref01_TakeCount.p2.T) (os := bedrockref01_TakeCount.p2.os) (bedrockref01_TakeCount.gok k) Try.mix (fun x K => bedrockref01_TakeCount.p2.r k x K) AnnOK.nil (by kernel_rfl) (by kernel_rfl) (bedrockref01_TakeCount.p2.is k)
def bedrockref01_TakeCount.ann (k : Nat) : Ann := .node [] none (.nil) (.node [] none (.node [] (some (pieceSem bedrockref01_TakeCount.p0.T bedrockref01_TakeCount.p0.os (bedrockref01_TakeCount.p0 k))) .nil .nil) (.node [] none (.nil) (.node [] none (.nil) (.node [] none (.node [] (some (pieceSem bedrockref01_TakeCount.p1.T bedrockref01_TakeCount.p1.os (bedrockref01_TakeCount.p1 k))) .nil .nil) (.node [] none (.nil) (.node [] none (.nil) (.node [] none (.node [] (some (pieceSem bedrockref01_TakeCount.p2.T bedrockref01_TakeCount.p2.os (bedrockref01_TakeCount.p2 k))) .nil .nil) (.nil))))))))
theorem bedrockref01_TakeCount.body (k : Nat) : BodyIs (bedrockref01_TakeCount.ctx k) Try.f16 (Func.code Try.f16) (bedrockref01_TakeCount.ann k) bedrockref01_TakeCount.tin bedrockref01_TakeCount.tout (fun x K => bedrockref01_TakeCount.c k x.1 x.2.1 K) := by
  intro ρ x K; kernel_rfl
theorem bedrockref01_TakeCount.sem_ok (k : Nat) : SemOK Try.prog 16 (bedrockref01_TakeCount.sem k) :=
  callPure_ok (C := bedrockref01_TakeCount.ctx k) (bedrockref01_TakeCount.gok k) Try.mix (c := Func.code Try.f16) (ann := bedrockref01_TakeCount.ann k) (tin := bedrockref01_TakeCount.tin) (tout := bedrockref01_TakeCount.tout) (fun x K => bedrockref01_TakeCount.c k x.1 x.2.1 K) Try.func16 (by kernel_rfl) (by kernel_rfl) (AnnOK.seq AnnOK.nil (AnnOK.seq (AnnOK.loop (by kernel_rfl) (bedrockref01_TakeCount.p0.ok k)) (AnnOK.seq AnnOK.nil (AnnOK.seq AnnOK.nil (AnnOK.seq (AnnOK.loop (by kernel_rfl) (bedrockref01_TakeCount.p1.ok k)) (AnnOK.seq AnnOK.nil (AnnOK.seq AnnOK.nil (AnnOK.seq (AnnOK.loop (by kernel_rfl) (bedrockref01_TakeCount.p2.ok k)) AnnOK.nil)))))))) (bedrockref01_TakeCount.body k)

/-! 43 bedrock/num.Hex -/
abbrev num_Hex.l0.σ : Type := ByteArray × Int × Int × (List Int) × Unit
abbrev num_Hex.l0.τ : Type := ((List Int) × Unit)
def num_Hex.l0.r (k : Nat) {ρ : Type} (x : num_Hex.l0.σ) (kn : num_Hex.l0.σ → Option ρ) (ke : num_Hex.l0.τ → Option ρ) : Option ρ :=
  bif (decide (x.2.2.1 < x.2.1)) then (bif (decide (((0 : Int) ≤ x.2.2.1) ∧ (x.2.2.1 < (((ByteArray.size x.1) : Nat) : Int)))) then (let v1 : Int := (byteAt x.1 (Int.toNat x.2.2.1))
  let v2 : Int := (shrOp IntKind.u8 v1 (4 : Int))
  bif (decide (((0 : Int) ≤ v2) ∧ (v2 < ((16 : Nat) : Int)))) then (let v3 : Int := (byteAt (⟨(List.toArray [48, 49, 50, 51, 52, 53, 54, 55, 56, 57, 97, 98, 99, 100, 101, 102])⟩ : ByteArray) (Int.toNat v2))
  bif (decide (((0 : Int) ≤ x.2.2.1) ∧ (x.2.2.1 < (((ByteArray.size x.1) : Nat) : Int)))) then (let v4 : Int := (byteAt x.1 (Int.toNat x.2.2.1))
  let v5 : Int := (bitsOp BinOp.and IntKind.u8 v4 (15 : Int))
  bif (decide (((0 : Int) ≤ v5) ∧ (v5 < ((16 : Nat) : Int)))) then (let v6 : Int := (byteAt (⟨(List.toArray [48, 49, 50, 51, 52, 53, 54, 55, 56, 57, 97, 98, 99, 100, 101, 102])⟩ : ByteArray) (Int.toNat v5))
  bif (Nat.ble (((List.length x.2.2.2.1) + (List.length (List.set (List.set (List.replicate 2 (0 : Int)) 0 v3) 1 v6))) * 1) 140737488355328) then (let v7 : Int := (IntKind.wrap IntKind.i64 (x.2.2.1 + (1 : Int)))
  kn (x.1, (x.2.1, (v7, ((x.2.2.2.1 ++ (List.set (List.set (List.replicate 2 (0 : Int)) 0 v3) 1 v6)), ()))))) else (none)) else (none)) else (none)) else (none)) else (none)) else (ke (x.2.2.2.1, ()))
def num_Hex.l0 (k : Nat) : Nat → num_Hex.l0.σ → Option num_Hex.l0.τ := loopJ (num_Hex.l0.r k)
def num_Hex.l0.T : StT := ⟨.dat .str :: us 2 ++ .vsl 0 :: us 6 ++ .dat (.int .i64) :: .dat (.int .i64) :: us 18, [.vec (.int .u8)]⟩
def num_Hex.l0.os : List Out := [⟨(.exit 0), [.mask [3], .auto 0], ⟨us 3 ++ .vsl 0 :: us 26, [.vec (.int .u8)]⟩⟩]
def num_Hex.c (k : Nat) {ρ : Type} (s : ByteArray) (K : ByteArray × Unit → Option ρ) : Option ρ :=
  let v0 : Int := (IntKind.wrap IntKind.i64 ((2 : Int) * (((ByteArray.size s) : Nat) : Int)))
  bif ((decide (((0 : Int) ≤ (0 : Int)) ∧ ((0 : Int) ≤ v0))) && (Nat.ble ((Int.toNat v0) * 1) 140737488355328)) then ((num_Hex.l0 k k (s, ((((ByteArray.size s) : Nat) : Int), ((0 : Int), ((List.replicate 0 (0 : Int)), ()))))).bind fun t8 => K ((bytesOf t8.1), ())) else (none)
def num_Hex (k : Nat) (s : ByteArray) : Option (ByteArray × Unit) := num_Hex.c k s some
def num_Hex.tin : List Ty := [.str]
def num_Hex.tout : List Ty := [.str]
def num_Hex.sem (k : Nat) : CallSem := callPure num_Hex.tin num_Hex.tout fun x => num_Hex k x.1
noncomputable def num_Hex.ctx (k : Nat) : Ctx := ⟨Try.prog, gam []⟩
theorem num_Hex.gok (k : Nat) : ∀ f, SemOK Try.prog f ((num_Hex.ctx k).Γ f) := gam_nil
theorem num_Hex.l0.round (k : Nat) : RoundIs (num_Hex.ctx k) (codeAt (Func.code Try.f43) [1, 1, 0, 1, 0, 0]) (.nil) num_Hex.l0.T [.mask [0, 3, 10, 11], .auto 0] num_Hex.l0.os (num_Hex.l0.r k) := by
  intro ρ x kn ke; kernel_rfl
theorem num_Hex.l0.ok (k : Nat) : StOK 0 Try.prog (.loop (codeAt (Func.code Try.f43) [1, 1, 0, 1, 0, 0])) (pieceSem num_Hex.l0.T num_Hex.l0.os (num_Hex.l0 k k)) :=
  loop_ok (C := num_Hex.ctx k) (num_Hex.gok k) Try.mix AnnOK.nil (by kernel_rfl) (by kernel_rfl) (by kernel_rfl) (num_Hex.l0.round k) k
def num_Hex.ann (k : Nat) : Ann := .node [] none (.nil) (.node [] none (.nil) (.node [] none (.node [] none (.nil) (.node [] none (.node [.mask [0, 3, 10, 11], .auto 0] (some (pieceSem num_Hex.l0.T num_Hex.l0.os (num_Hex.l0 k k))) .nil .nil) (.nil))) (.nil)))
theorem num_Hex.body (k : Nat) : BodyIs (num_Hex.ctx k) Try.f43 (Func.code Try.f43) (num_Hex.ann k) num_Hex.tin num_Hex.tout (fun x K => num_Hex.c k x.1 K) := by
  intro ρ x K; kernel_rfl
theorem num_Hex.sem_ok (k : Nat) : SemOK Try.prog 43 (num_Hex.sem k) :=
  callPure_ok (C := num_Hex.ctx k) (num_Hex.gok k) Try.mix (c := Func.code Try.f43) (ann := num_Hex.ann k) (tin := num_Hex.tin) (tout := num_Hex.tout) (fun x K => num_Hex.c k x.1 K) Try.func43 (by kernel_rfl) (by kernel_rfl) (AnnOK.seq AnnOK.nil (AnnOK.seq AnnOK.nil (AnnOK.seq (AnnOK.seq AnnOK.nil (AnnOK.block (AnnOK.loop (by kernel_rfl) (num_Hex.l0.ok k)))) AnnOK.nil))) (num_Hex.body k)

/-! 18 bedrock/bedrocklaw01.awake -/
def bedrocklaw01_awake.c (k : Nat) {ρ : Type}  (K : Bool × Unit → Option ρ) : Option ρ :=
  (num_TakeCount k (⟨(List.toArray [253, 0, 1])⟩ : ByteArray) (0 : Int)).bind fun t0 => let v1 : Int := t0.1
  let v2 : Int := t0.2.1
  let v3 : Int := t0.2.2.1
  bif (v1 == (256 : Int)) then (bif (v2 == (3 : Int)) then (bif (v3 == (0 : Int)) then ((num_Hex k (⟨(List.toArray [171])⟩ : ByteArray)).bind fun t4 => K ((strEq t4.1 (⟨(List.toArray [97, 98])⟩ : ByteArray)), ())) else (K (false, ()))) else (K (false, ()))) else (K (false, ()))
def bedrocklaw01_awake (k : Nat)  : Option (Bool × Unit) := bedrocklaw01_awake.c k  some
def bedrocklaw01_awake.tin : List Ty := []
def bedrocklaw01_awake.tout : List Ty := [.bool]
def bedrocklaw01_awake.sem (k : Nat) : CallSem := callPure bedrocklaw01_awake.tin bedrocklaw01_awake.tout fun x => bedrocklaw01_awake k 
noncomputable def bedrocklaw01_awake.ctx (k : Nat) : Ctx := ⟨Try.prog, gam [(15, (num_TakeCount.sem k)), (43, (num_Hex.sem k))]⟩
theorem bedrocklaw01_awake.gok (k : Nat) : ∀ f, SemOK Try.prog f ((bedrocklaw01_awake.ctx k).Γ f) := (gam_cons (num_TakeCount.sem_ok k) (gam_cons (num_Hex.sem_ok k) gam_nil))
def bedrocklaw01_awake.ann (k : Nat) : Ann := .nil
theorem bedrocklaw01_awake.body (k : Nat) : BodyIs (bedrocklaw01_awake.ctx k) Try.f18 (Func.code Try.f18) (bedrocklaw01_awake.ann k) bedrocklaw01_awake.tin bedrocklaw01_awake.tout (fun x K => bedrocklaw01_awake.c k  K) := by
  intro ρ x K; kernel_rfl
theorem bedrocklaw01_awake.sem_ok (k : Nat) : SemOK Try.prog 18 (bedrocklaw01_awake.sem k) :=
  callPure_ok (C := bedrocklaw01_awake.ctx k) (bedrocklaw01_awake.gok k) Try.mix (c := Func.code Try.f18) (ann := bedrocklaw01_awake.ann k) (tin := bedrocklaw01_awake.tin) (tout := bedrocklaw01_awake.tout) (fun x K => bedrocklaw01_awake.c k  K) Try.func18 (by kernel_rfl) (by kernel_rfl) AnnOK.nil (bedrocklaw01_awake.body k)

/-! 81 bedrock/num.lay -/
abbrev num_lay.l0.σ : Type := Int × Int × Int × (List Int) × Unit
abbrev num_lay.l0.τ : Type := ((List Int) × Unit)
def num_lay.l0.r (k : Nat) {ρ : Type} (x : num_lay.l0.σ) (kn : num_lay.l0.σ → Option ρ) (ke : num_lay.l0.τ → Option ρ) : Option ρ :=
  bif (decide (x.2.2.1 < x.2.1)) then (let v1 : Int := (IntKind.wrap IntKind.i64 ((8 : Int) * x.2.2.1))
  bif (decide ((0 : Int) ≤ v1)) then (let v2 : Int := (shrOp IntKind.u64 x.1 v1)
  bif (decide (((0 : Int) ≤ x.2.2.1) ∧ (x.2.2.1 < (((List.length x.2.2.2.1) : Nat) : Int)))) then (let v3 : Int := (IntKind.wrap IntKind.i64 (x.2.2.1 + (1 : Int)))
  kn (x.1, (x.2.1, (v3, ((List.set x.2.2.2.1 (Int.toNat x.2.2.1) (IntKind.wrap IntKind.u8 v2)), ()))))) else (none)) else (none)) else (ke (x.2.2.2.1, ()))
def num_lay.l0 (k : Nat) : Nat → num_lay.l0.σ → Option num_lay.l0.τ := loopJ (num_lay.l0.r k)
def num_lay.l0.T : StT := ⟨.dat (.int .u64) :: us 4 ++ .vsl 0 :: us 4 ++ .dat (.int .i64) :: .dat (.int .i64) :: us 13, [.vec (.int .u8)]⟩
def num_lay.l0.os : List Out := [⟨(.exit 0), [.mask [5], .auto 0], ⟨us 5 ++ .vsl 0 :: us 19, [.vec (.int .u8)]⟩⟩]
def num_lay.c (k : Nat) {ρ : Type} (n : Int) (bytes : Int) (K : ByteArray × Unit → Option ρ) : Option ρ :=
  bif ((decide (((0 : Int) ≤ bytes) ∧ (bytes ≤ bytes))) && (Nat.ble ((Int.toNat bytes) * 1) 140737488355328)) then (let v0 : Int := (((List.length (List.replicate (Int.toNat bytes) (0 : Int))) : Nat) : Int)
  (num_lay.l0 k k (n, (v0, ((0 : Int), ((List.replicate (Int.toNat bytes) (0 : Int)), ()))))).bind fun t4 => K ((bytesOf t4.1), ())) else (none)
def num_lay (k : Nat) (n : Int) (bytes : Int) : Option (ByteArray × Unit) := num_lay.c k n bytes some
def num_lay.tin : List Ty := [(.int .u64), (.int .i64)]
def num_lay.tout : List Ty := [.str]
def num_lay.sem (k : Nat) : CallSem := callPure num_lay.tin num_lay.tout fun x => num_lay k x.1 x.2.1
noncomputable def num_lay.ctx (k : Nat) : Ctx := ⟨Try.prog, gam []⟩
theorem num_lay.gok (k : Nat) : ∀ f, SemOK Try.prog f ((num_lay.ctx k).Γ f) := gam_nil
theorem num_lay.l0.round (k : Nat) : RoundIs (num_lay.ctx k) (codeAt (Func.code Try.f81) [1, 1, 0, 1, 0, 0]) (.nil) num_lay.l0.T [.mask [0, 5, 10, 11], .auto 0] num_lay.l0.os (num_lay.l0.r k) := by
  intro ρ x kn ke; kernel_rfl
theorem num_lay.l0.ok (k : Nat) : StOK 0 Try.prog (.loop (codeAt (Func.code Try.f81) [1, 1, 0, 1, 0, 0])) (pieceSem num_lay.l0.T num_lay.l0.os (num_lay.l0 k k)) :=
  loop_ok (C := num_lay.ctx k) (num_lay.gok k) Try.mix AnnOK.nil (by kernel_rfl) (by kernel_rfl) (by kernel_rfl) (num_lay.l0.round k) k
def num_lay.ann (k : Nat) : Ann := .node [] none (.nil) (.node [] none (.nil) (.node [] none (.node [] none (.nil) (.node [] none (.node [.mask [0, 5, 10, 11], .auto 0] (some (pieceSem num_lay.l0.T num_lay.l0.os (num_lay.l0 k k))) .nil .nil) (.nil))) (.nil)))
theorem num_lay.body (k : Nat) : BodyIs (num_lay.ctx k) Try.f81 (Func.code Try.f81) (num_lay.ann k) num_lay.tin num_lay.tout (fun x K => num_lay.c k x.1 x.2.1 K) := by
  intro ρ x K; kernel_rfl
theorem num_lay.sem_ok (k : Nat) : SemOK Try.prog 81 (num_lay.sem k) :=
  callPure_ok (C := num_lay.ctx k) (num_lay.gok k) Try.mix (c := Func.code Try.f81) (ann := num_lay.ann k) (tin := num_lay.tin) (tout := num_lay.tout) (fun x K => num_lay.c k x.1 x.2.1 K) Try.func81 (by kernel_rfl) (by kernel_rfl) (AnnOK.seq AnnOK.nil (AnnOK.seq AnnOK.nil (AnnOK.seq (AnnOK.seq AnnOK.nil (AnnOK.block (AnnOK.loop (by kernel_rfl) (num_lay.l0.ok k)))) AnnOK.nil))) (num_lay.body k)

/-! 19 bedrock/num.Count -/
def num_Count.c (k : Nat) {ρ : Type} (n : Int) (K : ByteArray × Unit → Option ρ) : Option ρ :=
  (num_CountLong k n).bind fun t0 => bif (t0.1 == (1 : Int)) then ((num_lay k n (1 : Int)).bind fun t1 => K (t1.1, ())) else (bif (t0.1 == (3 : Int)) then ((num_lay k (253 : Int) (1 : Int)).bind fun t2 => (num_lay k n (2 : Int)).bind fun t3 => bif (Nat.ble ((ByteArray.size t2.1) + (ByteArray.size t3.1)) 9223372036854775807) then (let v4 : ByteArray := (t2.1 ++ t3.1)
  K (v4, ())) else (none)) else (bif (t0.1 == (5 : Int)) then ((num_lay k (254 : Int) (1 : Int)).bind fun t5 => (num_lay k n (4 : Int)).bind fun t6 => bif (Nat.ble ((ByteArray.size t5.1) + (ByteArray.size t6.1)) 9223372036854775807) then (let v7 : ByteArray := (t5.1 ++ t6.1)
  K (v7, ())) else (none)) else ((num_lay k (255 : Int) (1 : Int)).bind fun t8 => (num_lay k n (8 : Int)).bind fun t9 => bif (Nat.ble ((ByteArray.size t8.1) + (ByteArray.size t9.1)) 9223372036854775807) then (let v10 : ByteArray := (t8.1 ++ t9.1)
  K (v10, ())) else (none))))
def num_Count (k : Nat) (n : Int) : Option (ByteArray × Unit) := num_Count.c k n some
def num_Count.tin : List Ty := [(.int .u64)]
def num_Count.tout : List Ty := [.str]
def num_Count.sem (k : Nat) : CallSem := callPure num_Count.tin num_Count.tout fun x => num_Count k x.1
noncomputable def num_Count.ctx (k : Nat) : Ctx := ⟨Try.prog, gam [(20, (num_CountLong.sem k)), (81, (num_lay.sem k))]⟩
theorem num_Count.gok (k : Nat) : ∀ f, SemOK Try.prog f ((num_Count.ctx k).Γ f) := (gam_cons (num_CountLong.sem_ok k) (gam_cons (num_lay.sem_ok k) gam_nil))
def num_Count.ann (k : Nat) : Ann := .nil
theorem num_Count.body (k : Nat) : BodyIs (num_Count.ctx k) Try.f19 (Func.code Try.f19) (num_Count.ann k) num_Count.tin num_Count.tout (fun x K => num_Count.c k x.1 K) := by
  intro ρ x K; kernel_rfl
theorem num_Count.sem_ok (k : Nat) : SemOK Try.prog 19 (num_Count.sem k) :=
  callPure_ok (C := num_Count.ctx k) (num_Count.gok k) Try.mix (c := Func.code Try.f19) (ann := num_Count.ann k) (tin := num_Count.tin) (tout := num_Count.tout) (fun x K => num_Count.c k x.1 K) Try.func19 (by kernel_rfl) (by kernel_rfl) AnnOK.nil (num_Count.body k)

/-! 3 bedrock/bedrocklaw01.NumCounts -/
def bedrocklaw01_NumCounts.c (k : Nat) {ρ : Type} (n : Int) (s : ByteArray) (at_2 : Int) (K : Bool × Unit → Option ρ) : Option ρ :=
  (num_TakeCount k s at_2).bind fun t0 => let v1 : Int := t0.1
  let v2 : Int := t0.2.1
  let v3 : Int := t0.2.2.1
  (bedrockref01_TakeCount k s at_2).bind fun t4 => let v5 : Int := t4.1
  let v6 : Int := t4.2.1
  let v7 : Int := t4.2.2.1
  (bedrockref01_Count k n).bind fun t8 => (num_TakeCount k t8.1 (0 : Int)).bind fun t9 => let v10 : Int := t9.1
  let v11 : Int := t9.2.1
  let v12 : Int := t9.2.2.1
  (bedrocklaw01_awake k ).bind fun t13 => bif t13.1 then (bif (v1 == v5) then (bif (v2 == v6) then (bif (v3 == v7) then ((num_Count k n).bind fun t14 => bif (strEq t14.1 t8.1) then ((num_CountLong k n).bind fun t15 => let v16 : Int := (((ByteArray.size t8.1) : Nat) : Int)
  bif (t15.1 == v16) then (bif (v10 == n) then (K ((v12 == (0 : Int)), ())) else (K (false, ()))) else (K (false, ()))) else (K (false, ()))) else (K (false, ()))) else (K (false, ()))) else (K (false, ()))) else (K (false, ()))
def bedrocklaw01_NumCounts (k : Nat) (n : Int) (s : ByteArray) (at_2 : Int) : Option (Bool × Unit) := bedrocklaw01_NumCounts.c k n s at_2 some
def bedrocklaw01_NumCounts.tin : List Ty := [(.int .u64), .str, (.int .i64)]
def bedrocklaw01_NumCounts.tout : List Ty := [.bool]
def bedrocklaw01_NumCounts.sem (k : Nat) : CallSem := callPure bedrocklaw01_NumCounts.tin bedrocklaw01_NumCounts.tout fun x => bedrocklaw01_NumCounts k x.1 x.2.1 x.2.2.1
noncomputable def bedrocklaw01_NumCounts.ctx (k : Nat) : Ctx := ⟨Try.prog, gam [(15, (num_TakeCount.sem k)), (16, (bedrockref01_TakeCount.sem k)), (17, (bedrockref01_Count.sem k)), (18, (bedrocklaw01_awake.sem k)), (19, (num_Count.sem k)), (20, (num_CountLong.sem k))]⟩
theorem bedrocklaw01_NumCounts.gok (k : Nat) : ∀ f, SemOK Try.prog f ((bedrocklaw01_NumCounts.ctx k).Γ f) := (gam_cons (num_TakeCount.sem_ok k) (gam_cons (bedrockref01_TakeCount.sem_ok k) (gam_cons (bedrockref01_Count.sem_ok k) (gam_cons (bedrocklaw01_awake.sem_ok k) (gam_cons (num_Count.sem_ok k) (gam_cons (num_CountLong.sem_ok k) gam_nil))))))
def bedrocklaw01_NumCounts.ann (k : Nat) : Ann := .nil
theorem bedrocklaw01_NumCounts.body (k : Nat) : BodyIs (bedrocklaw01_NumCounts.ctx k) Try.f3 (Func.code Try.f3) (bedrocklaw01_NumCounts.ann k) bedrocklaw01_NumCounts.tin bedrocklaw01_NumCounts.tout (fun x K => bedrocklaw01_NumCounts.c k x.1 x.2.1 x.2.2.1 K) := by
  intro ρ x K; kernel_rfl
theorem bedrocklaw01_NumCounts.sem_ok (k : Nat) : SemOK Try.prog 3 (bedrocklaw01_NumCounts.sem k) :=
  callPure_ok (C := bedrocklaw01_NumCounts.ctx k) (bedrocklaw01_NumCounts.gok k) Try.mix (c := Func.code Try.f3) (ann := bedrocklaw01_NumCounts.ann k) (tin := bedrocklaw01_NumCounts.tin) (tout := bedrocklaw01_NumCounts.tout) (fun x K => bedrocklaw01_NumCounts.c k x.1 x.2.1 x.2.2.1 K) Try.func3 (by kernel_rfl) (by kernel_rfl) AnnOK.nil (bedrocklaw01_NumCounts.body k)

end Go.Am
