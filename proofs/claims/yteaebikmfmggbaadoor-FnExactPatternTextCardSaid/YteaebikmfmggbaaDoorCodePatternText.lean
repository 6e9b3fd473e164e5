import Derived.Test.YteaebikmfmggbaaDoorProg
import Derived.Test.YteaebikmfmggbaaDoorAmLib
set_option linter.unusedVariables false
set_option linter.unusedSimpArgs false
namespace Go.Proofs.YteaebikmfmggbaaDoor
open Go.AM
abbrev mV (d s : Nat) : O := ⟨some d, none, .mov (.t s)⟩
abbrev mF (d k s : Nat) : O := ⟨some d, none, .fld k (.t s)⟩
abbrev mL (d k s : Nat) : O := ⟨some d, none, .load k false (.t s)⟩
abbrev mG (d k s : Nat) : O := ⟨some d, none, .load k true (.t s)⟩
abbrev mX (d k s i : Nat) : O := ⟨some d, none, .idxs k (.t s) (.t i)⟩
abbrev mS (k s i : Nat) : O := ⟨none, none, .store k (.t s) (.t i)⟩
abbrev mC (d : Nat) (f : FuncId) (l : List X) : O := ⟨some d, none, .call (.c (.fn f [] [])) l⟩
abbrev mB (d : Nat) (o : Go.BinOp) (s i : Nat) : O := ⟨some d, none, .bin o .num (.t s) (.t i)⟩
abbrev mI (d : Nat) (o : Go.BinOp) (s : Nat) (k : Int) : O := ⟨some d, none, .bin o .num (.t s) (.c (.int .i64 k))⟩
abbrev mK (d : Nat) (k : Int) : O := ⟨some d, none, .mov (.c (.int .i64 k))⟩
abbrev mT (d : Nat) (k : Bool) : O := ⟨some d, none, .mov (.c (.bool k))⟩
abbrev mN (d s : Nat) : O := ⟨some d, none, .len false (.t s)⟩
abbrev mA (d s : Nat) : O := ⟨some d, none, .box (.t s)⟩
abbrev mU (d s : Nat) : O := ⟨some d, none, .un .not (.t s)⟩
namespace Fn
abbrev kab : FuncId := 4
abbrev kac : FuncId := 9
abbrev kaa : FuncId := 10
abbrev kaf : FuncId := 16
abbrev kad : FuncId := 17
abbrev kae : FuncId := 19
end Fn
namespace Gn
abbrev g0 : Nat := 0
abbrev g1 : Nat := 1
abbrev g2 : Nat := 2
abbrev g3 : Nat := 3
abbrev g4 : Nat := 4
abbrev g5 : Nat := 5
abbrev g6 : Nat := 6
abbrev g7 : Nat := 7
end Gn
def tabL : List (Nat × TI) := [
  (2, ⟨.int .i64, 1, 8, [.int .i64 0], none⟩),
  (3, ⟨.int .i64, 1, 8, [.int .i64 0], none⟩),
  (4, ⟨.bool, 1, 1, [.bool false], none⟩),
  (5, ⟨.int .u8, 1, 1, [.int .u8 0], none⟩),
  (9, ⟨.str, 1, 16, [.str ⟨#[]⟩], none⟩),
  (21, ⟨.int .i32, 1, 4, [.int .i32 0], none⟩),
  (23, ⟨.strct [(0, 3), (1, 3)], 2, 16, [.int .i64 0,.int .i64 0], none⟩),
  (25, ⟨.strct [(0, 3), (1, 3)], 2, 16, [.int .i64 0,.int .i64 0], none⟩),
  (35, ⟨.ptr 38, 1, 8, [.nilp], none⟩),
  (36, ⟨.slice 5, 1, 24, [.nils], none⟩),
  (38, ⟨.strct [(0, 35), (1, 36)], 2, 32, [.nilp, .nils], none⟩),
  (39, ⟨.slice 9, 1, 24, [.nils], none⟩),
  (44, ⟨.iface, 1, 16, [.opq .nilIface], none⟩),
  (56, ⟨.ptr 5, 1, 8, [.nilp], none⟩),
  (61, ⟨.other, 1, 8, [.nilp], none⟩),
  (72, ⟨.int .u64, 1, 8, [.int .u64 0], none⟩),
  (79, ⟨.arr 24 5, 24, 24, [.int .u8 0, .int .u8 0, .int .u8 0, .int .u8 0, .int .u8 0, .int .u8 0, .int .u8 0, .int .u8 0, .int .u8 0, .int .u8 0, .int .u8 0, .int .u8 0, .int .u8 0, .int .u8 0, .int .u8 0, .int .u8 0, .int .u8 0, .int .u8 0, .int .u8 0, .int .u8 0, .int .u8 0, .int .u8 0, .int .u8 0, .int .u8 0], none⟩),
  (80, ⟨.int .u64, 1, 8, [.int .u64 0], none⟩),
  (85, ⟨.int .u32, 1, 4, [.int .u32 0], none⟩),
  (89, ⟨.arr 256 5, 256, 256, [.int .u8 0, .int .u8 0, .int .u8 0, .int .u8 0, .int .u8 0, .int .u8 0, .int .u8 0, .int .u8 0, .int .u8 0, .int .u8 0, .int .u8 0, .int .u8 0, .int .u8 0, .int .u8 0, .int .u8 0, .int .u8 0, .int .u8 0, .int .u8 0, .int .u8 0, .int .u8 0, .int .u8 0, .int .u8 0, .int .u8 0, .int .u8 0, .int .u8 0, .int .u8 0, .int .u8 0, .int .u8 0, .int .u8 0, .int .u8 0, .int .u8 0, .int .u8 0, .int .u8 0, .int .u8 0, .int .u8 0, .int .u8 0, .int .u8 0, .int .u8 0, .int .u8 0, .int .u8 0, .int .u8 0, .int .u8 0, .int .u8 0, .int .u8 0, .int .u8 0, .int .u8 0, .int .u8 0, .int .u8 0, .int .u8 0, .int .u8 0, .int .u8 0, .int .u8 0, .int .u8 0, .int .u8 0, .int .u8 0, .int .u8 0, .int .u8 0, .int .u8 0, .int .u8 0, .int .u8 0, .int .u8 0, .int .u8 0, .int .u8 0, .int .u8 0, .int .u8 0, .int .u8 0, .int .u8 0, .int .u8 0, .int .u8 0, .int .u8 0, .int .u8 0, .int .u8 0, .int .u8 0, .int .u8 0, .int .u8 0, .int .u8 0, .int .u8 0, .int .u8 0, .int .u8 0, .int .u8 0, .int .u8 0, .int .u8 0, .int .u8 0, .int .u8 0, .int .u8 0, .int .u8 0, .int .u8 0, .int .u8 0, .int .u8 0, .int .u8 0, .int .u8 0, .int .u8 0, .int .u8 0, .int .u8 0, .int .u8 0, .int .u8 0, .int .u8 0, .int .u8 0, .int .u8 0, .int .u8 0, .int .u8 0, .int .u8 0, .int .u8 0, .int .u8 0, .int .u8 0, .int .u8 0, .int .u8 0, .int .u8 0, .int .u8 0, .int .u8 0, .int .u8 0, .int .u8 0, .int .u8 0, .int .u8 0, .int .u8 0, .int .u8 0, .int .u8 0, .int .u8 0, .int .u8 0, .int .u8 0, .int .u8 0, .int .u8 0, .int .u8 0, .int .u8 0, .int .u8 0, .int .u8 0, .int .u8 0, .int .u8 0, .int .u8 0, .int .u8 0, .int .u8 0, .int .u8 0, .int .u8 0, .int .u8 0, .int .u8 0, .int .u8 0, .int .u8 0, .int .u8 0, .int .u8 0, .int .u8 0, .int .u8 0, .int .u8 0, .int .u8 0, .int .u8 0, .int .u8 0, .int .u8 0, .int .u8 0, .int .u8 0, .int .u8 0, .int .u8 0, .int .u8 0, .int .u8 0, .int .u8 0, .int .u8 0, .int .u8 0, .int .u8 0, .int .u8 0, .int .u8 0, .int .u8 0, .int .u8 0, .int .u8 0, .int .u8 0, .int .u8 0, .int .u8 0, .int .u8 0, .int .u8 0, .int .u8 0, .int .u8 0, .int .u8 0, .int .u8 0, .int .u8 0, .int .u8 0, .int .u8 0, .int .u8 0, .int .u8 0, .int .u8 0, .int .u8 0, .int .u8 0, .int .u8 0, .int .u8 0, .int .u8 0, .int .u8 0, .int .u8 0, .int .u8 0, .int .u8 0, .int .u8 0, .int .u8 0, .int .u8 0, .int .u8 0, .int .u8 0, .int .u8 0, .int .u8 0, .int .u8 0, .int .u8 0, .int .u8 0, .int .u8 0, .int .u8 0, .int .u8 0, .int .u8 0, .int .u8 0, .int .u8 0, .int .u8 0, .int .u8 0, .int .u8 0, .int .u8 0, .int .u8 0, .int .u8 0, .int .u8 0, .int .u8 0, .int .u8 0, .int .u8 0, .int .u8 0, .int .u8 0, .int .u8 0, .int .u8 0, .int .u8 0, .int .u8 0, .int .u8 0, .int .u8 0, .int .u8 0, .int .u8 0, .int .u8 0, .int .u8 0, .int .u8 0, .int .u8 0, .int .u8 0, .int .u8 0, .int .u8 0, .int .u8 0, .int .u8 0, .int .u8 0, .int .u8 0, .int .u8 0, .int .u8 0, .int .u8 0, .int .u8 0, .int .u8 0, .int .u8 0, .int .u8 0, .int .u8 0, .int .u8 0, .int .u8 0, .int .u8 0, .int .u8 0, .int .u8 0, .int .u8 0, .int .u8 0, .int .u8 0, .int .u8 0, .int .u8 0, .int .u8 0, .int .u8 0, .int .u8 0, .int .u8 0, .int .u8 0, .int .u8 0], none⟩),
  (91, ⟨.strct [(0, 5), (1, 5)], 2, 2, [.int .u8 0, .int .u8 0], none⟩),
  (92, ⟨.arr 16 91, 32, 32, [.int .u8 0, .int .u8 0, .int .u8 0, .int .u8 0, .int .u8 0, .int .u8 0, .int .u8 0, .int .u8 0, .int .u8 0, .int .u8 0, .int .u8 0, .int .u8 0, .int .u8 0, .int .u8 0, .int .u8 0, .int .u8 0, .int .u8 0, .int .u8 0, .int .u8 0, .int .u8 0, .int .u8 0, .int .u8 0, .int .u8 0, .int .u8 0, .int .u8 0, .int .u8 0, .int .u8 0, .int .u8 0, .int .u8 0, .int .u8 0, .int .u8 0, .int .u8 0], none⟩),
  (97, ⟨.strct [(0, 9), (1, 9), (2, 44)], 3, 48, [.str ⟨#[]⟩, .str ⟨#[]⟩, .opq .nilIface], none⟩),
  (100, ⟨.arr 20 80, 20, 160, [.int .u64 0, .int .u64 0, .int .u64 0, .int .u64 0, .int .u64 0, .int .u64 0, .int .u64 0, .int .u64 0, .int .u64 0, .int .u64 0, .int .u64 0, .int .u64 0, .int .u64 0, .int .u64 0, .int .u64 0, .int .u64 0, .int .u64 0, .int .u64 0, .int .u64 0, .int .u64 0], none⟩),
  (101, ⟨.arr 65 5, 65, 65, [.int .u8 0, .int .u8 0, .int .u8 0, .int .u8 0, .int .u8 0, .int .u8 0, .int .u8 0, .int .u8 0, .int .u8 0, .int .u8 0, .int .u8 0, .int .u8 0, .int .u8 0, .int .u8 0, .int .u8 0, .int .u8 0, .int .u8 0, .int .u8 0, .int .u8 0, .int .u8 0, .int .u8 0, .int .u8 0, .int .u8 0, .int .u8 0, .int .u8 0, .int .u8 0, .int .u8 0, .int .u8 0, .int .u8 0, .int .u8 0, .int .u8 0, .int .u8 0, .int .u8 0, .int .u8 0, .int .u8 0, .int .u8 0, .int .u8 0, .int .u8 0, .int .u8 0, .int .u8 0, .int .u8 0, .int .u8 0, .int .u8 0, .int .u8 0, .int .u8 0, .int .u8 0, .int .u8 0, .int .u8 0, .int .u8 0, .int .u8 0, .int .u8 0, .int .u8 0, .int .u8 0, .int .u8 0, .int .u8 0, .int .u8 0, .int .u8 0, .int .u8 0, .int .u8 0, .int .u8 0, .int .u8 0, .int .u8 0, .int .u8 0, .int .u8 0, .int .u8 0], none⟩),
  (107, ⟨.strct [(0, 9)], 1, 16, [.str ⟨#[]⟩], none⟩),
  (109, ⟨.arr 32 5, 32, 32, [.int .u8 0, .int .u8 0, .int .u8 0, .int .u8 0, .int .u8 0, .int .u8 0, .int .u8 0, .int .u8 0, .int .u8 0, .int .u8 0, .int .u8 0, .int .u8 0, .int .u8 0, .int .u8 0, .int .u8 0, .int .u8 0, .int .u8 0, .int .u8 0, .int .u8 0, .int .u8 0, .int .u8 0, .int .u8 0, .int .u8 0, .int .u8 0, .int .u8 0, .int .u8 0, .int .u8 0, .int .u8 0, .int .u8 0, .int .u8 0, .int .u8 0, .int .u8 0], none⟩),
  (110, ⟨.arr 64 5, 64, 64, [.int .u8 0, .int .u8 0, .int .u8 0, .int .u8 0, .int .u8 0, .int .u8 0, .int .u8 0, .int .u8 0, .int .u8 0, .int .u8 0, .int .u8 0, .int .u8 0, .int .u8 0, .int .u8 0, .int .u8 0, .int .u8 0, .int .u8 0, .int .u8 0, .int .u8 0, .int .u8 0, .int .u8 0, .int .u8 0, .int .u8 0, .int .u8 0, .int .u8 0, .int .u8 0, .int .u8 0, .int .u8 0, .int .u8 0, .int .u8 0, .int .u8 0, .int .u8 0, .int .u8 0, .int .u8 0, .int .u8 0, .int .u8 0, .int .u8 0, .int .u8 0, .int .u8 0, .int .u8 0, .int .u8 0, .int .u8 0, .int .u8 0, .int .u8 0, .int .u8 0, .int .u8 0, .int .u8 0, .int .u8 0, .int .u8 0, .int .u8 0, .int .u8 0, .int .u8 0, .int .u8 0, .int .u8 0, .int .u8 0, .int .u8 0, .int .u8 0, .int .u8 0, .int .u8 0, .int .u8 0, .int .u8 0, .int .u8 0, .int .u8 0, .int .u8 0], none⟩)]
def Θ : Tab := tabOf tabL
theorem tabOK : TabOK Tryd.prog Θ := tabOK_of (by kernel_rfl) (by kernel_rfl)
theorem mixed : Tryd.prog.follows .mixedOrders = true := by kernel_rfl
theorem TB {Γ : Glob} {f : FuncId} {fn : Func} {c : C} {rs : List RS} {args : List AV} {h : AH} {K : AV → AH → Prop} (hf : Tryd.prog.funcs[f]? = some fn) (code : Code)
    (hw : TC Tryd.prog Θ Γ c (retQ rs K) ⟨args ++ List.replicate (fn.ntmps - args.length) (.tup []), [], h⟩)
    (hb : fn.body = some code := by kernel_rfl) (hn : (fn.name == "runtime.NumGoroutine") = false := by kernel_rfl) (hc : trC Θ code = some c := by kernel_rfl) (hr : fn.results.toList.mapM (trR Θ) = some rs := by kernel_rfl) : T Tryd.prog Γ f args h K :=
  T_of_body tabOK hf hb hn hc hr hw
variable {Γ : Glob} {a0 a1 a2 a3 a4 a5 a6 a7 : AV} {h : AH} {K : AV → AH → Prop}
def kab_c : C := .seq (.reg [mT 0 false]) (.seq (.reg [mC 3 Fn.kac [],mV 1 3]) (.seq (.reg [mC 4 Fn.kaa [],mV 2 4]) (.seq (.seq (.reg [mV 5 2,mV 6 1,mB 7 .neq 5 6]) (.cond (.t 7) (.seq (.reg [mT 0 false]) .ret) .skip)) (.seq (.reg [mT 0 true]) .ret))))
def kab_r : List RS := [.t 0]
theorem kab_e (hw : TC Tryd.prog Θ Γ kab_c (retQ kab_r K) ⟨[u,u,u,u,u,u,u,u], [], h⟩) : T Tryd.prog Γ Fn.kab [] h K :=
  TB Tryd.func4 (bodyOf Tryd.f4) hw
def kac_c : C := .seq (.reg [⟨(some 0), none, .mov (.c (.str ⟨#[]⟩))⟩]) (.seq (.reg [⟨(some 0), none, .mov (.c (.str ⟨#[115, 99, 114, 105, 112, 116, 32, 99, 101, 108, 108, 10, 109, 101, 116, 104, 111, 100, 32, 103, 101, 116, 10, 115, 108, 111, 116, 32, 48, 32, 48, 10, 114, 101, 116, 117, 114, 110, 32, 48, 10, 109, 101, 116, 104, 111, 100, 32, 115, 101, 116, 10, 97, 114, 103, 32, 48, 32, 48, 10, 115, 101, 116, 32, 48, 32, 48, 10, 114, 101, 116, 117, 114, 110, 32, 48, 10, 109, 101, 116, 104, 111, 100, 32, 97, 100, 100, 10, 115, 108, 111, 116, 32, 48, 32, 48, 10, 97, 114, 103, 32, 49, 32, 48, 10, 97, 100, 100, 32, 48, 32, 48, 32, 49, 10, 115, 101, 116, 32, 48, 32, 48, 10, 114, 101, 116, 117, 114, 110, 32, 48, 10, 115, 99, 114, 105, 112, 116, 32, 103, 97, 116, 101, 10, 109, 101, 116, 104, 111, 100, 32, 103, 101, 116, 10, 115, 108, 111, 116, 32, 48, 32, 48, 10, 115, 101, 110, 100, 32, 49, 32, 48, 32, 103, 101, 116, 10, 114, 101, 116, 117, 114, 110, 32, 49, 10, 109, 101, 116, 104, 111, 100, 32, 97, 100, 100, 10, 115, 108, 111, 116, 32, 48, 32, 48, 10, 97, 114, 103, 32, 49, 32, 48, 10, 115, 101, 110, 100, 32, 50, 32, 48, 32, 97, 100, 100, 32, 49, 10, 114, 101, 116, 117, 114, 110, 32, 50, 10, 109, 101, 116, 104, 111, 100, 32, 99, 108, 111, 115, 101, 10, 99, 111, 110, 115, 116, 32, 48, 32, 48, 10, 115, 101, 116, 32, 48, 32, 48, 10, 114, 101, 116, 117, 114, 110, 32, 48, 10, 115, 99, 114, 105, 112, 116, 32, 109, 101, 116, 101, 114, 10, 109, 101, 116, 104, 111, 100, 32, 103, 101, 116, 10, 115, 108, 111, 116, 32, 49, 32, 48, 10, 114, 101, 116, 117, 114, 110, 32, 49, 10, 109, 101, 116, 104, 111, 100, 32, 97, 100, 100, 10, 115, 108, 111, 116, 32, 49, 32, 49, 10, 99, 111, 110, 115, 116, 32, 50, 32, 49, 10, 97, 100, 100, 32, 49, 32, 49, 32, 50, 10, 115, 101, 116, 32, 49, 32, 49, 10, 115, 108, 111, 116, 32, 48, 32, 48, 10, 97, 114, 103, 32, 51, 32, 48, 10, 115, 101, 110, 100, 32, 52, 32, 48, 32, 97, 100, 100, 32, 51, 10, 114, 101, 116, 117, 114, 110, 32, 52, 10, 109, 101, 116, 104, 111, 100, 32, 99, 111, 117, 110, 116, 10, 115, 108, 111, 116, 32, 48, 32, 49, 10, 114, 101, 116, 117, 114, 110, 32, 48, 10, 115, 99, 114, 105, 112, 116, 32, 109, 97, 107, 101, 114, 10, 109, 101, 116, 104, 111, 100, 32, 109, 97, 107, 101, 10, 97, 114, 103, 32, 48, 32, 48, 10, 110, 101, 119, 32, 49, 32, 103, 97, 116, 101, 32, 48, 10, 114, 101, 116, 117, 114, 110, 32, 49, 10]⟩))⟩]) .ret)
def kac_r : List RS := [.t 0]
theorem kac_e (hw : TC Tryd.prog Θ Γ kac_c (retQ kac_r K) ⟨[u], [], h⟩) : T Tryd.prog Γ Fn.kac [] h K :=
  TB Tryd.func9 (bodyOf Tryd.f9) hw
end Go.Proofs.YteaebikmfmggbaaDoor
