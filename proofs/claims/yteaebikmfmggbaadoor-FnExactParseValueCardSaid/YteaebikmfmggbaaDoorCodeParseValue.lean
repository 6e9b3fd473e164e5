import Derived.Test.YteaebikmfmggbaaDoorProg
import Derived.Test.YteaebikmfmggbaaDoorAmLib
set_option linter.unusedVariables false
set_option linter.unusedSimpArgs false
namespace Go.Proofs.YteaebikmfmggbaaDoor
open Go.AM
abbrev mV (d s : Nat) : O := ⟨some d, none, .mov (.t s)⟩
abbrev mF (d k s : Nat) : O := ⟨some d, none, .fld k (.t s)⟩
abbrev mL (d k s : Nat) : O := ⟨some d, none, .load k false (.t s)⟩
abbrev mG (d k s : Nat) : O := ⟨some d, none, .load k true (.t s)⟩
abbrev mX (d k s i : Nat) : O := ⟨some d, none, .idxs k (.t s) (.t i)⟩
abbrev mS (k s i : Nat) : O := ⟨none, none, .store k (.t s) (.t i)⟩
abbrev mC (d : Nat) (f : FuncId) (l : List X) : O := ⟨some d, none, .call (.c (.fn f [] [])) l⟩
abbrev mB (d : Nat) (o : Go.BinOp) (s i : Nat) : O := ⟨some d, none, .bin o .num (.t s) (.t i)⟩
abbrev mI (d : Nat) (o : Go.BinOp) (s : Nat) (k : Int) : O := ⟨some d, none, .bin o .num (.t s) (.c (.int .i64 k))⟩
abbrev mK (d : Nat) (k : Int) : O := ⟨some d, none, .mov (.c (.int .i64 k))⟩
abbrev mT (d : Nat) (k : Bool) : O := ⟨some d, none, .mov (.c (.bool k))⟩
abbrev mN (d s : Nat) : O := ⟨some d, none, .len false (.t s)⟩
abbrev mA (d s : Nat) : O := ⟨some d, none, .box (.t s)⟩
abbrev mU (d s : Nat) : O := ⟨some d, none, .un .not (.t s)⟩
namespace Fn
abbrev kah : FuncId := 5
abbrev kam : FuncId := 11
abbrev kae : FuncId := 12
abbrev kai : FuncId := 13
abbrev kak : FuncId := 14
abbrev kaj : FuncId := 21
abbrev kal : FuncId := 22
abbrev kaa : FuncId := 23
abbrev kaq : FuncId := 24
abbrev kad : FuncId := 25
abbrev kaf : FuncId := 26
abbrev kab : FuncId := 27
abbrev kap : FuncId := 28
abbrev kan : FuncId := 33
abbrev kao : FuncId := 35
abbrev kac : FuncId := 36
abbrev kag : FuncId := 48
end Fn
namespace Gn
abbrev g0 : Nat := 0
abbrev g1 : Nat := 1
abbrev g2 : Nat := 2
abbrev g3 : Nat := 3
abbrev g4 : Nat := 4
abbrev g5 : Nat := 5
abbrev g6 : Nat := 6
abbrev g7 : Nat := 7
end Gn
def tabL : List (Nat × TI) := [
  (2, ⟨.int .i64, 1, 8, [.int .i64 0], none⟩),
  (3, ⟨.int .i64, 1, 8, [.int .i64 0], none⟩),
  (4, ⟨.bool, 1, 1, [.bool false], none⟩),
  (5, ⟨.int .u8, 1, 1, [.int .u8 0], none⟩),
  (9, ⟨.str, 1, 16, [.str ⟨#[]⟩], none⟩),
  (21, ⟨.int .i32, 1, 4, [.int .i32 0], none⟩),
  (23, ⟨.strct [(0, 3), (1, 3)], 2, 16, [.int .i64 0,.int .i64 0], none⟩),
  (25, ⟨.strct [(0, 3), (1, 3)], 2, 16, [.int .i64 0,.int .i64 0], none⟩),
  (35, ⟨.ptr 38, 1, 8, [.nilp], none⟩),
  (36, ⟨.slice 5, 1, 24, [.nils], none⟩),
  (38, ⟨.strct [(0, 35), (1, 36)], 2, 32, [.nilp, .nils], none⟩),
  (39, ⟨.slice 9, 1, 24, [.nils], none⟩),
  (44, ⟨.iface, 1, 16, [.opq .nilIface], none⟩),
  (56, ⟨.ptr 5, 1, 8, [.nilp], none⟩),
  (61, ⟨.other, 1, 8, [.nilp], none⟩),
  (72, ⟨.int .u64, 1, 8, [.int .u64 0], none⟩),
  (79, ⟨.arr 24 5, 24, 24, [.int .u8 0, .int .u8 0, .int .u8 0, .int .u8 0, .int .u8 0, .int .u8 0, .int .u8 0, .int .u8 0, .int .u8 0, .int .u8 0, .int .u8 0, .int .u8 0, .int .u8 0, .int .u8 0, .int .u8 0, .int .u8 0, .int .u8 0, .int .u8 0, .int .u8 0, .int .u8 0, .int .u8 0, .int .u8 0, .int .u8 0, .int .u8 0], none⟩),
  (80, ⟨.int .u64, 1, 8, [.int .u64 0], none⟩),
  (85, ⟨.int .u32, 1, 4, [.int .u32 0], none⟩),
  (89, ⟨.arr 256 5, 256, 256, [.int .u8 0, .int .u8 0, .int .u8 0, .int .u8 0, .int .u8 0, .int .u8 0, .int .u8 0, .int .u8 0, .int .u8 0, .int .u8 0, .int .u8 0, .int .u8 0, .int .u8 0, .int .u8 0, .int .u8 0, .int .u8 0, .int .u8 0, .int .u8 0, .int .u8 0, .int .u8 0, .int .u8 0, .int .u8 0, .int .u8 0, .int .u8 0, .int .u8 0, .int .u8 0, .int .u8 0, .int .u8 0, .int .u8 0, .int .u8 0, .int .u8 0, .int .u8 0, .int .u8 0, .int .u8 0, .int .u8 0, .int .u8 0, .int .u8 0, .int .u8 0, .int .u8 0, .int .u8 0, .int .u8 0, .int .u8 0, .int .u8 0, .int .u8 0, .int .u8 0, .int .u8 0, .int .u8 0, .int .u8 0, .int .u8 0, .int .u8 0, .int .u8 0, .int .u8 0, .int .u8 0, .int .u8 0, .int .u8 0, .int .u8 0, .int .u8 0, .int .u8 0, .int .u8 0, .int .u8 0, .int .u8 0, .int .u8 0, .int .u8 0, .int .u8 0, .int .u8 0, .int .u8 0, .int .u8 0, .int .u8 0, .int .u8 0, .int .u8 0, .int .u8 0, .int .u8 0, .int .u8 0, .int .u8 0, .int .u8 0, .int .u8 0, .int .u8 0, .int .u8 0, .int .u8 0, .int .u8 0, .int .u8 0, .int .u8 0, .int .u8 0, .int .u8 0, .int .u8 0, .int .u8 0, .int .u8 0, .int .u8 0, .int .u8 0, .int .u8 0, .int .u8 0, .int .u8 0, .int .u8 0, .int .u8 0, .int .u8 0, .int .u8 0, .int .u8 0, .int .u8 0, .int .u8 0, .int .u8 0, .int .u8 0, .int .u8 0, .int .u8 0, .int .u8 0, .int .u8 0, .int .u8 0, .int .u8 0, .int .u8 0, .int .u8 0, .int .u8 0, .int .u8 0, .int .u8 0, .int .u8 0, .int .u8 0, .int .u8 0, .int .u8 0, .int .u8 0, .int .u8 0, .int .u8 0, .int .u8 0, .int .u8 0, .int .u8 0, .int .u8 0, .int .u8 0, .int .u8 0, .int .u8 0, .int .u8 0, .int .u8 0, .int .u8 0, .int .u8 0, .int .u8 0, .int .u8 0, .int .u8 0, .int .u8 0, .int .u8 0, .int .u8 0, .int .u8 0, .int .u8 0, .int .u8 0, .int .u8 0, .int .u8 0, .int .u8 0, .int .u8 0, .int .u8 0, .int .u8 0, .int .u8 0, .int .u8 0, .int .u8 0, .int .u8 0, .int .u8 0, .int .u8 0, .int .u8 0, .int .u8 0, .int .u8 0, .int .u8 0, .int .u8 0, .int .u8 0, .int .u8 0, .int .u8 0, .int .u8 0, .int .u8 0, .int .u8 0, .int .u8 0, .int .u8 0, .int .u8 0, .int .u8 0, .int .u8 0, .int .u8 0, .int .u8 0, .int .u8 0, .int .u8 0, .int .u8 0, .int .u8 0, .int .u8 0, .int .u8 0, .int .u8 0, .int .u8 0, .int .u8 0, .int .u8 0, .int .u8 0, .int .u8 0, .int .u8 0, .int .u8 0, .int .u8 0, .int .u8 0, .int .u8 0, .int .u8 0, .int .u8 0, .int .u8 0, .int .u8 0, .int .u8 0, .int .u8 0, .int .u8 0, .int .u8 0, .int .u8 0, .int .u8 0, .int .u8 0, .int .u8 0, .int .u8 0, .int .u8 0, .int .u8 0, .int .u8 0, .int .u8 0, .int .u8 0, .int .u8 0, .int .u8 0, .int .u8 0, .int .u8 0, .int .u8 0, .int .u8 0, .int .u8 0, .int .u8 0, .int .u8 0, .int .u8 0, .int .u8 0, .int .u8 0, .int .u8 0, .int .u8 0, .int .u8 0, .int .u8 0, .int .u8 0, .int .u8 0, .int .u8 0, .int .u8 0, .int .u8 0, .int .u8 0, .int .u8 0, .int .u8 0, .int .u8 0, .int .u8 0, .int .u8 0, .int .u8 0, .int .u8 0, .int .u8 0, .int .u8 0, .int .u8 0, .int .u8 0, .int .u8 0, .int .u8 0, .int .u8 0, .int .u8 0, .int .u8 0, .int .u8 0, .int .u8 0, .int .u8 0, .int .u8 0, .int .u8 0, .int .u8 0, .int .u8 0, .int .u8 0, .int .u8 0, .int .u8 0, .int .u8 0, .int .u8 0, .int .u8 0, .int .u8 0], none⟩),
  (91, ⟨.strct [(0, 5), (1, 5)], 2, 2, [.int .u8 0, .int .u8 0], none⟩),
  (92, ⟨.arr 16 91, 32, 32, [.int .u8 0, .int .u8 0, .int .u8 0, .int .u8 0, .int .u8 0, .int .u8 0, .int .u8 0, .int .u8 0, .int .u8 0, .int .u8 0, .int .u8 0, .int .u8 0, .int .u8 0, .int .u8 0, .int .u8 0, .int .u8 0, .int .u8 0, .int .u8 0, .int .u8 0, .int .u8 0, .int .u8 0, .int .u8 0, .int .u8 0, .int .u8 0, .int .u8 0, .int .u8 0, .int .u8 0, .int .u8 0, .int .u8 0, .int .u8 0, .int .u8 0, .int .u8 0], none⟩),
  (97, ⟨.strct [(0, 9), (1, 9), (2, 44)], 3, 48, [.str ⟨#[]⟩, .str ⟨#[]⟩, .opq .nilIface], none⟩),
  (100, ⟨.arr 20 80, 20, 160, [.int .u64 0, .int .u64 0, .int .u64 0, .int .u64 0, .int .u64 0, .int .u64 0, .int .u64 0, .int .u64 0, .int .u64 0, .int .u64 0, .int .u64 0, .int .u64 0, .int .u64 0, .int .u64 0, .int .u64 0, .int .u64 0, .int .u64 0, .int .u64 0, .int .u64 0, .int .u64 0], none⟩),
  (101, ⟨.arr 65 5, 65, 65, [.int .u8 0, .int .u8 0, .int .u8 0, .int .u8 0, .int .u8 0, .int .u8 0, .int .u8 0, .int .u8 0, .int .u8 0, .int .u8 0, .int .u8 0, .int .u8 0, .int .u8 0, .int .u8 0, .int .u8 0, .int .u8 0, .int .u8 0, .int .u8 0, .int .u8 0, .int .u8 0, .int .u8 0, .int .u8 0, .int .u8 0, .int .u8 0, .int .u8 0, .int .u8 0, .int .u8 0, .int .u8 0, .int .u8 0, .int .u8 0, .int .u8 0, .int .u8 0, .int .u8 0, .int .u8 0, .int .u8 0, .int .u8 0, .int .u8 0, .int .u8 0, .int .u8 0, .int .u8 0, .int .u8 0, .int .u8 0, .int .u8 0, .int .u8 0, .int .u8 0, .int .u8 0, .int .u8 0, .int .u8 0, .int .u8 0, .int .u8 0, .int .u8 0, .int .u8 0, .int .u8 0, .int .u8 0, .int .u8 0, .int .u8 0, .int .u8 0, .int .u8 0, .int .u8 0, .int .u8 0, .int .u8 0, .int .u8 0, .int .u8 0, .int .u8 0, .int .u8 0], none⟩),
  (107, ⟨.strct [(0, 9)], 1, 16, [.str ⟨#[]⟩], none⟩),
  (109, ⟨.arr 32 5, 32, 32, [.int .u8 0, .int .u8 0, .int .u8 0, .int .u8 0, .int .u8 0, .int .u8 0, .int .u8 0, .int .u8 0, .int .u8 0, .int .u8 0, .int .u8 0, .int .u8 0, .int .u8 0, .int .u8 0, .int .u8 0, .int .u8 0, .int .u8 0, .int .u8 0, .int .u8 0, .int .u8 0, .int .u8 0, .int .u8 0, .int .u8 0, .int .u8 0, .int .u8 0, .int .u8 0, .int .u8 0, .int .u8 0, .int .u8 0, .int .u8 0, .int .u8 0, .int .u8 0], none⟩),
  (110, ⟨.arr 64 5, 64, 64, [.int .u8 0, .int .u8 0, .int .u8 0, .int .u8 0, .int .u8 0, .int .u8 0, .int .u8 0, .int .u8 0, .int .u8 0, .int .u8 0, .int .u8 0, .int .u8 0, .int .u8 0, .int .u8 0, .int .u8 0, .int .u8 0, .int .u8 0, .int .u8 0, .int .u8 0, .int .u8 0, .int .u8 0, .int .u8 0, .int .u8 0, .int .u8 0, .int .u8 0, .int .u8 0, .int .u8 0, .int .u8 0, .int .u8 0, .int .u8 0, .int .u8 0, .int .u8 0, .int .u8 0, .int .u8 0, .int .u8 0, .int .u8 0, .int .u8 0, .int .u8 0, .int .u8 0, .int .u8 0, .int .u8 0, .int .u8 0, .int .u8 0, .int .u8 0, .int .u8 0, .int .u8 0, .int .u8 0, .int .u8 0, .int .u8 0, .int .u8 0, .int .u8 0, .int .u8 0, .int .u8 0, .int .u8 0, .int .u8 0, .int .u8 0, .int .u8 0, .int .u8 0, .int .u8 0, .int .u8 0, .int .u8 0, .int .u8 0, .int .u8 0, .int .u8 0], none⟩)]
def Θ : Tab := tabOf tabL
theorem tabOK : TabOK Tryd.prog Θ := tabOK_of (by kernel_rfl) (by kernel_rfl)
theorem mixed : Tryd.prog.follows .mixedOrders = true := by kernel_rfl
theorem TB {Γ : Glob} {f : FuncId} {fn : Func} {c : C} {rs : List RS} {args : List AV} {h : AH} {K : AV → AH → Prop} (hf : Tryd.prog.funcs[f]? = some fn) (code : Code)
    (hw : TC Tryd.prog Θ Γ c (retQ rs K) ⟨args ++ List.replicate (fn.ntmps - args.length) (.tup []), [], h⟩)
    (hb : fn.body = some code := by kernel_rfl) (hn : (fn.name == "runtime.NumGoroutine") = false := by kernel_rfl) (hc : trC Θ code = some c := by kernel_rfl) (hr : fn.results.toList.mapM (trR Θ) = some rs := by kernel_rfl) : T Tryd.prog Γ f args h K :=
  T_of_body tabOK hf hb hn hc hr hw
variable {Γ : Glob} {a0 a1 a2 a3 a4 a5 a6 a7 : AV} {h : AH} {K : AV → AH → Prop}
def kah_c : C := .seq (.reg [mT 2 false]) (.seq (.seq (.reg [mV 7 0,⟨(some 8), none, .len true (.t 7)⟩,mI 9 .gtr 8 1048576]) (.cond (.t 9) (.seq (.reg [mT 2 true]) .ret) .skip)) (.seq (.reg [mV 11 0,mC 12 Fn.kam [.t 11],mV 10 12,⟨(some 13), none, .extr (.t 10) 0⟩,⟨(some 14), none, .extr (.t 10) 1⟩,⟨(some 3), none, .alloc [.int .i64 0,.int .i64 0]⟩,mS 2 3 13,mV 4 14]) (.seq (.reg [mV 16 0,mC 17 Fn.kae [.t 16],mV 15 17,⟨(some 18), none, .extr (.t 15) 0⟩,⟨(some 19), none, .extr (.t 15) 1⟩,⟨(some 5), none, .alloc [.int .i64 0,.int .i64 0]⟩,mS 2 5 18,mV 6 19]) (.seq (.seq (.reg [mG 20 2 5,mG 21 2 3,mC 22 Fn.kai [.t 20, .t 21],mU 23 22,mV 24 23,⟨(some 25), (some (4, false)), .mov (.t 6)⟩,⟨(some 26), (some (4, false)), .mov (.t 4)⟩,⟨(some 27), (some (4, false)), .bin .neq (.bool) (.t 25) (.t 26)⟩,⟨(some 28), none, .pick (.t 24) (.c (.bool true)) (.t 27)⟩]) (.cond (.t 28) (.seq (.reg [mT 2 false]) .ret) .skip)) (.seq (.reg [mT 2 true]) .ret)))))
def kah_r : List RS := [.t 2]
theorem kah_e (hw : TC Tryd.prog Θ Γ kah_c (retQ kah_r K) ⟨[a0, u,u,u,u,u,u,u,u,u,u,u,u,u,u,u,u,u,u,u,u,u,u,u,u,u,u,u,u], [], h⟩) : T Tryd.prog Γ Fn.kah [a0] h K :=
  TB Tryd.func5 (bodyOf Tryd.f5) hw
def kam_c : C := .seq (.reg [⟨(some 2), none, .alloc [.int .i64 0,.int .i64 0]⟩,mT 3 false]) (.seq (.reg [⟨(some 7), none, .build [.int .i64 0,.int .i64 0] []⟩,⟨(some 4), none, .alloc [.int .i64 0,.int .i64 0]⟩,mS 2 4 7]) (.seq (.block 0 (.seq (.reg [mV 9 0,⟨(some 10), none, .bin .eql (.num) (.t 9) (.c (.str ⟨#[33]⟩))⟩,mV 8 10]) (.cond (.t 8) (.seq (.reg [mC 11 Fn.kaj [],mS 2 2 11,mT 3 true]) .ret) (.seq (.reg [mV 13 0,⟨(some 14), none, .len true (.t 13)⟩,mI 15 .gtr 14 1,mV 16 15,⟨(some 17), (some (3, true)), .mov (.t 0)⟩,⟨(some 18), (some (3, true)), .idxstr (.t 17) (.c (.int .i64 0))⟩,⟨(some 19), (some (3, true)), .bin .eql (.num) (.t 18) (.c (.int .u8 64))⟩,⟨(some 20), none, .pick (.t 16) (.t 19) (.c (.bool false))⟩,mV 12 20]) (.cond (.t 12) (.seq (.reg [mF 21 0 4,⟨none, none, .store 1 (.t 21) (.c (.int .i64 1))⟩]) (.reg [mV 22 0,⟨(some 23), none, .slice .str (.t 22) (some (.c (.int .i64 1))) none none⟩,mV 0 23])) .skip))))) (.seq (.reg [mV 25 0,mC 26 Fn.kal [.t 25],mV 24 26,⟨(some 27), none, .extr (.t 24) 0⟩,⟨(some 28), none, .extr (.t 24) 1⟩,mV 5 27,mV 6 28]) (.seq (.seq (.reg [mV 29 6,mU 30 29,mV 31 30,⟨(some 32), (some (2, false)), .mov (.t 5)⟩,⟨(some 33), (some (2, false)), .bin .gtr (.num) (.t 32) (.c (.int .i64 999999))⟩,⟨(some 34), none, .pick (.t 31) (.c (.bool true)) (.t 33)⟩]) (.cond (.t 34) (.seq (.reg [⟨(some 35), none, .build [.int .i64 0,.int .i64 0] []⟩,mS 2 2 35,mT 3 false]) .ret) .skip)) (.seq (.reg [mV 36 5,mF 37 1 4,mS 1 37 36]) (.seq (.reg [mG 38 2 4,mS 2 2 38,mT 3 true]) .ret))))))
def kam_r : List RS := [.cell 2 2 true, .t 3]
theorem kam_e (hw : TC Tryd.prog Θ Γ kam_c (retQ kam_r K) ⟨[a0, u,u,u,u,u,u,u,u,u,u,u,u,u,u,u,u,u,u,u,u,u,u,u,u,u,u,u,u,u,u,u,u,u,u,u,u,u,u], [], h⟩) : T Tryd.prog Γ Fn.kam [a0] h K :=
  TB Tryd.func11 (bodyOf Tryd.f11) hw
def kae_c : C := .seq (.reg [⟨(some 2), none, .alloc [.int .i64 0,.int .i64 0]⟩,mT 3 false]) (.seq (.seq (.reg [mV 8 0,⟨(some 9), none, .bin .eql (.num) (.t 8) (.c (.str ⟨#[33]⟩))⟩]) (.cond (.t 9) (.seq (.reg [mC 10 Fn.kaa [],mS 2 2 10,mT 3 true]) .ret) .skip)) (.seq (.reg [mV 12 0,⟨(some 13), none, .call (.c (.fn Fn.kaq [] [])) [.t 12, .c (.str ⟨#[64]⟩)]⟩,mV 11 13,⟨(some 14), none, .extr (.t 11) 0⟩,⟨(some 15), none, .extr (.t 11) 1⟩,mV 4 14,mV 5 15]) (.seq (.reg [mV 17 4,mC 18 Fn.kad [.t 17],mV 16 18,⟨(some 19), none, .extr (.t 16) 0⟩,⟨(some 20), none, .extr (.t 16) 1⟩,mV 6 19,mV 7 20]) (.seq (.block 0 (.seq (.reg [mV 22 7,mU 23 22,mV 24 23,⟨(some 25), (some (2, false)), .mov (.t 6)⟩,⟨(some 26), (some (2, false)), .bin .gtr (.num) (.t 25) (.c (.int .i64 999999))⟩,⟨(some 27), none, .pick (.t 24) (.c (.bool true)) (.t 26)⟩,mV 21 27]) (.cond (.t 21) (.seq (.reg [⟨(some 28), none, .build [.int .i64 0,.int .i64 0] []⟩,mS 2 2 28,mT 3 false]) .ret) (.seq (.reg [mV 30 5,mV 29 30]) (.cond (.t 29) (.seq (.reg [mV 31 6,mC 32 Fn.kaf [.t 31],mS 2 2 32,mT 3 true]) .ret) .skip))))) (.seq (.reg [mV 33 6,mC 34 Fn.kab [.t 33],mS 2 2 34,mT 3 true]) .ret)))))
def kae_r : List RS := [.cell 2 2 true, .t 3]
theorem kae_e (hw : TC Tryd.prog Θ Γ kae_c (retQ kae_r K) ⟨[a0, u,u,u,u,u,u,u,u,u,u,u,u,u,u,u,u,u,u,u,u,u,u,u,u,u,u,u,u,u,u,u,u,u,u], [], h⟩) : T Tryd.prog Γ Fn.kae [a0] h K :=
  TB Tryd.func12 (bodyOf Tryd.f12) hw
def kai_c : C := .seq (.reg [mA 2 0,mA 3 1,mT 4 false]) (.seq (.seq (.reg [mF 5 0 2,mL 6 1 5,mF 7 0 3,mL 8 1 7,mB 9 .neq 6 8]) (.cond (.t 9) (.seq (.reg [mT 4 false]) .ret) .skip)) (.seq (.seq (.reg [mF 10 1 2,mL 11 1 10,mF 12 1 3,mL 13 1 12,mB 14 .neq 11 13]) (.cond (.t 14) (.seq (.reg [mT 4 false]) .ret) .skip)) (.seq (.reg [mT 4 true]) .ret)))
def kai_r : List RS := [.t 4]
theorem kai_e (hw : TC Tryd.prog Θ Γ kai_c (retQ kai_r K) ⟨[a0, a1, u,u,u,u,u,u,u,u,u,u,u,u,u], [], h⟩) : T Tryd.prog Γ Fn.kai [a0, a1] h K :=
  TB Tryd.func13 (bodyOf Tryd.f13) hw
def kak_c : C := .seq (.reg [⟨(some 2), none, .mov (.c (.str ⟨#[]⟩))⟩]) (.seq (.seq (.reg [mV 6 0,mI 7 .eql 6 0]) (.cond (.t 7) (.seq (.reg [⟨(some 2), none, .mov (.c (.str ⟨#[48]⟩))⟩]) .ret) .skip)) (.seq (.reg [⟨(some 3), none, .mov (.c (.str ⟨#[]⟩))⟩]) (.seq (.seq (.reg [mV 8 0,mV 4 8]) (.block 0 (.loop (.seq (.seq (.reg [mV 9 4,mI 10 .neq 9 0]) (.cond (.t 10) .skip (.exit 0))) (.seq (.block 1 (.seq (.reg [mV 13 4,mI 14 .rem 13 10,mV 5 14]) (.seq (.seq (.reg [mV 15 5,mI 16 .lss 15 0]) (.cond (.t 16) (.reg [mV 17 5,⟨(some 18), none, .un .neg (.t 17)⟩,mV 5 18]) .skip)) (.reg [mV 19 5,⟨(some 20), none, .bin .add (.num) (.c (.int .i64 48)) (.t 19)⟩,⟨(some 21), none, .cvi .u8 (.t 20)⟩,⟨(some 22), none, .bsl 1 1 [.int .u8 0] [(0, .t 21)]⟩,⟨(some 23), none, .cvt (.t 22)⟩,mV 24 3,mB 25 .add 23 24,mV 3 25])))) (.reg [mV 11 4,mI 12 .quo 11 10,mV 4 12])))))) (.seq (.seq (.reg [mV 26 0,mI 27 .lss 26 0]) (.cond (.t 27) (.seq (.reg [mV 28 3,⟨(some 29), none, .bin .add (.num) (.c (.str ⟨#[45]⟩)) (.t 28)⟩,mV 2 29]) .ret) .skip)) (.seq (.reg [mV 30 3,mV 2 30]) .ret)))))
def kak_r : List RS := [.t 2]
def kak_s0 (t0 t3 t4 : AV) (loc : List (List AV)) (h : AH) : St := ⟨[t0, .any,.any, t3, t4, .any,.any,.any,.any,.any,.any,.any,.any,.any,.any,.any,.any,.any,.any,.any,.any,.any,.any,.any,.any,.any,.any,.any,.any,.any,.any], loc, h⟩
theorem kak_e (hw : TC Tryd.prog Θ Γ kak_c (retQ kak_r K) ⟨[a0, u,u,u,u,u,u,u,u,u,u,u,u,u,u,u,u,u,u,u,u,u,u,u,u,u,u,u,u,u,u], [], h⟩) : T Tryd.prog Γ Fn.kak [a0] h K :=
  TB Tryd.func14 (bodyOf Tryd.f14) hw
def kaj_c : C := .seq (.reg [⟨(some 0), none, .alloc [.int .i64 0,.int .i64 0]⟩]) (.seq (.reg [⟨(some 1), none, .build [.int .i64 0,.int .i64 0] [(0, 1, .c (.int .i64 2))]⟩,mS 2 0 1]) .ret)
def kaj_r : List RS := [.cell 0 2 true]
theorem kaj_e (hw : TC Tryd.prog Θ Γ kaj_c (retQ kaj_r K) ⟨[u,u], [], h⟩) : T Tryd.prog Γ Fn.kaj [] h K :=
  TB Tryd.func21 (bodyOf Tryd.f21) hw
def kal_c : C := .seq (.reg [mK 2 0,mT 3 false]) (.seq (.seq (.reg [mV 6 0,⟨(some 7), none, .len true (.t 6)⟩,mC 8 Fn.kan [.t 7, .c (.int .i64 1), .c (.int .i64 13)],mU 9 8]) (.cond (.t 9) (.seq (.reg [mK 2 0,mT 3 false]) .ret) .skip)) (.seq (.reg [mK 4 0]) (.seq (.seq (.reg [mK 5 0]) (.block 0 (.loop (.seq (.seq (.reg [mV 10 5,mV 11 0,⟨(some 12), none, .len true (.t 11)⟩,mB 13 .lss 10 12]) (.cond (.t 13) .skip (.exit 0))) (.seq (.block 1 (.seq (.seq (.reg [mV 16 0,mV 17 5,⟨(some 18), none, .idxstr (.t 16) (.t 17)⟩,⟨(some 19), none, .cvi .i64 (.t 18)⟩,mC 20 Fn.kan [.t 19, .c (.int .i64 48), .c (.int .i64 57)],mU 21 20]) (.cond (.t 21) (.seq (.reg [mK 2 0,mT 3 false]) .ret) .skip)) (.reg [mV 22 4,⟨(some 23), none, .bin .mul (.num) (.c (.int .i64 10)) (.t 22)⟩,mV 24 0,mV 25 5,⟨(some 26), none, .idxstr (.t 24) (.t 25)⟩,⟨(some 27), none, .bin .sub (.num) (.t 26) (.c (.int .u8 48))⟩,⟨(some 28), none, .cvi .i64 (.t 27)⟩,mB 29 .add 23 28,mV 4 29]))) (.reg [mV 14 5,mI 15 .add 14 1,mV 5 15])))))) (.seq (.seq (.reg [mV 30 4,mI 31 .gtr 30 1000000000000,mV 32 31,⟨(some 33), (some (2, false)), .mov (.t 4)⟩,⟨(some 34), (some (2, false)), .call (.c (.fn Fn.kak [] [])) [.t 33]⟩,⟨(some 35), (some (2, false)), .mov (.t 0)⟩,⟨(some 36), (some (2, false)), .bin .neq (.num) (.t 34) (.t 35)⟩,⟨(some 37), none, .pick (.t 32) (.c (.bool true)) (.t 36)⟩]) (.cond (.t 37) (.seq (.reg [mK 2 0,mT 3 false]) .ret) .skip)) (.seq (.reg [mV 38 4,mV 2 38,mT 3 true]) .ret)))))
def kal_r : List RS := [.t 2, .t 3]
def kal_s0 (t0 t4 t5 : AV) (loc : List (List AV)) (h : AH) : St := ⟨[t0, .any,.any,.any, t4, t5, .any,.any,.any,.any,.any,.any,.any,.any,.any,.any,.any,.any,.any,.any,.any,.any,.any,.any,.any,.any,.any,.any,.any,.any,.any,.any,.any,.any,.any,.any,.any,.any,.any], loc, h⟩
theorem kal_e (hw : TC Tryd.prog Θ Γ kal_c (retQ kal_r K) ⟨[a0, u,u,u,u,u,u,u,u,u,u,u,u,u,u,u,u,u,u,u,u,u,u,u,u,u,u,u,u,u,u,u,u,u,u,u,u,u,u], [], h⟩) : T Tryd.prog Γ Fn.kal [a0] h K :=
  TB Tryd.func22 (bodyOf Tryd.f22) hw
def kaa_c : C := .seq (.reg [⟨(some 0), none, .alloc [.int .i64 0,.int .i64 0]⟩]) (.seq (.reg [⟨(some 1), none, .build [.int .i64 0,.int .i64 0] [(0, 1, .c (.int .i64 2))]⟩,mS 2 0 1]) .ret)
def kaa_r : List RS := [.cell 0 2 true]
theorem kaa_e (hw : TC Tryd.prog Θ Γ kaa_c (retQ kaa_r K) ⟨[u,u], [], h⟩) : T Tryd.prog Γ Fn.kaa [] h K :=
  TB Tryd.func23 (bodyOf Tryd.f23) hw
def kad_c : C := .seq (.reg [mK 2 0,mT 3 false]) (.seq (.reg [mV 7 0,mC 8 Fn.kao [.t 7],mV 6 8,⟨(some 9), none, .extr (.t 6) 0⟩,⟨(some 10), none, .extr (.t 6) 1⟩,mV 4 9,mV 5 10]) (.seq (.seq (.reg [mV 11 5,⟨(some 12), none, .bin .neq (.iface) (.t 11) (.c (.opq .nilIface))⟩,mV 13 12,⟨(some 14), (some (2, false)), .mov (.t 4)⟩,⟨(some 15), (some (2, false)), .bin .lss (.num) (.t 14) (.c (.int .i64 0))⟩,⟨(some 16), none, .pick (.t 13) (.c (.bool true)) (.t 15)⟩,mV 17 16,⟨(some 18), (some (6, false)), .mov (.t 4)⟩,⟨(some 19), (some (6, false)), .bin .gtr (.num) (.t 18) (.c (.int .i64 1000000000000))⟩,⟨(some 20), none, .pick (.t 17) (.c (.bool true)) (.t 19)⟩,mV 21 20,⟨(some 22), (some (10, false)), .mov (.t 4)⟩,⟨(some 23), (some (10, false)), .call (.c (.fn Fn.kap [] [])) [.t 22]⟩,⟨(some 24), (some (10, false)), .mov (.t 0)⟩,⟨(some 25), (some (10, false)), .bin .neq (.num) (.t 23) (.t 24)⟩,⟨(some 26), none, .pick (.t 21) (.c (.bool true)) (.t 25)⟩]) (.cond (.t 26) (.seq (.reg [mK 2 0,mT 3 false]) .ret) .skip)) (.seq (.reg [mV 27 4,mV 2 27,mT 3 true]) .ret)))
def kad_r : List RS := [.t 2, .t 3]
theorem kad_e (hw : TC Tryd.prog Θ Γ kad_c (retQ kad_r K) ⟨[a0, u,u,u,u,u,u,u,u,u,u,u,u,u,u,u,u,u,u,u,u,u,u,u,u,u,u,u], [], h⟩) : T Tryd.prog Γ Fn.kad [a0] h K :=
  TB Tryd.func25 (bodyOf Tryd.f25) hw
def kaf_c : C := .seq (.reg [⟨(some 2), none, .alloc [.int .i64 0,.int .i64 0]⟩]) (.seq (.reg [mV 3 0,⟨(some 4), none, .build [.int .i64 0,.int .i64 0] [(0, 1, .c (.int .i64 1)), (1, 1, .t 3)]⟩,mS 2 2 4]) .ret)
def kaf_r : List RS := [.cell 2 2 true]
theorem kaf_e (hw : TC Tryd.prog Θ Γ kaf_c (retQ kaf_r K) ⟨[a0, u,u,u,u], [], h⟩) : T Tryd.prog Γ Fn.kaf [a0] h K :=
  TB Tryd.func26 (bodyOf Tryd.f26) hw
def kab_c : C := .seq (.reg [⟨(some 2), none, .alloc [.int .i64 0,.int .i64 0]⟩]) (.seq (.reg [mV 3 0,mC 4 Fn.kac [.t 3, .c (.int .i64 1000000)],⟨(some 5), none, .build [.int .i64 0,.int .i64 0] [(0, 1, .c (.int .i64 0)), (1, 1, .t 4)]⟩,mS 2 2 5]) .ret)
def kab_r : List RS := [.cell 2 2 true]
theorem kab_e (hw : TC Tryd.prog Θ Γ kab_c (retQ kab_r K) ⟨[a0, u,u,u,u,u], [], h⟩) : T Tryd.prog Γ Fn.kab [a0] h K :=
  TB Tryd.func27 (bodyOf Tryd.f27) hw
def kan_c : C := .seq (.reg [mT 6 false]) (.seq (.reg [mV 7 0,mV 8 1,mB 9 .geq 7 8,mV 10 9,⟨(some 11), (some (3, true)), .mov (.t 0)⟩,⟨(some 12), (some (3, true)), .mov (.t 2)⟩,⟨(some 13), (some (3, true)), .bin .leq (.num) (.t 11) (.t 12)⟩,⟨(some 14), none, .pick (.t 10) (.t 13) (.c (.bool false))⟩,mV 6 14]) .ret)
def kan_r : List RS := [.t 6]
theorem kan_e (hw : TC Tryd.prog Θ Γ kan_c (retQ kan_r K) ⟨[a0, a1, a2, u,u,u,u,u,u,u,u,u,u,u,u], [], h⟩) : T Tryd.prog Γ Fn.kan [a0, a1, a2] h K :=
  TB Tryd.func33 (bodyOf Tryd.f33) hw
def kac_c : C := .seq (.reg [mK 4 0]) (.seq (.seq (.reg [mV 5 1,mC 6 Fn.kag [.t 5, .c (.int .i64 1), .c (.int .i64 1000000000000)],mU 7 6]) (.cond (.t 7) (.seq (.reg [mK 4 0]) .ret) .skip)) (.seq (.reg [mV 8 0,mV 9 1,mB 10 .rem 8 9,mV 11 1,mB 12 .add 10 11,mV 13 1,mB 14 .rem 12 13,mV 4 14]) .ret))
def kac_r : List RS := [.t 4]
theorem kac_e (hw : TC Tryd.prog Θ Γ kac_c (retQ kac_r K) ⟨[a0, a1, u,u,u,u,u,u,u,u,u,u,u,u,u], [], h⟩) : T Tryd.prog Γ Fn.kac [a0, a1] h K :=
  TB Tryd.func36 (bodyOf Tryd.f36) hw
def kag_c : C := .seq (.reg [mT 6 false]) (.seq (.reg [mV 7 1,mV 8 0,mB 9 .leq 7 8,mV 10 9,⟨(some 11), (some (3, true)), .mov (.t 0)⟩,⟨(some 12), (some (3, true)), .mov (.t 2)⟩,⟨(some 13), (some (3, true)), .bin .leq (.num) (.t 11) (.t 12)⟩,⟨(some 14), none, .pick (.t 10) (.t 13) (.c (.bool false))⟩,mV 6 14]) .ret)
def kag_r : List RS := [.t 6]
theorem kag_e (hw : TC Tryd.prog Θ Γ kag_c (retQ kag_r K) ⟨[a0, a1, a2, u,u,u,u,u,u,u,u,u,u,u,u], [], h⟩) : T Tryd.prog Γ Fn.kag [a0, a1, a2] h K :=
  TB Tryd.func48 (bodyOf Tryd.f48) hw
end Go.Proofs.YteaebikmfmggbaaDoor
