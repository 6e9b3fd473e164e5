import Derived.Test.YteaebikmfmggbaaDoorProg
import Derived.Test.YteaebikmfmggbaaDoorAmLib
set_option linter.unusedVariables false
set_option linter.unusedSimpArgs false
namespace Go.Proofs.YteaebikmfmggbaaDoor
open Go.AM
abbrev mV (d s : Nat) : O := ⟨some d, none, .mov (.t s)⟩
abbrev mF (d k s : Nat) : O := ⟨some d, none, .fld k (.t s)⟩
abbrev mL (d k s : Nat) : O := ⟨some d, none, .load k false (.t s)⟩
abbrev mG (d k s : Nat) : O := ⟨some d, none, .load k true (.t s)⟩
abbrev mX (d k s i : Nat) : O := ⟨some d, none, .idxs k (.t s) (.t i)⟩
abbrev mS (k s i : Nat) : O := ⟨none, none, .store k (.t s) (.t i)⟩
abbrev mC (d : Nat) (f : FuncId) (l : List X) : O := ⟨some d, none, .call (.c (.fn f [] [])) l⟩
abbrev mB (d : Nat) (o : Go.BinOp) (s i : Nat) : O := ⟨some d, none, .bin o .num (.t s) (.t i)⟩
abbrev mI (d : Nat) (o : Go.BinOp) (s : Nat) (k : Int) : O := ⟨some d, none, .bin o .num (.t s) (.c (.int .i64 k))⟩
abbrev mK (d : Nat) (k : Int) : O := ⟨some d, none, .mov (.c (.int .i64 k))⟩
abbrev mT (d : Nat) (k : Bool) : O := ⟨some d, none, .mov (.c (.bool k))⟩
abbrev mN (d s : Nat) : O := ⟨some d, none, .len false (.t s)⟩
abbrev mA (d s : Nat) : O := ⟨some d, none, .box (.t s)⟩
abbrev mU (d s : Nat) : O := ⟨some d, none, .un .not (.t s)⟩
namespace Fn
abbrev kac : FuncId := 3
abbrev kaf : FuncId := 6
abbrev kad : FuncId := 7
abbrev kab : FuncId := 8
abbrev kae : FuncId := 14
abbrev kaa : FuncId := 15
abbrev kag : FuncId := 28
end Fn
namespace Gn
abbrev g0 : Nat := 0
abbrev g1 : Nat := 1
abbrev g2 : Nat := 2
abbrev g3 : Nat := 3
abbrev g4 : Nat := 4
abbrev g5 : Nat := 5
abbrev g6 : Nat := 6
abbrev g7 : Nat := 7
end Gn
def tabL : List (Nat × TI) := [
  (2, ⟨.int .i64, 1, 8, [.int .i64 0], none⟩),
  (3, ⟨.int .i64, 1, 8, [.int .i64 0], none⟩),
  (4, ⟨.bool, 1, 1, [.bool false], none⟩),
  (5, ⟨.int .u8, 1, 1, [.int .u8 0], none⟩),
  (9, ⟨.str, 1, 16, [.str ⟨#[]⟩], none⟩),
  (21, ⟨.int .i32, 1, 4, [.int .i32 0], none⟩),
  (23, ⟨.strct [(0, 3), (1, 3)], 2, 16, [.int .i64 0,.int .i64 0], none⟩),
  (25, ⟨.strct [(0, 3), (1, 3)], 2, 16, [.int .i64 0,.int .i64 0], none⟩),
  (35, ⟨.ptr 38, 1, 8, [.nilp], none⟩),
  (36, ⟨.slice 5, 1, 24, [.nils], none⟩),
  (38, ⟨.strct [(0, 35), (1, 36)], 2, 32, [.nilp, .nils], none⟩),
  (39, ⟨.slice 9, 1, 24, [.nils], none⟩),
  (44, ⟨.iface, 1, 16, [.opq .nilIface], none⟩),
  (56, ⟨.ptr 5, 1, 8, [.nilp], none⟩),
  (61, ⟨.other, 1, 8, [.nilp], none⟩),
  (72, ⟨.int .u64, 1, 8, [.int .u64 0], none⟩),
  (79, ⟨.arr 24 5, 24, 24, [.int .u8 0, .int .u8 0, .int .u8 0, .int .u8 0, .int .u8 0, .int .u8 0, .int .u8 0, .int .u8 0, .int .u8 0, .int .u8 0, .int .u8 0, .int .u8 0, .int .u8 0, .int .u8 0, .int .u8 0, .int .u8 0, .int .u8 0, .int .u8 0, .int .u8 0, .int .u8 0, .int .u8 0, .int .u8 0, .int .u8 0, .int .u8 0], none⟩),
  (80, ⟨.int .u64, 1, 8, [.int .u64 0], none⟩),
  (85, ⟨.int .u32, 1, 4, [.int .u32 0], none⟩),
  (89, ⟨.arr 256 5, 256, 256, [.int .u8 0, .int .u8 0, .int .u8 0, .int .u8 0, .int .u8 0, .int .u8 0, .int .u8 0, .int .u8 0, .int .u8 0, .int .u8 0, .int .u8 0, .int .u8 0, .int .u8 0, .int .u8 0, .int .u8 0, .int .u8 0, .int .u8 0, .int .u8 0, .int .u8 0, .int .u8 0, .int .u8 0, .int .u8 0, .int .u8 0, .int .u8 0, .int .u8 0, .int .u8 0, .int .u8 0, .int .u8 0, .int .u8 0, .int .u8 0, .int .u8 0, .int .u8 0, .int .u8 0, .int .u8 0, .int .u8 0, .int .u8 0, .int .u8 0, .int .u8 0, .int .u8 0, .int .u8 0, .int .u8 0, .int .u8 0, .int .u8 0, .int .u8 0, .int .u8 0, .int .u8 0, .int .u8 0, .int .u8 0, .int .u8 0, .int .u8 0, .int .u8 0, .int .u8 0, .int .u8 0, .int .u8 0, .int .u8 0, .int .u8 0, .int .u8 0, .int .u8 0, .int .u8 0, .int .u8 0, .int .u8 0, .int .u8 0, .int .u8 0, .int .u8 0, .int .u8 0, .int .u8 0, .int .u8 0, .int .u8 0, .int .u8 0, .int .u8 0, .int .u8 0, .int .u8 0, .int .u8 0, .int .u8 0, .int .u8 0, .int .u8 0, .int .u8 0, .int .u8 0, .int .u8 0, .int .u8 0, .int .u8 0, .int .u8 0, .int .u8 0, .int .u8 0, .int .u8 0, .int .u8 0, .int .u8 0, .int .u8 0, .int .u8 0, .int .u8 0, .int .u8 0, .int .u8 0, .int .u8 0, .int .u8 0, .int .u8 0, .int .u8 0, .int .u8 0, .int .u8 0, .int .u8 0, .int .u8 0, .int .u8 0, .int .u8 0, .int .u8 0, .int .u8 0, .int .u8 0, .int .u8 0, .int .u8 0, .int .u8 0, .int .u8 0, .int .u8 0, .int .u8 0, .int .u8 0, .int .u8 0, .int .u8 0, .int .u8 0, .int .u8 0, .int .u8 0, .int .u8 0, .int .u8 0, .int .u8 0, .int .u8 0, .int .u8 0, .int .u8 0, .int .u8 0, .int .u8 0, .int .u8 0, .int .u8 0, .int .u8 0, .int .u8 0, .int .u8 0, .int .u8 0, .int .u8 0, .int .u8 0, .int .u8 0, .int .u8 0, .int .u8 0, .int .u8 0, .int .u8 0, .int .u8 0, .int .u8 0, .int .u8 0, .int .u8 0, .int .u8 0, .int .u8 0, .int .u8 0, .int .u8 0, .int .u8 0, .int .u8 0, .int .u8 0, .int .u8 0, .int .u8 0, .int .u8 0, .int .u8 0, .int .u8 0, .int .u8 0, .int .u8 0, .int .u8 0, .int .u8 0, .int .u8 0, .int .u8 0, .int .u8 0, .int .u8 0, .int .u8 0, .int .u8 0, .int .u8 0, .int .u8 0, .int .u8 0, .int .u8 0, .int .u8 0, .int .u8 0, .int .u8 0, .int .u8 0, .int .u8 0, .int .u8 0, .int .u8 0, .int .u8 0, .int .u8 0, .int .u8 0, .int .u8 0, .int .u8 0, .int .u8 0, .int .u8 0, .int .u8 0, .int .u8 0, .int .u8 0, .int .u8 0, .int .u8 0, .int .u8 0, .int .u8 0, .int .u8 0, .int .u8 0, .int .u8 0, .int .u8 0, .int .u8 0, .int .u8 0, .int .u8 0, .int .u8 0, .int .u8 0, .int .u8 0, .int .u8 0, .int .u8 0, .int .u8 0, .int .u8 0, .int .u8 0, .int .u8 0, .int .u8 0, .int .u8 0, .int .u8 0, .int .u8 0, .int .u8 0, .int .u8 0, .int .u8 0, .int .u8 0, .int .u8 0, .int .u8 0, .int .u8 0, .int .u8 0, .int .u8 0, .int .u8 0, .int .u8 0, .int .u8 0, .int .u8 0, .int .u8 0, .int .u8 0, .int .u8 0, .int .u8 0, .int .u8 0, .int .u8 0, .int .u8 0, .int .u8 0, .int .u8 0, .int .u8 0, .int .u8 0, .int .u8 0, .int .u8 0, .int .u8 0, .int .u8 0, .int .u8 0, .int .u8 0, .int .u8 0, .int .u8 0, .int .u8 0, .int .u8 0, .int .u8 0, .int .u8 0, .int .u8 0, .int .u8 0, .int .u8 0, .int .u8 0, .int .u8 0, .int .u8 0, .int .u8 0, .int .u8 0, .int .u8 0, .int .u8 0, .int .u8 0], none⟩),
  (91, ⟨.strct [(0, 5), (1, 5)], 2, 2, [.int .u8 0, .int .u8 0], none⟩),
  (92, ⟨.arr 16 91, 32, 32, [.int .u8 0, .int .u8 0, .int .u8 0, .int .u8 0, .int .u8 0, .int .u8 0, .int .u8 0, .int .u8 0, .int .u8 0, .int .u8 0, .int .u8 0, .int .u8 0, .int .u8 0, .int .u8 0, .int .u8 0, .int .u8 0, .int .u8 0, .int .u8 0, .int .u8 0, .int .u8 0, .int .u8 0, .int .u8 0, .int .u8 0, .int .u8 0, .int .u8 0, .int .u8 0, .int .u8 0, .int .u8 0, .int .u8 0, .int .u8 0, .int .u8 0, .int .u8 0], none⟩),
  (97, ⟨.strct [(0, 9), (1, 9), (2, 44)], 3, 48, [.str ⟨#[]⟩, .str ⟨#[]⟩, .opq .nilIface], none⟩),
  (100, ⟨.arr 20 80, 20, 160, [.int .u64 0, .int .u64 0, .int .u64 0, .int .u64 0, .int .u64 0, .int .u64 0, .int .u64 0, .int .u64 0, .int .u64 0, .int .u64 0, .int .u64 0, .int .u64 0, .int .u64 0, .int .u64 0, .int .u64 0, .int .u64 0, .int .u64 0, .int .u64 0, .int .u64 0, .int .u64 0], none⟩),
  (101, ⟨.arr 65 5, 65, 65, [.int .u8 0, .int .u8 0, .int .u8 0, .int .u8 0, .int .u8 0, .int .u8 0, .int .u8 0, .int .u8 0, .int .u8 0, .int .u8 0, .int .u8 0, .int .u8 0, .int .u8 0, .int .u8 0, .int .u8 0, .int .u8 0, .int .u8 0, .int .u8 0, .int .u8 0, .int .u8 0, .int .u8 0, .int .u8 0, .int .u8 0, .int .u8 0, .int .u8 0, .int .u8 0, .int .u8 0, .int .u8 0, .int .u8 0, .int .u8 0, .int .u8 0, .int .u8 0, .int .u8 0, .int .u8 0, .int .u8 0, .int .u8 0, .int .u8 0, .int .u8 0, .int .u8 0, .int .u8 0, .int .u8 0, .int .u8 0, .int .u8 0, .int .u8 0, .int .u8 0, .int .u8 0, .int .u8 0, .int .u8 0, .int .u8 0, .int .u8 0, .int .u8 0, .int .u8 0, .int .u8 0, .int .u8 0, .int .u8 0, .int .u8 0, .int .u8 0, .int .u8 0, .int .u8 0, .int .u8 0, .int .u8 0, .int .u8 0, .int .u8 0, .int .u8 0, .int .u8 0], none⟩),
  (107, ⟨.strct [(0, 9)], 1, 16, [.str ⟨#[]⟩], none⟩),
  (109, ⟨.arr 32 5, 32, 32, [.int .u8 0, .int .u8 0, .int .u8 0, .int .u8 0, .int .u8 0, .int .u8 0, .int .u8 0, .int .u8 0, .int .u8 0, .int .u8 0, .int .u8 0, .int .u8 0, .int .u8 0, .int .u8 0, .int .u8 0, .int .u8 0, .int .u8 0, .int .u8 0, .int .u8 0, .int .u8 0, .int .u8 0, .int .u8 0, .int .u8 0, .int .u8 0, .int .u8 0, .int .u8 0, .int .u8 0, .int .u8 0, .int .u8 0, .int .u8 0, .int .u8 0, .int .u8 0], none⟩),
  (110, ⟨.arr 64 5, 64, 64, [.int .u8 0, .int .u8 0, .int .u8 0, .int .u8 0, .int .u8 0, .int .u8 0, .int .u8 0, .int .u8 0, .int .u8 0, .int .u8 0, .int .u8 0, .int .u8 0, .int .u8 0, .int .u8 0, .int .u8 0, .int .u8 0, .int .u8 0, .int .u8 0, .int .u8 0, .int .u8 0, .int .u8 0, .int .u8 0, .int .u8 0, .int .u8 0, .int .u8 0, .int .u8 0, .int .u8 0, .int .u8 0, .int .u8 0, .int .u8 0, .int .u8 0, .int .u8 0, .int .u8 0, .int .u8 0, .int .u8 0, .int .u8 0, .int .u8 0, .int .u8 0, .int .u8 0, .int .u8 0, .int .u8 0, .int .u8 0, .int .u8 0, .int .u8 0, .int .u8 0, .int .u8 0, .int .u8 0, .int .u8 0, .int .u8 0, .int .u8 0, .int .u8 0, .int .u8 0, .int .u8 0, .int .u8 0, .int .u8 0, .int .u8 0, .int .u8 0, .int .u8 0, .int .u8 0, .int .u8 0, .int .u8 0, .int .u8 0, .int .u8 0, .int .u8 0], none⟩)]
def Θ : Tab := tabOf tabL
theorem tabOK : TabOK Tryd.prog Θ := tabOK_of (by kernel_rfl) (by kernel_rfl)
theorem mixed : Tryd.prog.follows .mixedOrders = true := by kernel_rfl
theorem TB {Γ : Glob} {f : FuncId} {fn : Func} {c : C} {rs : List RS} {args : List AV} {h : AH} {K : AV → AH → Prop} (hf : Tryd.prog.funcs[f]? = some fn) (code : Code)
    (hw : TC Tryd.prog Θ Γ c (retQ rs K) ⟨args ++ List.replicate (fn.ntmps - args.length) (.tup []), [], h⟩)
    (hb : fn.body = some code := by kernel_rfl) (hn : (fn.name == "runtime.NumGoroutine") = false := by kernel_rfl) (hc : trC Θ code = some c := by kernel_rfl) (hr : fn.results.toList.mapM (trR Θ) = some rs := by kernel_rfl) : T Tryd.prog Γ f args h K :=
  T_of_body tabOK hf hb hn hc hr hw
variable {Γ : Glob} {a0 a1 a2 a3 a4 a5 a6 a7 : AV} {h : AH} {K : AV → AH → Prop}
def kac_c : C := .seq (.reg [mA 1 0,mT 2 false]) (.seq (.reg [mG 5 2 1,mC 6 Fn.kad [.t 5],mC 7 Fn.kaf [.t 6],mV 3 7]) (.seq (.reg [mG 8 2 1,mC 9 Fn.kad [.t 8],mC 10 Fn.kab [.t 9],mV 4 10]) (.seq (.seq (.reg [mV 11 4,mV 12 3,mB 13 .neq 11 12]) (.cond (.t 13) (.seq (.reg [mT 2 false]) .ret) .skip)) (.seq (.reg [mT 2 true]) .ret))))
def kac_r : List RS := [.t 2]
theorem kac_e (hw : TC Tryd.prog Θ Γ kac_c (retQ kac_r K) ⟨[a0, u,u,u,u,u,u,u,u,u,u,u,u,u], [], h⟩) : T Tryd.prog Γ Fn.kac [a0] h K :=
  TB Tryd.func3 (bodyOf Tryd.f3) hw
def kaf_c : C := .seq (.reg [mA 1 0,⟨(some 2), none, .mov (.c (.str ⟨#[]⟩))⟩]) (.seq (.seq (.reg [mF 3 0 1,mL 4 1 3]) (.block 0 (.seq (.reg [mI 6 .eql 4 0,mV 5 6]) (.cond (.t 5) (.seq (.reg [mF 7 1 1,mL 8 1 7,mC 9 Fn.kae [.t 8],mV 2 9]) .ret) (.seq (.reg [mI 11 .eql 4 1,mV 10 11]) (.cond (.t 10) (.seq (.reg [mF 12 1 1,mL 13 1 12,mC 14 Fn.kae [.t 13],⟨(some 15), none, .bin .add (.num) (.c (.str ⟨#[64]⟩)) (.t 14)⟩,mV 2 15]) .ret) (.seq (.reg [mI 17 .eql 4 2,mV 16 17]) (.cond (.t 16) (.seq (.reg [⟨(some 2), none, .mov (.c (.str ⟨#[33]⟩))⟩]) .ret) .skip)))))))) (.seq (.reg [⟨(some 2), none, .mov (.c (.str ⟨#[63]⟩))⟩]) .ret))
def kaf_r : List RS := [.t 2]
theorem kaf_e (hw : TC Tryd.prog Θ Γ kaf_c (retQ kaf_r K) ⟨[a0, u,u,u,u,u,u,u,u,u,u,u,u,u,u,u,u,u], [], h⟩) : T Tryd.prog Γ Fn.kaf [a0] h K :=
  TB Tryd.func6 (bodyOf Tryd.f6) hw
def kad_c : C := .seq (.reg [mA 1 0,⟨(some 2), none, .alloc [.int .i64 0,.int .i64 0]⟩]) (.seq (.reg [⟨(some 3), none, .alloc [.int .i64 0,.int .i64 0]⟩]) (.seq (.reg [mF 4 0 1,mL 5 1 4,mF 6 0 3,mS 1 6 5]) (.seq (.reg [mF 7 1 1,mL 8 1 7,mF 9 1 3,mS 1 9 8]) (.seq (.reg [mG 10 2 3,mS 2 2 10]) .ret))))
def kad_r : List RS := [.cell 2 2 true]
theorem kad_e (hw : TC Tryd.prog Θ Γ kad_c (retQ kad_r K) ⟨[a0, u,u,u,u,u,u,u,u,u,u], [], h⟩) : T Tryd.prog Γ Fn.kad [a0] h K :=
  TB Tryd.func7 (bodyOf Tryd.f7) hw
def kab_c : C := .seq (.reg [mA 1 0,⟨(some 2), none, .mov (.c (.str ⟨#[]⟩))⟩]) (.seq (.seq (.reg [mF 3 0 1,mL 4 1 3]) (.block 0 (.seq (.reg [mI 6 .eql 4 0,mV 5 6]) (.cond (.t 5) (.seq (.reg [mF 7 1 1,mL 8 1 7,mC 9 Fn.kaa [.t 8],mV 2 9]) .ret) (.seq (.reg [mI 11 .eql 4 1,mV 10 11]) (.cond (.t 10) (.seq (.reg [mF 12 1 1,mL 13 1 12,mC 14 Fn.kaa [.t 13],⟨(some 15), none, .bin .add (.num) (.c (.str ⟨#[64]⟩)) (.t 14)⟩,mV 2 15]) .ret) (.seq (.reg [mI 17 .eql 4 2,mV 16 17]) (.cond (.t 16) (.seq (.reg [⟨(some 2), none, .mov (.c (.str ⟨#[33]⟩))⟩]) .ret) .skip)))))))) (.seq (.reg [⟨(some 2), none, .mov (.c (.str ⟨#[63]⟩))⟩]) .ret))
def kab_r : List RS := [.t 2]
theorem kab_e (hw : TC Tryd.prog Θ Γ kab_c (retQ kab_r K) ⟨[a0, u,u,u,u,u,u,u,u,u,u,u,u,u,u,u,u,u], [], h⟩) : T Tryd.prog Γ Fn.kab [a0] h K :=
  TB Tryd.func8 (bodyOf Tryd.f8) hw
def kae_c : C := .seq (.reg [⟨(some 2), none, .mov (.c (.str ⟨#[]⟩))⟩]) (.seq (.seq (.reg [mV 6 0,mI 7 .eql 6 0]) (.cond (.t 7) (.seq (.reg [⟨(some 2), none, .mov (.c (.str ⟨#[48]⟩))⟩]) .ret) .skip)) (.seq (.reg [⟨(some 3), none, .mov (.c (.str ⟨#[]⟩))⟩]) (.seq (.seq (.reg [mV 8 0,mV 4 8]) (.block 0 (.loop (.seq (.seq (.reg [mV 9 4,mI 10 .neq 9 0]) (.cond (.t 10) .skip (.exit 0))) (.seq (.block 1 (.seq (.reg [mV 13 4,mI 14 .rem 13 10,mV 5 14]) (.seq (.seq (.reg [mV 15 5,mI 16 .lss 15 0]) (.cond (.t 16) (.reg [mV 17 5,⟨(some 18), none, .un .neg (.t 17)⟩,mV 5 18]) .skip)) (.reg [mV 19 5,⟨(some 20), none, .bin .add (.num) (.c (.int .i64 48)) (.t 19)⟩,⟨(some 21), none, .cvi .u8 (.t 20)⟩,⟨(some 22), none, .bsl 1 1 [.int .u8 0] [(0, .t 21)]⟩,⟨(some 23), none, .cvt (.t 22)⟩,mV 24 3,mB 25 .add 23 24,mV 3 25])))) (.reg [mV 11 4,mI 12 .quo 11 10,mV 4 12])))))) (.seq (.seq (.reg [mV 26 0,mI 27 .lss 26 0]) (.cond (.t 27) (.seq (.reg [mV 28 3,⟨(some 29), none, .bin .add (.num) (.c (.str ⟨#[45]⟩)) (.t 28)⟩,mV 2 29]) .ret) .skip)) (.seq (.reg [mV 30 3,mV 2 30]) .ret)))))
def kae_r : List RS := [.t 2]
def kae_s0 (t0 t3 t4 : AV) (loc : List (List AV)) (h : AH) : St := ⟨[t0, .any,.any, t3, t4, .any,.any,.any,.any,.any,.any,.any,.any,.any,.any,.any,.any,.any,.any,.any,.any,.any,.any,.any,.any,.any,.any,.any,.any,.any,.any], loc, h⟩
theorem kae_e (hw : TC Tryd.prog Θ Γ kae_c (retQ kae_r K) ⟨[a0, u,u,u,u,u,u,u,u,u,u,u,u,u,u,u,u,u,u,u,u,u,u,u,u,u,u,u,u,u,u], [], h⟩) : T Tryd.prog Γ Fn.kae [a0] h K :=
  TB Tryd.func14 (bodyOf Tryd.f14) hw
def kaa_c : C := .seq (.reg [⟨(some 2), none, .mov (.c (.str ⟨#[]⟩))⟩]) (.seq (.reg [mV 3 0,mC 4 Fn.kag [.t 3],mV 2 4]) .ret)
def kaa_r : List RS := [.t 2]
theorem kaa_e (hw : TC Tryd.prog Θ Γ kaa_c (retQ kaa_r K) ⟨[a0, u,u,u,u], [], h⟩) : T Tryd.prog Γ Fn.kaa [a0] h K :=
  TB Tryd.func15 (bodyOf Tryd.f15) hw
end Go.Proofs.YteaebikmfmggbaaDoor
