import Derived.Test.YtolciaflplefcaaGreatRows
import Derived.WalkKit
import Derived.ProofKit
import Derived.OpenShut
import Derived.Test.YtolciaflplefcaaGreatAmG7
import Derived.Test.YtolciaflplefcaaGreatR3LFnReturns
set_option linter.unusedVariables false
set_option linter.unusedSimpArgs false
namespace Go.Proofs.YtolciaflplefcaaGreat
open Go.AM
open Go.ChangeShapes Go.WideShapes Go.ChangeAt Go.RowKit
theorem own:ownKnob Tryz.prog.godebug=none:=by kernel_rfl
structure OK (P:Program):Prop where
  und5:P.underlying 5=some (.int .u8)
  und22:P.underlying 22=some (.slice 5)
  cel5:P.cellsOf 5=1
theorem Wt{P:Program}(F:OK P){n:Nat}{d:kR}(h:kR.ok P (n+2) 22 d):∃l:List Int,d.av=.vs false 1 false (l.map fun n=>[.int .u8 n])∧l.length≤maxLen∧∀x∈l,0≤x∧x<256:=by
  obtain⟨xs,rfl,hm,hx⟩:=Tp F.und22 h
  obtain⟨zs,e1,e2,e3⟩:=Dw (fun m:Int=>[.int .u8 m]) (fun x=>0≤x∧x<256) (fun d hd=>by obtain⟨m,rfl,hw⟩:=M6 F.und5 hd;exact⟨m,rfl,by simp[Lit.wf,IntKind.min,IntKind.max,IntKind.signed,IntKind.bits]at hw;omega⟩) hx
  exact⟨zs,by simp only[kR.av,AM.sl,F.cel5,e2],by omega,e3⟩
theorem facts:OK Tryz.prog:=⟨by kernel_rfl,by kernel_rfl,by kernel_rfl⟩
set_option maxRecDepth 100000 in
theorem BF(ds:List kR)(h:og Tryz.prog 2 Tryz.f3.params.toList ds):T Tryz.prog (fun _=>none) 3 (ds.map kR.av) [] fun v _=>v=.bool true:=by
  have hp:Tryz.f3.params.toList=[22]:=by kernel_rfl
  obtain⟨d0,ds,rfl,k0,h⟩:=og.cons (hp▸h:og Tryz.prog 2 [22] ds)
  obtain rfl:=og.nil h
  obtain⟨x0,e0,q0,r0⟩:=Wt facts (n:=0) k0
  have:=Cz (Γ:=fun _=>none) x0 q0 r0 []
  rw[←e0]at this
  exact this.mono fun v h' hv=>hv.1
set_option maxRecDepth 100000 in
theorem zW(os:Os)(started:os.Started)(H:Type)(enc:TypeId×Value→H):
    ReturnsInHanded {} Tryz.checked os 3 .any (Rows.fnReturnsSpec.pre6 enc Tryz.prog Tryz.f3 Rows.fnReturnsRow.domain false) (Rows.fnReturnsSpec.post enc Tryz.prog Tryz.f3 false true false false):=by
  refine returnsInHanded_of_change (C:=Tryz.checked) own started (by kernel_rfl) Tryz.func3
    (ChangeSpec.witness6 (enc:=enc) (C:=Tryz.checked) false ⟨#[],#[.slice none 0 0],[]⟩ 8 (by kernel_rfl) (by kernel_rfl) (by kernel_rfl) (by kernel_rfl)) ?_
  intro W base args ds gs before hval hW hcnd _
  refine Kg (n:=2) (tb:=4) (by decide +kernel) rfl (by kernel_rfl) (by kernel_rfl) (fun xs hx=>?_) BF hval hW
  have hp:Tryz.f3.params.toList.length=1:=by kernel_rfl
  rw[hp]at hx
  match xs,hx with
  | [_],_=>rfl
theorem BP:Rows.fnReturnsRow.holds Tryz.pinned (OpenSpec.ofChange Rows.fnReturnsSpec):=
  OpenClaim.holds_of_wide 3 Tryz.f3 rfl rfl rfl rfl rfl rfl rfl ⟨rfl,rfl,rfl,rfl,rfl⟩ rfl rfl rfl rfl rfl (by kernel_rfl) Tryz.func3 (by kernel_rfl)
    (of_decide_eq_true (by kernel_rfl)) (by unfold Func.isWrapper;first|(rw[if_pos (by decide +kernel)];kernel_rfl)|(rw[if_neg (by decide +kernel)];exact⟨rfl,rfl⟩))
    (fun os started H enc _=>zW os started H enc)
theorem fnReturns_proved:Rows.FnReturnsSaid:=BP
end Go.Proofs.YtolciaflplefcaaGreat
