import Derived.Test.YtccjhmhkfnnmaaaGreatRows
import Derived.WalkKit
import Derived.ProofKit
import Derived.OpenShut
import Derived.Test.YtccjhmhkfnnmaaaGreatAmG7
import Derived.Test.YtccjhmhkfnnmaaaGreatR6G23
set_option linter.unusedVariables false
set_option linter.unusedSimpArgs false
/- The law FnSends returns true at every input, and its arguments read behind the call as before. Conditions: none beyond the given row's. -/
namespace Go.Proofs.YtccjhmhkfnnmaaaGreat
open Go.AM
open Go.ChangeShapes Go.WideShapes Go.ChangeAt Go.RowKit
theorem own:ownKnob Tryz.prog.godebug=none:=by kernel_rfl
structure Jw (P:Program):Prop where
  und5:P.underlying 5=some (.int .u8)
  und22:P.underlying 22=some (.slice 5)
  cel5:P.cellsOf 5=1
theorem QD{P:Program}(F:Jw P){n:Nat}{d:gr}(h:gr.ok P (n+2) 22 d):∃l:List Int,d.av=.vs false 1 false (l.map fun n=>[.int .u8 n])∧l.length≤maxLen∧∀x∈l,0≤x∧x<256:=by
  obtain⟨xs,rfl,hm,hx⟩:=KG F.und22 h
  obtain⟨zs,e1,e2,e3⟩:=v7 (fun m:Int=>[.int .u8 m]) (fun x=>0≤x∧x<256) (fun d hd=>by obtain⟨m,rfl,hw⟩:=Gf F.und5 hd;exact⟨m,rfl,by simp[Lit.wf,IntKind.min,IntKind.max,IntKind.signed,IntKind.bits]at hw;omega⟩) hx
  exact⟨zs,by simp only[gr.av,AM.sl,F.cel5,e2],by omega,e3⟩
theorem facts:Jw Tryz.prog:=⟨by kernel_rfl,by kernel_rfl,by kernel_rfl⟩
set_option maxRecDepth 100000 in
theorem xZ(ds:List gr)(h:ie Tryz.prog 2 Tryz.f3.params.toList ds):T Tryz.prog (fun _=>none) 3 (ds.map gr.av) [] fun v _=>v=.bool true:=by
  have hp:Tryz.f3.params.toList=[22]:=by kernel_rfl
  obtain⟨d0,ds,rfl,k0,h⟩:=ie.cons (hp▸h:ie Tryz.prog 2 [22] ds)
  obtain rfl:=ie.nil h
  obtain⟨x0,e0,q0,r0⟩:=QD facts (n:=0) k0
  have:=zJ (Γ:=fun _=>none) x0 q0 r0 []
  rw[←e0]at this
  exact this.mono fun v h' hv=>hv.1
set_option maxRecDepth 100000 in
theorem tj(os:Os)(started:os.Started)(H:Type)(enc:TypeId×Value→H):
    ReturnsInHanded {} Tryz.checked os 3 .any (Rows.fnSendsSpec.pre6 enc Tryz.prog Tryz.f3 Rows.fnSendsRow.domain false) (Rows.fnSendsSpec.post enc Tryz.prog Tryz.f3 false true false false):=by
  refine returnsInHanded_of_change (C:=Tryz.checked) own started (by kernel_rfl) Tryz.func3
    (ChangeSpec.witness6 (enc:=enc) (C:=Tryz.checked) false ⟨#[],#[.slice none 0 0],[]⟩ 8 (by kernel_rfl) (by kernel_rfl) (by kernel_rfl) (by kernel_rfl)) ?_
  intro W base args ds gs before hval hW hcnd _
  refine EU (n:=2) (tb:=4) (by decide +kernel) rfl (by kernel_rfl) (by kernel_rfl) (fun xs hx=>?_) xZ hval hW
  have hp:Tryz.f3.params.toList.length=1:=by kernel_rfl
  rw[hp]at hx
  match xs,hx with
  | [_],_=>rfl
theorem yy:Rows.fnSendsRow.holds Tryz.pinned (OpenSpec.ofChange Rows.fnSendsSpec):=
  OpenClaim.holds_of_wide 3 Tryz.f3 rfl rfl rfl rfl rfl rfl rfl ⟨rfl,rfl,rfl,rfl,rfl⟩ rfl rfl rfl rfl rfl (by kernel_rfl) Tryz.func3 (by kernel_rfl)
    (of_decide_eq_true (by kernel_rfl)) (by unfold Func.isWrapper;first|(rw[if_pos (by decide +kernel)];kernel_rfl)|(rw[if_neg (by decide +kernel)];exact⟨rfl,rfl⟩))
    (fun os started H enc _=>tj os started H enc)
theorem fnSends_proved:Rows.FnSendsSaid:=yy
#print axioms fnSends_proved
end Go.Proofs.YtccjhmhkfnnmaaaGreat
