import Derived.Test.YtccjhmhkfnnmaaaGreatRows
import Derived.WalkKit
import Derived.ProofKit
import Derived.OpenShut
import Derived.Test.YtccjhmhkfnnmaaaGreatAmG7
import Derived.Test.YtccjhmhkfnnmaaaGreatR6G27
set_option linter.unusedVariables false
set_option linter.unusedSimpArgs false
/- The law FnGifts returns true at every input, and its arguments read behind the call as before. Conditions: none beyond the given row's. -/
namespace Go.Proofs.YtccjhmhkfnnmaaaGreat
open Go.AM
open Go.ChangeShapes Go.WideShapes Go.ChangeAt Go.RowKit
theorem own:ownKnob Tryz.prog.godebug=none:=by kernel_rfl
structure MC (P:Program):Prop where
  und5:P.underlying 5=some (.int .u8)
  und22:P.underlying 22=some (.slice 5)
  cel5:P.cellsOf 5=1
theorem Ub{P:Program}(F:MC P){n:Nat}{d:gZ}(h:gZ.ok P (n+2) 22 d):∃l:List Int,d.av=.vs false 1 false (l.map fun n=>[.int .u8 n])∧l.length≤maxLen∧∀x∈l,0≤x∧x<256:=by
  obtain⟨xs,rfl,hm,hx⟩:=OE F.und22 h
  obtain⟨zs,e1,e2,e3⟩:=zD (fun m:Int=>[.int .u8 m]) (fun x=>0≤x∧x<256) (fun d hd=>by obtain⟨m,rfl,hw⟩:=I7 F.und5 hd;exact⟨m,rfl,by simp[Lit.wf,IntKind.min,IntKind.max,IntKind.signed,IntKind.bits]at hw;omega⟩) hx
  exact⟨zs,by simp only[gZ.av,AM.sl,F.cel5,e2],by omega,e3⟩
theorem facts:MC Tryz.prog:=⟨by kernel_rfl,by kernel_rfl,by kernel_rfl⟩
set_option maxRecDepth 100000 in
theorem Ar(ds:List gZ)(h:iX Tryz.prog 2 Tryz.f4.params.toList ds):T Tryz.prog (fun _=>none) 4 (ds.map gZ.av) [] fun v _=>v=.bool true:=by
  have hp:Tryz.f4.params.toList=[22]:=by kernel_rfl
  obtain⟨d0,ds,rfl,k0,h⟩:=iX.cons (hp▸h:iX Tryz.prog 2 [22] ds)
  obtain rfl:=iX.nil h
  obtain⟨x0,e0,q0,r0⟩:=Ub facts (n:=0) k0
  have:=Cb (Γ:=fun _=>none) x0 q0 r0 []
  rw[←e0]at this
  exact this.mono fun v h' hv=>hv.1
set_option maxRecDepth 100000 in
theorem uC(os:Os)(started:os.Started)(H:Type)(enc:TypeId×Value→H):
    ReturnsInHanded {} Tryz.checked os 4 .any (Rows.fnGiftsSpec.pre6 enc Tryz.prog Tryz.f4 Rows.fnGiftsRow.domain false) (Rows.fnGiftsSpec.post enc Tryz.prog Tryz.f4 false true false false):=by
  refine returnsInHanded_of_change (C:=Tryz.checked) own started (by kernel_rfl) Tryz.func4
    (ChangeSpec.witness6 (enc:=enc) (C:=Tryz.checked) false ⟨#[],#[.slice none 0 0],[]⟩ 8 (by kernel_rfl) (by kernel_rfl) (by kernel_rfl) (by kernel_rfl)) ?_
  intro W base args ds gs before hval hW hcnd _
  refine FQ (n:=2) (tb:=4) (by decide +kernel) rfl (by kernel_rfl) (by kernel_rfl) (fun xs hx=>?_) Ar hval hW
  have hp:Tryz.f4.params.toList.length=1:=by kernel_rfl
  rw[hp]at hx
  match xs,hx with
  | [_],_=>rfl
theorem Aw:Rows.fnGiftsRow.holds Tryz.pinned (OpenSpec.ofChange Rows.fnGiftsSpec):=
  OpenClaim.holds_of_wide 4 Tryz.f4 rfl rfl rfl rfl rfl rfl rfl ⟨rfl,rfl,rfl,rfl,rfl⟩ rfl rfl rfl rfl rfl (by kernel_rfl) Tryz.func4 (by kernel_rfl)
    (of_decide_eq_true (by kernel_rfl)) (by unfold Func.isWrapper;first|(rw[if_pos (by decide +kernel)];kernel_rfl)|(rw[if_neg (by decide +kernel)];exact⟨rfl,rfl⟩))
    (fun os started H enc _=>uC os started H enc)
theorem fnGifts_proved:Rows.FnGiftsSaid:=Aw
#print axioms fnGifts_proved
end Go.Proofs.YtccjhmhkfnnmaaaGreat
