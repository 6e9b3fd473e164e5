import Derived.Test.YtolciaflplefcaaGreatR6G13
import Derived.Test.YtolciaflplefcaaGreatAmG10
import Derived.Test.YtolciaflplefcaaGreatR6G12
import Derived.Test.YtolciaflplefcaaGreatAmG9
set_option linter.unusedVariables false
set_option linter.unusedSimpArgs false
open Go.Proofs.Tryz renaming prog→pQ
open Nat renaming reduceAdd→Aaa,reduceBEq→Aab,le_refl→Aam,reduceLeDiff→Aap,zero_le→Aaw,zero_add→Aay
open List renaming not_mem_nil→Aac,getD_eq_getElem?_getD→Aad,mem_cons→Aae,getElem?_append_left→Aag,getElem?_eq_getElem→Aah,length_map→Aai,getElem_map→Aan,length_cons→Aao,getElem?_set_ne→Aas,mem_singleton→Aau,length_nil→Aax
open Bool renaming false_eq_true→Aaf,false_and→Aaj,and_eq_true_iff→Aaq,and_false→Aar,true_and→Aat,and_eq_true→Aav
open Int renaming tmod_lt_of_pos→Aak,toNat_natCast→Aal
namespace Go.Proofs.YtolciaflplefcaaGreat
open Go.AM
variable {Γ:bG}
theorem c5{H:AH}{row:List AV}{e:aA}{f:List Nat}(o:aM H row e.cd f):∃wS wQ wA fS fQ fA,row=[.int .i64 e.kind,.int .i64 e.script,wS,.int .i64 e.state,.int .i64 e.value.kind,.int .i64 e.value.n,wQ,wA,.int .i64 e.peer,.int .i64 e.pos,.int .i64 e.count,.int .i64 e.sent]∧f=fS++(fQ++fA)∧
 b9 H wS (.sl 2 (e.slots.map an.cd)) fS∧b9 H wQ (.sl 7 (e.queue.map aK.cd)) fQ∧b9 H wA (.sl 2 (e.askers.map cj.cd)) fA:=by
 simp only[aA.cd,jv,jy,j6,oF,nF]at o;obtain⟨_,_,_,_,rfl,rfl,⟨rfl,rfl⟩,⟨_,_,_,_,rfl,rfl,⟨rfl,rfl⟩,⟨wS,_,fS,_,rfl,rfl,oS,⟨_,_,_,_,rfl,rfl,⟨rfl,rfl⟩,⟨_,_,_,_,rfl,rfl,⟨rfl,rfl⟩,⟨_,_,_,_,rfl,rfl,⟨rfl,rfl⟩,⟨wQ,_,fQ,_,rfl,rfl,oQ,⟨wA,_,fA,_,rfl,rfl,oA,
  ⟨_,_,_,_,rfl,rfl,⟨rfl,rfl⟩,⟨_,_,_,_,rfl,rfl,⟨rfl,rfl⟩,⟨_,_,_,_,rfl,rfl,⟨rfl,rfl⟩,⟨_,_,_,_,rfl,rfl,⟨rfl,rfl⟩,⟨rfl,rfl⟩⟩⟩⟩⟩⟩⟩⟩⟩⟩⟩⟩⟩:=o
 exact⟨wS,wQ,wA,fS,fQ,fA,rfl,by simp,oS,oQ,oA⟩
theorem jo{H:AH}{e:aA}{wS wQ wA:AV}{fS fQ fA:List Nat}(oS:b9 H wS (.sl 2 (e.slots.map an.cd)) fS)(oQ:b9 H wQ (.sl 7 (e.queue.map aK.cd)) fQ)(oA:b9 H wA (.sl 2 (e.askers.map cj.cd)) fA):
 aM H [.int .i64 e.kind,.int .i64 e.script,wS,.int .i64 e.state,.int .i64 e.value.kind,.int .i64 e.value.n,wQ,wA,.int .i64 e.peer,.int .i64 e.pos,.int .i64 e.count,.int .i64 e.sent] e.cd (fS++(fQ++fA)):=by
 have e':fA=fA++[]:=by simp
 rw[e'];exact .i (.i (.o oS (.i (.i (.i (.o oQ (.o oA (.i (.i (.i (.i .nil)))))))))))
def bq(v:ar)(peer:Int)(x:an):ar×aJ:=
 if (decide ((cO v x).kind=0) && tZ (cO v x).n 0 999999)=true then (v,⟨0,(cO v x).n⟩)
 else if (decide ((cO v x).kind=1) && (bB (cO v x).n v.entities.length && rO v.aq peer))=true then
  (if (decide ((v.entities.getD (cO v x).n.toNat default).kind=3) && decide ((v.entities.getD (cO v x).n.toNat default).peer=peer))=true then (v,⟨2,(v.entities.getD (cO v x).n.toNat default).pos⟩)
  else ({ v with aq:=v.aq.set (iq (fun l:aF=>l.peer == peer) v.aq).toNat (jq (v.aq.getD (iq (fun l:aF=>l.peer == peer) v.aq).toNat default) (cO v x).n).1 },⟨1,(jq (v.aq.getD (iq (fun l:aF=>l.peer == peer) v.aq).toNat default) (cO v x).n).2⟩))
 else (v,⟨3,0⟩)
set_option maxHeartbeats 4000000 in
set_option maxRecDepth 100000 in
theorem OG(v:ar)(hE:v.entities.length≤1048576)(hL:v.aq.length≤1048576)(hlk:∀l∈v.aq,l.ok 1048576)(peer:Int)(x:an)(H:AH){b:Nat}{wE w2 wL w4:AV}{fE f2 fL f4:List Nat}(o:VO H b v wE w2 wL w4 fE f2 fL f4):
    T pQ Γ Fn.Xm [.gp b 0 0,.int .i64 peer,.agg (x.c false)] H fun r H'=>r=.agg ((bq v peer x).2.c false)∧Co H b wE w2 wL w4 fE f2 fL f4 H' (bq v peer x).1:=by
  have hb:=o.hb
  have bf:=o.bf
  have blt:=o.blt
  have vlt:=o.lt
  have cb:=VO.Cp hb
  obtain⟨a1,a2,a3,a4⟩:=o.oE.cell
  obtain⟨b1,b2,b3,b4⟩:=o.o2.cell
  obtain⟨c1,c2,c3,c4⟩:=o.oL.cell
  obtain⟨d1,d2,d3,d4⟩:=o.o4.cell
  obtain⟨_,lE⟩:=dc o.oE
  rw[Aai]at lE
  obtain⟨y,hy⟩:∃y,y=cO v x:=⟨_,rfl⟩
  have tw:bq v peer x=bq v peer x:=rfl
  conv at tw=>rhs;unfold bq
  simp only[←hy]at tw
  refine WZ (aC aG mixed [] _ _ _ ?_)
  unfold Oh
  cases t1:(decide (y.kind=0) && tZ y.n 0 999999)
  rotate_left
  · rw[t1,if_pos rfl]at tw
    obtain⟨k0,r0⟩:=Aaq.1 t1
    simp only[au,Aaa,Aab,gu,bU,bY,bQ,bW,bZ,bj,bo,bh,bk,bp,bC,an.c,cb,lE,a1,a2,a3,b1,b2,b3,c1,c2,c3,d1,d2,d3,ag,ae,k0,r0,show decide (y.kind=0)=true from k0]
    repeat' (first
      | (guard_target =~ Mem _ _;first|exact Mem.loc ⟨_,([]:List (List AV))++[_,_],_⟩ _ [_]|exact Mem.loc ⟨_,([]:List (List AV))++[_,_,_],_⟩ _ [_]|exact Mem.loc ⟨_,([]:List (List AV))++[_,_,_,_],_⟩ _ [_]|exact eg.mem _ _ _)
      | (guard_target =~ jB _ _ _;first|exact gI rfl|exact jZ (L':=[_]) rfl)
      | (guard_target =~ al _ _ Fn.El _ _ _
         refine al.fk (by simp only[EO,a3,b3,c3,d3]) (aI (aM.fk (ar.bO true v) o.own) (aI (.same _) aZ)) (fun h=>ux true v hE x h) (.agg _ (by intro z hz;simp only[an.c,Aae,Aac,or_false]at hz;rcases hz with rfl|rfl<;>exact .int _ _)) ?_
         rw[←hy]
         simp only[au,Aaa,Aab,gu,bU,bY,bQ,bW,bZ,bj,bo,bh,bk,bp,bC,an.c,cb,lE,a1,a2,a3,b1,b2,b3,c1,c2,c3,d1,d2,d3,ag,ae,k0,r0,show decide (y.kind=0)=true from k0])
      | (guard_target =~ al _ _ Fn.xG [_,AV.int _ 0,AV.int _ 999999] _ _
         refine al.val (by simp only[EO]) (gQ _ _ _ _) ?_
         simp only[au,Aaa,Aab,gu,bU,bY,bQ,bW,bZ,bj,bo,bh,bk,bp,bC,an.c,cb,lE,a1,a2,a3,b1,b2,b3,c1,c2,c3,d1,d2,d3,ag,ae,k0,r0,show decide (y.kind=0)=true from k0])
      | (guard_target =~ al _ _ Fn.xG _ _ _
         refine al.val (by simp only[EO]) (gQ _ _ _ _) ?_
         rw[fG _ hE]
         simp only[au,Aaa,Aab,gu,bU,bY,bQ,bW,bZ,bj,bo,bh,bk,bp,bC,an.c,cb,lE,a1,a2,a3,b1,b2,b3,c1,c2,c3,d1,d2,d3,ag,ae,k0,r0,show decide (y.kind=0)=true from k0])
      | (guard_target =~ al _ _ Fn.JD _ _ _
         refine al.fk (by simp only[EO,a3,b3,c3,d3]) (aI (aM.fk (ar.bO true v) o.own) (aI (.same _) aZ)) (fun h=>pg true v hL peer h) (.bool _) ?_
         simp only[au,Aaa,Aab,gu,bU,bY,bQ,bW,bZ,bj,bo,bh,bk,bp,bC,an.c,cb,lE,a1,a2,a3,b1,b2,b3,c1,c2,c3,d1,d2,d3,ag,ae,k0,r0,show decide (y.kind=0)=true from k0])
      | exact⟨by rw[tw];rfl,by rw[tw];exact Co.refl o⟩
      | (guard_target =~ cY _=true;rfl)
      | refine And.intro ?_ ?_)
  have z0:(decide (y.kind=0)=true∧tZ y.n 0 999999=false)∨decide (y.kind=0)=false:=by
    cases hk:decide (y.kind=0)
    · exact .inr rfl
    · rw[hk,Aat]at t1;exact .inl ⟨rfl,t1⟩
  simp only[t1,Aaf,if_false]at tw
  by_cases k1:y.kind=1
  rotate_left
  · have k1':decide (y.kind=1)=false:=aW k1
    simp only[k1',Aaj,Aaf,if_false]at tw
    rcases z0 with⟨k0,r0⟩|k0
    · skip
      simp only[au,Aaa,Aab,gu,bU,bY,bQ,bW,bZ,bj,bo,bh,bk,bp,bC,an.c,cb,lE,a1,a2,a3,b1,b2,b3,c1,c2,c3,d1,d2,d3,ag,ae,k0,r0,k1']
      repeat' (first
        | (guard_target =~ Mem _ _;first|exact Mem.loc ⟨_,([]:List (List AV))++[_,_],_⟩ _ [_]|exact Mem.loc ⟨_,([]:List (List AV))++[_,_,_],_⟩ _ [_]|exact Mem.loc ⟨_,([]:List (List AV))++[_,_,_,_],_⟩ _ [_]|exact eg.mem _ _ _)
        | (guard_target =~ jB _ _ _;first|exact gI rfl|exact jZ (L':=[_]) rfl)
        | (guard_target =~ al _ _ Fn.El _ _ _
           refine al.fk (by simp only[EO,a3,b3,c3,d3]) (aI (aM.fk (ar.bO true v) o.own) (aI (.same _) aZ)) (fun h=>ux true v hE x h) (.agg _ (by intro z hz;simp only[an.c,Aae,Aac,or_false]at hz;rcases hz with rfl|rfl<;>exact .int _ _)) ?_
           rw[←hy]
           simp only[au,Aaa,Aab,gu,bU,bY,bQ,bW,bZ,bj,bo,bh,bk,bp,bC,an.c,cb,lE,a1,a2,a3,b1,b2,b3,c1,c2,c3,d1,d2,d3,ag,ae,k0,r0,k1'])
        | (guard_target =~ al _ _ Fn.xG [_,AV.int _ 0,AV.int _ 999999] _ _
           refine al.val (by simp only[EO]) (gQ _ _ _ _) ?_
           simp only[au,Aaa,Aab,gu,bU,bY,bQ,bW,bZ,bj,bo,bh,bk,bp,bC,an.c,cb,lE,a1,a2,a3,b1,b2,b3,c1,c2,c3,d1,d2,d3,ag,ae,k0,r0,k1'])
        | (guard_target =~ al _ _ Fn.xG _ _ _
           refine al.val (by simp only[EO]) (gQ _ _ _ _) ?_
           rw[fG _ hE]
           simp only[au,Aaa,Aab,gu,bU,bY,bQ,bW,bZ,bj,bo,bh,bk,bp,bC,an.c,cb,lE,a1,a2,a3,b1,b2,b3,c1,c2,c3,d1,d2,d3,ag,ae,k0,r0,k1'])
        | (guard_target =~ al _ _ Fn.JD _ _ _
           refine al.fk (by simp only[EO,a3,b3,c3,d3]) (aI (aM.fk (ar.bO true v) o.own) (aI (.same _) aZ)) (fun h=>pg true v hL peer h) (.bool _) ?_
           simp only[au,Aaa,Aab,gu,bU,bY,bQ,bW,bZ,bj,bo,bh,bk,bp,bC,an.c,cb,lE,a1,a2,a3,b1,b2,b3,c1,c2,c3,d1,d2,d3,ag,ae,k0,r0,k1'])
        | exact⟨by rw[tw];rfl,by rw[tw];exact Co.refl o⟩
        | (guard_target =~ cY _=true;rfl)
        | refine And.intro ?_ ?_)
    · skip
      simp only[au,Aaa,Aab,gu,bU,bY,bQ,bW,bZ,bj,bo,bh,bk,bp,bC,an.c,cb,lE,a1,a2,a3,b1,b2,b3,c1,c2,c3,d1,d2,d3,ag,ae,k0,k1']
      repeat' (first
        | (guard_target =~ Mem _ _;first|exact Mem.loc ⟨_,([]:List (List AV))++[_,_],_⟩ _ [_]|exact Mem.loc ⟨_,([]:List (List AV))++[_,_,_],_⟩ _ [_]|exact Mem.loc ⟨_,([]:List (List AV))++[_,_,_,_],_⟩ _ [_]|exact eg.mem _ _ _)
        | (guard_target =~ jB _ _ _;first|exact gI rfl|exact jZ (L':=[_]) rfl)
        | (guard_target =~ al _ _ Fn.El _ _ _
           refine al.fk (by simp only[EO,a3,b3,c3,d3]) (aI (aM.fk (ar.bO true v) o.own) (aI (.same _) aZ)) (fun h=>ux true v hE x h) (.agg _ (by intro z hz;simp only[an.c,Aae,Aac,or_false]at hz;rcases hz with rfl|rfl<;>exact .int _ _)) ?_
           rw[←hy]
           simp only[au,Aaa,Aab,gu,bU,bY,bQ,bW,bZ,bj,bo,bh,bk,bp,bC,an.c,cb,lE,a1,a2,a3,b1,b2,b3,c1,c2,c3,d1,d2,d3,ag,ae,k0,k1'])
        | (guard_target =~ al _ _ Fn.xG [_,AV.int _ 0,AV.int _ 999999] _ _
           refine al.val (by simp only[EO]) (gQ _ _ _ _) ?_
           simp only[au,Aaa,Aab,gu,bU,bY,bQ,bW,bZ,bj,bo,bh,bk,bp,bC,an.c,cb,lE,a1,a2,a3,b1,b2,b3,c1,c2,c3,d1,d2,d3,ag,ae,k0,k1'])
        | (guard_target =~ al _ _ Fn.xG _ _ _
           refine al.val (by simp only[EO]) (gQ _ _ _ _) ?_
           rw[fG _ hE]
           simp only[au,Aaa,Aab,gu,bU,bY,bQ,bW,bZ,bj,bo,bh,bk,bp,bC,an.c,cb,lE,a1,a2,a3,b1,b2,b3,c1,c2,c3,d1,d2,d3,ag,ae,k0,k1'])
        | (guard_target =~ al _ _ Fn.JD _ _ _
           refine al.fk (by simp only[EO,a3,b3,c3,d3]) (aI (aM.fk (ar.bO true v) o.own) (aI (.same _) aZ)) (fun h=>pg true v hL peer h) (.bool _) ?_
           simp only[au,Aaa,Aab,gu,bU,bY,bQ,bW,bZ,bj,bo,bh,bk,bp,bC,an.c,cb,lE,a1,a2,a3,b1,b2,b3,c1,c2,c3,d1,d2,d3,ag,ae,k0,k1'])
        | exact⟨by rw[tw];rfl,by rw[tw];exact Co.refl o⟩
        | (guard_target =~ cY _=true;rfl)
        | refine And.intro ?_ ?_)
  have k0:decide (y.kind=0)=false:=aW (by omega)
  have k1':decide (y.kind=1)=true:=aR k1
  clear z0
  cases e1:bB y.n v.entities.length
  · simp only[e1,Aaj,Aar,Aaf,if_false]at tw
    simp only[au,Aaa,Aab,gu,bU,bY,bQ,bW,bZ,bj,bo,bh,bk,bp,bC,an.c,cb,lE,a1,a2,a3,b1,b2,b3,c1,c2,c3,d1,d2,d3,ag,ae,k0,k1',e1]
    repeat' (first
      | (guard_target =~ Mem _ _;first|exact Mem.loc ⟨_,([]:List (List AV))++[_,_],_⟩ _ [_]|exact Mem.loc ⟨_,([]:List (List AV))++[_,_,_],_⟩ _ [_]|exact Mem.loc ⟨_,([]:List (List AV))++[_,_,_,_],_⟩ _ [_]|exact eg.mem _ _ _)
      | (guard_target =~ jB _ _ _;first|exact gI rfl|exact jZ (L':=[_]) rfl)
      | (guard_target =~ al _ _ Fn.El _ _ _
         refine al.fk (by simp only[EO,a3,b3,c3,d3]) (aI (aM.fk (ar.bO true v) o.own) (aI (.same _) aZ)) (fun h=>ux true v hE x h) (.agg _ (by intro z hz;simp only[an.c,Aae,Aac,or_false]at hz;rcases hz with rfl|rfl<;>exact .int _ _)) ?_
         rw[←hy]
         simp only[au,Aaa,Aab,gu,bU,bY,bQ,bW,bZ,bj,bo,bh,bk,bp,bC,an.c,cb,lE,a1,a2,a3,b1,b2,b3,c1,c2,c3,d1,d2,d3,ag,ae,k0,k1',e1])
      | (guard_target =~ al _ _ Fn.xG [_,AV.int _ 0,AV.int _ 999999] _ _
         refine al.val (by simp only[EO]) (gQ _ _ _ _) ?_
         simp only[au,Aaa,Aab,gu,bU,bY,bQ,bW,bZ,bj,bo,bh,bk,bp,bC,an.c,cb,lE,a1,a2,a3,b1,b2,b3,c1,c2,c3,d1,d2,d3,ag,ae,k0,k1',e1])
      | (guard_target =~ al _ _ Fn.xG _ _ _
         refine al.val (by simp only[EO]) (gQ _ _ _ _) ?_
         rw[fG _ hE]
         simp only[au,Aaa,Aab,gu,bU,bY,bQ,bW,bZ,bj,bo,bh,bk,bp,bC,an.c,cb,lE,a1,a2,a3,b1,b2,b3,c1,c2,c3,d1,d2,d3,ag,ae,k0,k1',e1])
      | (guard_target =~ al _ _ Fn.JD _ _ _
         refine al.fk (by simp only[EO,a3,b3,c3,d3]) (aI (aM.fk (ar.bO true v) o.own) (aI (.same _) aZ)) (fun h=>pg true v hL peer h) (.bool _) ?_
         simp only[au,Aaa,Aab,gu,bU,bY,bQ,bW,bZ,bj,bo,bh,bk,bp,bC,an.c,cb,lE,a1,a2,a3,b1,b2,b3,c1,c2,c3,d1,d2,d3,ag,ae,k0,k1',e1])
      | exact⟨by rw[tw];rfl,by rw[tw];exact Co.refl o⟩
      | (guard_target =~ cY _=true;rfl)
      | refine And.intro ?_ ?_)
  cases u1:rO v.aq peer
  · simp only[u1,Aar,Aaf,if_false]at tw
    simp only[au,Aaa,Aab,gu,bU,bY,bQ,bW,bZ,bj,bo,bh,bk,bp,bC,an.c,cb,lE,a1,a2,a3,b1,b2,b3,c1,c2,c3,d1,d2,d3,ag,ae,k0,k1',e1,u1]
    repeat' (first
      | (guard_target =~ Mem _ _;first|exact Mem.loc ⟨_,([]:List (List AV))++[_,_],_⟩ _ [_]|exact Mem.loc ⟨_,([]:List (List AV))++[_,_,_],_⟩ _ [_]|exact Mem.loc ⟨_,([]:List (List AV))++[_,_,_,_],_⟩ _ [_]|exact eg.mem _ _ _)
      | (guard_target =~ jB _ _ _;first|exact gI rfl|exact jZ (L':=[_]) rfl)
      | (guard_target =~ al _ _ Fn.El _ _ _
         refine al.fk (by simp only[EO,a3,b3,c3,d3]) (aI (aM.fk (ar.bO true v) o.own) (aI (.same _) aZ)) (fun h=>ux true v hE x h) (.agg _ (by intro z hz;simp only[an.c,Aae,Aac,or_false]at hz;rcases hz with rfl|rfl<;>exact .int _ _)) ?_
         rw[←hy]
         simp only[au,Aaa,Aab,gu,bU,bY,bQ,bW,bZ,bj,bo,bh,bk,bp,bC,an.c,cb,lE,a1,a2,a3,b1,b2,b3,c1,c2,c3,d1,d2,d3,ag,ae,k0,k1',e1,u1])
      | (guard_target =~ al _ _ Fn.xG [_,AV.int _ 0,AV.int _ 999999] _ _
         refine al.val (by simp only[EO]) (gQ _ _ _ _) ?_
         simp only[au,Aaa,Aab,gu,bU,bY,bQ,bW,bZ,bj,bo,bh,bk,bp,bC,an.c,cb,lE,a1,a2,a3,b1,b2,b3,c1,c2,c3,d1,d2,d3,ag,ae,k0,k1',e1,u1])
      | (guard_target =~ al _ _ Fn.xG _ _ _
         refine al.val (by simp only[EO]) (gQ _ _ _ _) ?_
         rw[fG _ hE]
         simp only[au,Aaa,Aab,gu,bU,bY,bQ,bW,bZ,bj,bo,bh,bk,bp,bC,an.c,cb,lE,a1,a2,a3,b1,b2,b3,c1,c2,c3,d1,d2,d3,ag,ae,k0,k1',e1,u1])
      | (guard_target =~ al _ _ Fn.JD _ _ _
         refine al.fk (by simp only[EO,a3,b3,c3,d3]) (aI (aM.fk (ar.bO true v) o.own) (aI (.same _) aZ)) (fun h=>pg true v hL peer h) (.bool _) ?_
         simp only[au,Aaa,Aab,gu,bU,bY,bQ,bW,bZ,bj,bo,bh,bk,bp,bC,an.c,cb,lE,a1,a2,a3,b1,b2,b3,c1,c2,c3,d1,d2,d3,ag,ae,k0,k1',e1,u1])
      | exact⟨by rw[tw];rfl,by rw[tw];exact Co.refl o⟩
      | (guard_target =~ cY _=true;rfl)
      | refine And.intro ?_ ?_)
  obtain⟨j,ej,hj⟩:=A1 e1
  have e1':bB (j:Int) v.entities.length=true:=by rw[←ej];exact e1
  have hjm:j<(v.entities.map aA.cd).length:=by simpa using hj
  obtain⟨bR,gR,row,fR,iR,_,_,rR,_,oR,_,_,lR⟩:=o.oE.row o.nE hjm
  rw[Aan]at oR
  obtain⟨e,he⟩:∃e,e=v.entities[j]:=⟨_,rfl⟩
  have hge:v.entities.getD y.n.toNat default=e:=by rw[ej,Aal,Aad,Aah hj,he];rfl
  rw[←he]at oR
  obtain⟨wS,wQ,wA,fS,fQ,fA,rfl,_,oS,oQ,oA⟩:=c5 oR
  obtain⟨x1,x2,x3,x4⟩:=oS.cell
  obtain⟨x5,x6,x7,x8⟩:=oQ.cell
  obtain⟨x9,xa,xb,xc⟩:=oA.cell
  simp only[k1',e1,u1,Bool.and_self,if_true,hge]at tw
  by_cases p3:(decide (e.kind=3) && decide (e.peer=peer))=true
  · simp only[p3,if_true]at tw
    obtain⟨p1,p2⟩:=Aaq.1 p3
    simp only[au,Aaa,Aab,gu,bU,bY,bQ,bW,bZ,bj,bo,bh,bk,bp,bC,an.c,cb,lE,a1,a2,a3,b1,b2,b3,c1,c2,c3,d1,d2,d3,ag,ae,k0,k1',e1',u1,ej,iR,rR,x1,x2,x3,x5,x6,x7,x9,xa,xb,p1,p2]
    repeat' (first
      | (guard_target =~ Mem _ _;first|exact Mem.loc ⟨_,([]:List (List AV))++[_,_],_⟩ _ [_]|exact Mem.loc ⟨_,([]:List (List AV))++[_,_,_],_⟩ _ [_]|exact Mem.loc ⟨_,([]:List (List AV))++[_,_,_,_],_⟩ _ [_]|exact eg.mem _ _ _)
      | (guard_target =~ jB _ _ _;first|exact gI rfl|exact jZ (L':=[_]) rfl)
      | (guard_target =~ al _ _ Fn.El _ _ _
         refine al.fk (by simp only[EO,a3,b3,c3,d3]) (aI (aM.fk (ar.bO true v) o.own) (aI (.same _) aZ)) (fun h=>ux true v hE x h) (.agg _ (by intro z hz;simp only[an.c,Aae,Aac,or_false]at hz;rcases hz with rfl|rfl<;>exact .int _ _)) ?_
         rw[←hy]
         simp only[au,Aaa,Aab,gu,bU,bY,bQ,bW,bZ,bj,bo,bh,bk,bp,bC,an.c,cb,lE,a1,a2,a3,b1,b2,b3,c1,c2,c3,d1,d2,d3,ag,ae,k0,k1',e1',u1,ej,iR,rR,x1,x2,x3,x5,x6,x7,x9,xa,xb,p1,p2])
      | (guard_target =~ al _ _ Fn.xG [_,AV.int _ 0,AV.int _ 999999] _ _
         refine al.val (by simp only[EO]) (gQ _ _ _ _) ?_
         simp only[au,Aaa,Aab,gu,bU,bY,bQ,bW,bZ,bj,bo,bh,bk,bp,bC,an.c,cb,lE,a1,a2,a3,b1,b2,b3,c1,c2,c3,d1,d2,d3,ag,ae,k0,k1',e1',u1,ej,iR,rR,x1,x2,x3,x5,x6,x7,x9,xa,xb,p1,p2])
      | (guard_target =~ al _ _ Fn.xG _ _ _
         refine al.val (by simp only[EO]) (gQ _ _ _ _) ?_
         rw[fG _ hE]
         simp only[au,Aaa,Aab,gu,bU,bY,bQ,bW,bZ,bj,bo,bh,bk,bp,bC,an.c,cb,lE,a1,a2,a3,b1,b2,b3,c1,c2,c3,d1,d2,d3,ag,ae,k0,k1',e1',u1,ej,iR,rR,x1,x2,x3,x5,x6,x7,x9,xa,xb,p1,p2])
      | (guard_target =~ al _ _ Fn.JD _ _ _
         refine al.fk (by simp only[EO,a3,b3,c3,d3]) (aI (aM.fk (ar.bO true v) o.own) (aI (.same _) aZ)) (fun h=>pg true v hL peer h) (.bool _) ?_
         simp only[au,Aaa,Aab,gu,bU,bY,bQ,bW,bZ,bj,bo,bh,bk,bp,bC,an.c,cb,lE,a1,a2,a3,b1,b2,b3,c1,c2,c3,d1,d2,d3,ag,ae,k0,k1',e1',u1,ej,iR,rR,x1,x2,x3,x5,x6,x7,x9,xa,xb,p1,p2])
      | exact⟨by rw[tw];rfl,by rw[tw];exact Co.refl o⟩
      | (guard_target =~ cY _=true;rfl)
      | refine And.intro ?_ ?_)
  have p3':(decide (e.kind=3) && decide (e.peer=peer))=false:=by simpa using p3
  have z3:(decide (e.kind=3)=true∧decide (e.peer=peer)=false)∨decide (e.kind=3)=false:=by
    cases hk:decide (e.kind=3)
    · exact .inr rfl
    · rw[hk,Aat]at p3';exact .inl ⟨rfl,p3'⟩
  simp only[p3',Aaf,if_false,ej]at tw
  obtain⟨k,hk,ek,_⟩:=pM u1
  obtain⟨l,hl⟩:∃l,l=v.aq[k]:=⟨_,rfl⟩
  have hgl:v.aq.getD k default=l:=by rw[Aad,Aah hk,hl];rfl
  have ol:l.ok 1048576:=by rw[hl];exact hlk _ (List.getElem_mem hk)
  rw[ek]at tw
  simp only[Aal,hgl]at tw
  have hkm:k<(v.aq.map aF.cd).length:=by simpa using hk
  obtain⟨bL,gL,pre,rowL,post,fL0,iL,mL,lL,oLr,nLr,sLr,bmL,bnL,close⟩:=o.oL.sw o.nL hkm
  rw[Aan,←hl]at oLr
  have rL:∀(e:List AV) (L:List (List AV)),(St.mk e L H).cells (.gp bL gL pre.length) 7=some rowL:=fun e L=>by rw[mL.sH e L 7 (by omega)];exact sA lL
  obtain⟨wX,wQ',wA',fX,fq,fa,rfl,_,oX,oQq,oAa⟩:=ck oLr
  obtain⟨y1,y2,y3,y4⟩:=oX.cell
  obtain⟨y5,y6,y7,y8⟩:=oQq.cell
  obtain⟨y9,ya,yb,yc⟩:=oAa.cell
  have fin:∀(H4:AH) (row':List AV) (f':List Nat),aM H4 row' (jq l (j:Int)).1.cd f'→f'.Nodup→(∀c∈f',H.length≤c)→cQ H H4→∃H5,(∀(e:List AV) (L:List (List AV)),(St.mk e L H4).store (.gp bL gL pre.length) row'=some ⟨e,L,H5⟩)∧
      Co H b wE w2 wL w4 fE f2 fL f4 H5 { v with aq:=v.aq.set k (jq l (j:Int)).1 }:=by
    intro H4 row' f' o' n' b' eg
    have hfL:∀c∈fL,c<H.length:=fun c hc=>vlt c (aO.2 (.inr (.inr (.inl hc))))
    have hbq:=hfL bL bmL
    have rl:row'.length=7:=by rw[o'.len];rfl
    have m4:pj H4 bL gL pre _ post:=mL.frame (eg.fr bL hbq)
    obtain⟨H5,s5,m5,l5,r5⟩:=m4.store (i:=0) (vs:=row') (by rw[rl];exact Aam 7) o'.bM
    rw[Nat.add_zero]at s5
    have ov:∀row:List AV,row.length=7→c8 row 0 row'=row':=fun row h7=>by simp[c8,rl,h7]
    rw[ov _ lL]at m5
    have lx:=eg.len
    have o5:=o'.frame (h':=H5) fun c hc=>r5 c (fun e=>by have:=b' c hc;omega)
    obtain⟨fL',oL5,nL5,mL5⟩:=close H5 _ (jq l (j:Int)).1.cd f' o5 n' rfl (fun c hc=>.inr fun hm=>by have:=hfL c hm;have:=b' c hc;omega) m5 (fun c hc hcf hcb=>by rw[r5 c hcb];exact eg.fr c (hfL c hc))
    have hb5:cF H5 b=some (0,[.int .i64 v.id,wE,w2,wL,w4]):=by
      rw[bc (r5 b (fun e=>bf (aO.2 (.inr (.inr (.inl (e▸bmL))))))),bc (eg.fr b blt)];exact hb
    have hset:(v.aq.map aF.cd).set k (jq l (j:Int)).1.cd=(v.aq.set k (jq l (j:Int)).1).map aF.cd:=by rw[List.map_set]
    rw[hset]at oL5
    have u:=o.Jw (G:=f') hb5 oL5 nL5 (fun c hc=>by rcases mL5 c hc with g|g;exact .inl g;exact .inr (.inl g)) (fun c hc=>⟨fun hm=>by have:=vlt c hm;have:=b' c hc;omega,fun e=>by have:=b' c hc;omega⟩) (by omega)
      (fun c h1 h2 h3 h4=>by rw[r5 c (fun e=>h1 (e▸bmL)),eg.fr c h4])
    exact⟨H5,s5,fL',u,by omega,fun c g=>(mL5 c g).imp id (b' c),fun c h1 h3=>by rw[r5 c (fun e=>h1 (e▸bmL)),eg.fr c h3]⟩
  rcases z3 with⟨q1,q2⟩|q1
  · skip
    simp only[au,Aaa,Aab,gu,bU,bY,bQ,bW,bZ,bj,bo,bh,bk,bp,bC,an.c,cb,lE,a1,a2,a3,b1,b2,b3,c1,c2,c3,d1,d2,d3,ag,ae,k0,k1',e1',u1,ej,iR,rR,x1,x2,x3,x5,x6,x7,x9,xa,xb,q1,q2,iL,rL,ek,y1,y2,y3,y5,y6,y7,y9,ya,yb]
    repeat' (first
      | (guard_target =~ Mem _ _;first|exact Mem.loc ⟨_,([]:List (List AV))++[_,_],_⟩ _ [_]|exact Mem.loc ⟨_,([]:List (List AV))++[_,_,_],_⟩ _ [_]|exact Mem.loc ⟨_,([]:List (List AV))++[_,_,_,_],_⟩ _ [_]|exact eg.mem _ _ _)
      | (guard_target =~ jB _ _ _;first|exact gI rfl|exact jZ (L':=[_]) rfl)
      | (guard_target =~ al _ _ Fn.El _ _ _
         refine al.fk (by simp only[EO,a3,b3,c3,d3]) (aI (aM.fk (ar.bO true v) o.own) (aI (.same _) aZ)) (fun h=>ux true v hE x h) (.agg _ (by intro z hz;simp only[an.c,Aae,Aac,or_false]at hz;rcases hz with rfl|rfl<;>exact .int _ _)) ?_
         rw[←hy]
         simp only[au,Aaa,Aab,gu,bU,bY,bQ,bW,bZ,bj,bo,bh,bk,bp,bC,an.c,cb,lE,a1,a2,a3,b1,b2,b3,c1,c2,c3,d1,d2,d3,ag,ae,k0,k1',e1',u1,ej,iR,rR,x1,x2,x3,x5,x6,x7,x9,xa,xb,q1,q2,iL,rL,ek,y1,y2,y3,y5,y6,y7,y9,ya,yb])
      | (guard_target =~ al _ _ Fn.xG [_,AV.int _ 0,AV.int _ 999999] _ _
         refine al.val (by simp only[EO]) (gQ _ _ _ _) ?_
         simp only[au,Aaa,Aab,gu,bU,bY,bQ,bW,bZ,bj,bo,bh,bk,bp,bC,an.c,cb,lE,a1,a2,a3,b1,b2,b3,c1,c2,c3,d1,d2,d3,ag,ae,k0,k1',e1',u1,ej,iR,rR,x1,x2,x3,x5,x6,x7,x9,xa,xb,q1,q2,iL,rL,ek,y1,y2,y3,y5,y6,y7,y9,ya,yb])
      | (guard_target =~ al _ _ Fn.xG _ _ _
         refine al.val (by simp only[EO]) (gQ _ _ _ _) ?_
         rw[fG _ hE]
         simp only[au,Aaa,Aab,gu,bU,bY,bQ,bW,bZ,bj,bo,bh,bk,bp,bC,an.c,cb,lE,a1,a2,a3,b1,b2,b3,c1,c2,c3,d1,d2,d3,ag,ae,k0,k1',e1',u1,ej,iR,rR,x1,x2,x3,x5,x6,x7,x9,xa,xb,q1,q2,iL,rL,ek,y1,y2,y3,y5,y6,y7,y9,ya,yb])
      | (guard_target =~ al _ _ Fn.JD _ _ _
         refine al.fk (by simp only[EO,a3,b3,c3,d3]) (aI (aM.fk (ar.bO true v) o.own) (aI (.same _) aZ)) (fun h=>pg true v hL peer h) (.bool _) ?_
         simp only[au,Aaa,Aab,gu,bU,bY,bQ,bW,bZ,bj,bo,bh,bk,bp,bC,an.c,cb,lE,a1,a2,a3,b1,b2,b3,c1,c2,c3,d1,d2,d3,ag,ae,k0,k1',e1',u1,ej,iR,rR,x1,x2,x3,x5,x6,x7,x9,xa,xb,q1,q2,iL,rL,ek,y1,y2,y3,y5,y6,y7,y9,ya,yb])
      | (guard_target =~ al _ _ Fn.Uc _ _ _
         refine al.fk (by simp only[EO,a3,b3,c3,d3]) (aI (aM.fk (ar.bO true v) o.own) (aI (.same _) aZ)) (fun h=>yF true v hL peer h) (.int _ _) ?_
         rw[ek]
         simp only[au,Aaa,Aab,gu,bU,bY,bQ,bW,bZ,bj,bo,bh,bk,bp,bC,an.c,cb,lE,a1,a2,a3,b1,b2,b3,c1,c2,c3,d1,d2,d3,ag,ae,k0,k1',e1',u1,ej,iR,rR,x1,x2,x3,x5,x6,x7,x9,xa,xb,q1,q2,iL,rL,ek,y1,y2,y3,y5,y6,y7,y9,ya,yb])
      | (guard_target =~ al _ _ Fn.kcd _ _ _
         refine al.own (by simp only[EO,y3,y7,yb]) (aI (aM.fk (aF.bO true l) oLr) (aI (.same _) aZ)) (fun h=>LM true l ol (j:Int) h) ?_
         rintro _ H4 fr
         replace fr:aX H _ _ _:=fr
         obtain⟨row',f',rfl,o',n',b',eg⟩:=fr.a2 rfl
         obtain⟨H5,s5,fu⟩:=fin H4 row' f' o' n' b' eg
         obtain⟨wX2,wQ2,wA2,_,_,_,rfl,_,oX2,oQ2,oA2⟩:=ck o'
         obtain⟨z1,z2,z3,z4⟩:=oX2.cell
         obtain⟨z5,z6,z7,z8⟩:=oQ2.cell
         obtain⟨z9,za,zb,zc⟩:=oA2.cell
         have kp:∀e e' L,jB [] ⟨e,L,H⟩ ⟨e',L,H4⟩:=fun e e' L r hr=>by simp at hr
         have cb4:∀(e:List AV) (L:List (List AV)) (off n:Nat),(St.mk e L H4).cells (.gp b 0 off) n=sub [.int .i64 v.id,wE,w2,wL,w4] off n:=fun e L off n=>b8 (by rw[bc (eg.fr b blt)];exact hb)
         simp only[au,Aaa,Aab,gu,bU,bY,bQ,bW,bZ,bj,bo,bh,bk,bp,bC,an.c,cb,lE,a1,a2,a3,b1,b2,b3,c1,c2,c3,d1,d2,d3,ag,ae,k0,k1',e1',u1,ej,iR,rR,x1,x2,x3,x5,x6,x7,x9,xa,xb,q1,q2,iL,rL,ek,y1,y2,y3,y5,y6,y7,y9,ya,yb,CD.mY,cb4,z1,z2,z3,z5,z6,z7,z9,za,zb,s5])
      | exact eg.mem _ _ _
      | exact gh (eg.mem _ _ _)
      | exact⟨by rw[tw];rfl,by rw[tw];exact fu⟩
      | (guard_target =~ cY _=true;rfl)
      | refine And.intro ?_ ?_)
  · skip
    simp only[au,Aaa,Aab,gu,bU,bY,bQ,bW,bZ,bj,bo,bh,bk,bp,bC,an.c,cb,lE,a1,a2,a3,b1,b2,b3,c1,c2,c3,d1,d2,d3,ag,ae,k0,k1',e1',u1,ej,iR,rR,x1,x2,x3,x5,x6,x7,x9,xa,xb,q1,iL,rL,ek,y1,y2,y3,y5,y6,y7,y9,ya,yb]
    repeat' (first
      | (guard_target =~ Mem _ _;first|exact Mem.loc ⟨_,([]:List (List AV))++[_,_],_⟩ _ [_]|exact Mem.loc ⟨_,([]:List (List AV))++[_,_,_],_⟩ _ [_]|exact Mem.loc ⟨_,([]:List (List AV))++[_,_,_,_],_⟩ _ [_]|exact eg.mem _ _ _)
      | (guard_target =~ jB _ _ _;first|exact gI rfl|exact jZ (L':=[_]) rfl)
      | (guard_target =~ al _ _ Fn.El _ _ _
         refine al.fk (by simp only[EO,a3,b3,c3,d3]) (aI (aM.fk (ar.bO true v) o.own) (aI (.same _) aZ)) (fun h=>ux true v hE x h) (.agg _ (by intro z hz;simp only[an.c,Aae,Aac,or_false]at hz;rcases hz with rfl|rfl<;>exact .int _ _)) ?_
         rw[←hy]
         simp only[au,Aaa,Aab,gu,bU,bY,bQ,bW,bZ,bj,bo,bh,bk,bp,bC,an.c,cb,lE,a1,a2,a3,b1,b2,b3,c1,c2,c3,d1,d2,d3,ag,ae,k0,k1',e1',u1,ej,iR,rR,x1,x2,x3,x5,x6,x7,x9,xa,xb,q1,iL,rL,ek,y1,y2,y3,y5,y6,y7,y9,ya,yb])
      | (guard_target =~ al _ _ Fn.xG [_,AV.int _ 0,AV.int _ 999999] _ _
         refine al.val (by simp only[EO]) (gQ _ _ _ _) ?_
         simp only[au,Aaa,Aab,gu,bU,bY,bQ,bW,bZ,bj,bo,bh,bk,bp,bC,an.c,cb,lE,a1,a2,a3,b1,b2,b3,c1,c2,c3,d1,d2,d3,ag,ae,k0,k1',e1',u1,ej,iR,rR,x1,x2,x3,x5,x6,x7,x9,xa,xb,q1,iL,rL,ek,y1,y2,y3,y5,y6,y7,y9,ya,yb])
      | (guard_target =~ al _ _ Fn.xG _ _ _
         refine al.val (by simp only[EO]) (gQ _ _ _ _) ?_
         rw[fG _ hE]
         simp only[au,Aaa,Aab,gu,bU,bY,bQ,bW,bZ,bj,bo,bh,bk,bp,bC,an.c,cb,lE,a1,a2,a3,b1,b2,b3,c1,c2,c3,d1,d2,d3,ag,ae,k0,k1',e1',u1,ej,iR,rR,x1,x2,x3,x5,x6,x7,x9,xa,xb,q1,iL,rL,ek,y1,y2,y3,y5,y6,y7,y9,ya,yb])
      | (guard_target =~ al _ _ Fn.JD _ _ _
         refine al.fk (by simp only[EO,a3,b3,c3,d3]) (aI (aM.fk (ar.bO true v) o.own) (aI (.same _) aZ)) (fun h=>pg true v hL peer h) (.bool _) ?_
         simp only[au,Aaa,Aab,gu,bU,bY,bQ,bW,bZ,bj,bo,bh,bk,bp,bC,an.c,cb,lE,a1,a2,a3,b1,b2,b3,c1,c2,c3,d1,d2,d3,ag,ae,k0,k1',e1',u1,ej,iR,rR,x1,x2,x3,x5,x6,x7,x9,xa,xb,q1,iL,rL,ek,y1,y2,y3,y5,y6,y7,y9,ya,yb])
      | (guard_target =~ al _ _ Fn.Uc _ _ _
         refine al.fk (by simp only[EO,a3,b3,c3,d3]) (aI (aM.fk (ar.bO true v) o.own) (aI (.same _) aZ)) (fun h=>yF true v hL peer h) (.int _ _) ?_
         rw[ek]
         simp only[au,Aaa,Aab,gu,bU,bY,bQ,bW,bZ,bj,bo,bh,bk,bp,bC,an.c,cb,lE,a1,a2,a3,b1,b2,b3,c1,c2,c3,d1,d2,d3,ag,ae,k0,k1',e1',u1,ej,iR,rR,x1,x2,x3,x5,x6,x7,x9,xa,xb,q1,iL,rL,ek,y1,y2,y3,y5,y6,y7,y9,ya,yb])
      | (guard_target =~ al _ _ Fn.kcd _ _ _
         refine al.own (by simp only[EO,y3,y7,yb]) (aI (aM.fk (aF.bO true l) oLr) (aI (.same _) aZ)) (fun h=>LM true l ol (j:Int) h) ?_
         rintro _ H4 fr
         replace fr:aX H _ _ _:=fr
         obtain⟨row',f',rfl,o',n',b',eg⟩:=fr.a2 rfl
         obtain⟨H5,s5,fu⟩:=fin H4 row' f' o' n' b' eg
         obtain⟨wX2,wQ2,wA2,_,_,_,rfl,_,oX2,oQ2,oA2⟩:=ck o'
         obtain⟨z1,z2,z3,z4⟩:=oX2.cell
         obtain⟨z5,z6,z7,z8⟩:=oQ2.cell
         obtain⟨z9,za,zb,zc⟩:=oA2.cell
         have kp:∀e e' L,jB [] ⟨e,L,H⟩ ⟨e',L,H4⟩:=fun e e' L r hr=>by simp at hr
         have cb4:∀(e:List AV) (L:List (List AV)) (off n:Nat),(St.mk e L H4).cells (.gp b 0 off) n=sub [.int .i64 v.id,wE,w2,wL,w4] off n:=fun e L off n=>b8 (by rw[bc (eg.fr b blt)];exact hb)
         simp only[au,Aaa,Aab,gu,bU,bY,bQ,bW,bZ,bj,bo,bh,bk,bp,bC,an.c,cb,lE,a1,a2,a3,b1,b2,b3,c1,c2,c3,d1,d2,d3,ag,ae,k0,k1',e1',u1,ej,iR,rR,x1,x2,x3,x5,x6,x7,x9,xa,xb,q1,iL,rL,ek,y1,y2,y3,y5,y6,y7,y9,ya,yb,CD.mY,cb4,z1,z2,z3,z5,z6,z7,z9,za,zb,s5])
      | exact eg.mem _ _ _
      | exact gh (eg.mem _ _ _)
      | exact⟨by rw[tw];rfl,by rw[tw];exact fu⟩
      | (guard_target =~ cY _=true;rfl)
      | refine And.intro ?_ ?_)
def IM(N:Nat)(v:ar):Prop:=∀l∈v.aq,l.ok N
theorem IM.mono{N M:Nat}{v:ar}(h:IM N v)(hN:N≤M):IM M v:=fun l hl=>(h l hl).mono hN
theorem tT(l:aF)(e:Int):(jq l e).1.exports.length≤l.exports.length+1∧(jq l e).1.questions=l.questions∧(jq l e).1.answers=l.answers:=by
 unfold jq;split<;>simp
theorem Nh{N:Nat}{l:aF}(h:l.ok N)(e:Int):(jq l e).1.ok (N+1):=by
 obtain⟨p1,p2,p3⟩:=tT l e;refine⟨by have:=h.1;omega,by rw[p2];have:=h.2.1;omega,by rw[p3];have:=h.2.2;omega⟩
theorem Jt{N:Nat}{v:ar}(h:IM N v)(k:Nat):(v.aq.getD k default).ok N:=by
 rw[Aad];cases hk:v.aq[k]? with
 | some l=>exact h l (List.mem_of_getElem? hk)
 | none=>exact⟨Aaw _,Aaw _,Aaw _⟩
theorem Ec(v:ar)(peer:Int)(x:an):(bq v peer x).1.entities=v.entities∧(bq v peer x).1.aq.length=v.aq.length:=by
 unfold bq;split
 ·exact⟨rfl,rfl⟩
 ·split
  ·split
   ·exact⟨rfl,rfl⟩
   ·exact⟨rfl,List.length_set⟩
  ·exact⟨rfl,rfl⟩
theorem G1{N:Nat}{v:ar}(h:IM N v)(peer:Int)(x:an):IM (N+1) (bq v peer x).1:=by
 have h1:IM (N+1) v:=h.mono (by omega);unfold bq;split
 ·exact h1
 ·split
  ·split
   ·exact h1
   ·intro l hl;rcases List.mem_or_eq_of_mem_set hl with g|g
    ·exact h1 l g
    ·rw[g];exact Nh (Jt h _) _
  ·exact h1
def aQ(v:ar)(peer:Int):List an→ar×List aJ
 | []=>(v,[])
 | x::l=>((aQ (bq v peer x).1 peer l).1,(bq v peer x).2::(aQ (bq v peer x).1 peer l).2)
theorem s8(peer:Int)(x:an):∀(l:List an) (v:ar),aQ v peer (l++[x])=((bq (aQ v peer l).1 peer x).1,(aQ v peer l).2++[(bq (aQ v peer l).1 peer x).2])
 | [],v=>rfl
 | y::l,v=>by simp only[List.cons_append,aQ,s8 peer x l]
theorem nM(peer:Int):∀(l:List an) (v:ar),(aQ v peer l).1.entities=v.entities∧(aQ v peer l).1.aq.length=v.aq.length
 | [],v=>⟨rfl,rfl⟩
 | x::l,v=>by
  have h1:=Ec v peer x;have h2:=nM peer l (bq v peer x).1;simp only[aQ];exact⟨h2.1.trans h1.1,h2.2.trans h1.2⟩
theorem u9(peer:Int):∀(l:List an) {N:Nat} {v:ar},IM N v→IM (N+l.length) (aQ v peer l).1
 | [],_,_,h=>h
 | x::l,N,v,h=>by
  have:=u9 peer l (G1 h peer x);simp only[aQ,Aao];exact this.mono (by omega)
theorem qF(peer:Int):∀(l:List an) (v:ar),(aQ v peer l).2.length=l.length
 | [],v=>rfl
 | x::l,v=>by simp only[aQ,Aao,qF peer l]
set_option maxHeartbeats 4000000 in
theorem Z9(v:ar)(hE:v.entities.length≤1048576)(hL:v.aq.length≤1048576){N:Nat}(hlk:IM N v)(peer:Int)(l:List an)(hN:N+l.length≤1048576)(H:AH){b:Nat}{wE w2 wL w4:AV}{fE f2 fL f4:List Nat}(o:VO H b v wE w2 wL w4 fE f2 fL f4){wa:AV}{fa:List Nat}(oa:b9 H wa (.sl 2 (l.map an.cd)) fa)(na:fa.Nodup)(da:∀c∈fa,c∉fL):
 T pQ Γ Fn.kcE [.gp b 0 0,.int .i64 peer,wa] H fun r H'=>∃fL' fw,VO H' b (aQ v peer l).1 wE w2 wL w4 fE f2 fL' f4∧b9 H' r (.sl 2 ((aQ v peer l).2.map aJ.cd)) fw∧fw.Nodup∧H.length≤H'.length∧(∀c∈fL',c∈fL∨H.length≤c)∧(∀c∈fw,H.length≤c∧c∉fL')∧(∀c,c∉fL→c<H.length→H'[c]? = H[c]?):=by
 have LA:=(dc oa).2;rw[Aai]at LA;have q1:=o.lt;have q2:=o.blt;refine Vx (aC aG mixed [] _ _ _ ?_);unfold R6;simp only[au,Aaa,Aab,Df,EA];refine fD aG mixed [] (fun x:Nat×AV×AH×List Nat×List Nat×List (List AV)=>x.1≤l.length∧VO x.2.2.1 b (aQ v peer (l.take x.1)).1 wE w2 wL w4 fE f2 x.2.2.2.1 f4∧b9 x.2.2.1 x.2.1 (.sl 2 ((aQ v peer (l.take x.1)).2.map aJ.cd)) x.2.2.2.2.1∧x.2.2.2.2.1.Nodup∧H.length≤x.2.2.1.length∧(∀c∈x.2.2.2.1,c∈fL∨H.length≤c)∧(∀c∈x.2.2.2.2.1,H.length≤c∧c∉x.2.2.2.1)∧(∀c,c∉fL→c<H.length→x.2.2.1[c]? = H[c]?)) (fun x=>l.length-x.1)
  (fun x=>DQ (.gp b 0 0) (.int .i64 peer) wa x.2.1 (.int .i64 x.1) x.2.2.2.2.2 x.2.2.1) (0,.gs H.length 0 0 0 0 2 true,H++[some (0,[])],fL,[H.length],[])
  ⟨by simp,o.frame fun c hc=>Aag (by rcases hc with g|g;exact q1 c g;rw[g];exact q2),gn H 2,by simp,by simp,fun c hc=>.inl hc,fun c hc=>by rw[Aau.1 hc];exact⟨Aam _,fun g=>by have:=q1 _ (aO.2 (.inr (.inr (.inl g))));omega⟩,fun c _ h=>Aag h⟩ ⟨by simp[DQ,gW,gM],rfl,rfl⟩ ?_
 rintro⟨k,w,H1,f1,fw,M⟩ ⟨hk,ha,ho,nd,hl1,m1,mw,r1⟩;simp only at hk ha ho nd hl1 m1 mw r1;simp only[au,Aaa,Aab,Df,DQ,LA];refine bz (fun hlt=>?_) (fun hge=>?_);rotate_left
 ·have hge:k=l.length:=by simp at hge;omega
  subst hge;rw[List.take_length]at ha ho;obtain⟨ca,cb,cc,cd⟩:=ho.cell;simp only[au,Aaa,Aab,Df,ca,cb,cc];exact⟨ho.cY,f1,fw,ha,ho,nd,hl1,m1,mw,r1⟩
 have hlt:k<l.length:=by simpa using hlt
 have oa1:b9 H1 wa (.sl 2 (l.map an.cd)) fa:=oa.frame fun c hc=>r1 c (da c hc) (oa.lt c hc);obtain⟨bR,gR,row,fR,iR,_,_,rR,_,oR,_,_,lR⟩:=oa1.row na (k:=k) (by simpa using hlt);rw[Aan]at oR;obtain⟨x,hx⟩:∃x,x=l[k]:=⟨_,rfl⟩
 rw[←hx]at oR;simp only[an.cd,jv,jy,j6]at oR;obtain⟨_,_,_,_,rfl,rfl,⟨rfl,rfl⟩,⟨_,_,_,_,rfl,rfl,⟨rfl,rfl⟩,⟨rfl,rfl⟩⟩⟩:=oR;have te:=nM peer (l.take k) v;have hk2:(l.take k).length=k:=by rw[List.length_take];exact Nat.min_eq_left hk
 have to:IM 1048576 (aQ v peer (l.take k)).1:=(u9 peer (l.take k) hlk).mono (by rw[hk2];omega);have ts:aQ v peer (l.take (k+1))=((bq (aQ v peer (l.take k)).1 peer x).1,(aQ v peer (l.take k)).2++[(bq (aQ v peer (l.take k)).1 peer x).2]):=by
  rw[List.take_succ_eq_append_getElem hlt,←hx,s8]
 have tl:=qF peer (l.take k) v;obtain⟨vk,hvk⟩:∃vk,vk=(aQ v peer (l.take k)).1:=⟨_,rfl⟩
 obtain⟨wk,hwk⟩:∃wk,wk=(aQ v peer (l.take k)).2:=⟨_,rfl⟩
 rw[←hvk]at ha te to ts;rw[←hwk]at ho ts tl;obtain⟨ca,cb,cc,cd⟩:=ho.cell;simp only[au,Aaa,Aab,Df,iR,rR,ca,cb,cc];refine al.ref (by simp only[EO]) (OG vk (by rw[te.1];exact hE) (by rw[te.2];exact hL) to peer x H1 ha) ?_;rintro r H2 ⟨rfl,f2',a2,l2,m2,r2⟩;replace a2:VO H2 b _ wE w2 wL w4 fE f2 f2' f4:=a2;replace l2:H1.length≤H2.length:=l2;replace r2:∀c,c∉f1→c<H1.length→H2[c]? = H1[c]?:=r2;obtain⟨y,hy⟩:∃y,y=(bq vk peer x).2:=⟨_,rfl⟩
 rw[←hy]at ts ⊢;have o2:b9 H2 w (.sl 2 (wk.map aJ.cd)) fw:=ho.frame fun c hc=>r2 c (mw c hc).2 (ho.lt c hc);obtain⟨v',H',fp',ea,o',nd',hf',hl',hm'⟩:=df (bytes:=16) o2 (ys:=[.int .i64 y.kind,.int .i64 y.n]) (row:=[.i .i64 y.kind,.i .i64 y.n]) (f2:=[]) (by simpa using nd) (by omega) rfl (.i (.i .nil)) (by simp only[Aai,aU];omega);simp only[au,Aaa,Aab,Df,EA,aJ.c,ca,cb,cc,ea];have old:∀c∈fw,c∉dh fE f2 f2' f4∧c≠b:=fun c hw=>by
  refine⟨fun h=>?_,fun e=>by have:=(mw c hw).1;omega⟩;rcases aO.1 h with g|g|g|g
  ·have:=q1 c (aO.2 (.inl g));have:=(mw c hw).1;omega
  ·have:=q1 c (aO.2 (.inr (.inl g)));have:=(mw c hw).1;omega
  ·rcases m2 c g with q|q
   ·exact(mw c hw).2 q
   ·have:=ho.lt c hw;omega
  ·have:=q1 c (aO.2 (.inr (.inr (.inr g))));have:=(mw c hw).1;omega
 have lt2:=a2.lt;have bt2:=a2.blt;refine⟨(k+1,v',H',f2',fp',_),⟨hlt,by
  simp only;rw[ts];exact a2.frame fun c hc=>hf' c (fun hw=>by rcases hc with g|g;exact(old c hw).1 g;exact(old c hw).2 g) (by rcases hc with g|g;exact lt2 c g;rw[g];exact bt2),by simp only;rw[ts,List.map_append];exact o',nd',by simp only;omega,fun c hc=>?_,fun c hc=>?_,fun c h1 h3=>?_⟩,by simp only;omega,⟨by rw[wN (by omega)];simp[DQ,gW,gM],rfl,rfl⟩⟩
 ·rcases m2 c hc with g|g
  ·exact m1 c g
  ·exact .inr (by omega)
 ·rcases hm' c hc with g|g|g
  ·exact⟨(mw c g).1,fun h=>(old c g).1 (aO.2 (.inr (.inr (.inl h))))⟩
  ·simp at g
  ·exact⟨by omega,fun h=>by have:=lt2 c (aO.2 (.inr (.inr (.inl h))));omega⟩
 ·simp only;rw[hf' c (fun g=>by have:=(mw c g).1;omega) (by omega),r2 c (fun g=>by rcases m1 c g with q|q;exact h1 q;omega) (by omega),r1 c h1 h3]
def lM(v:ar)(x:an):Bool:=decide (x.kind=1) && (bB x.n v.entities.length && rQ (v.entities.getD x.n.toNat default))
theorem Km{v:ar}{x:an}{j:Nat}(hk:x.kind=1)(hj:j<v.entities.length)(ej:x.n=(j:Int)):lM v x=rQ v.entities[j]:=by
 have h1:bB (j:Int) v.entities.length=true:=by simp only[bB,Aav,decide_eq_true_eq];omega
 simp only[lM,hk,decide_true,ej,h1,Aat,Aal,Aad,Aah hj,Option.getD_some]
theorem Xu(β β':Bool)(v:ar)(hE:v.entities.length≤1048576)(x:an)(H:AH){p:AV}(hp:Ptr H p (v.c β)):T pQ Γ Fn.U7 [p,.agg (x.c β')] H fun r h'=>r=.bool (lM v x)∧h'=H:=by
 have L0:=eY β 12 false v.entities (aA.c β);refine Xe (aC aG mixed [] _ _ _ ?_);unfold QG;by_cases k1:x.kind=1;rotate_left
 ·have e:lM v x=false:=by simp only[lM,aW k1,Aaj]
  simp only[au,Aaa,Aab,BO,tU,oD,cK,an.c,ae,aW k1,e];first|exact⟨rfl,rfl⟩|exact rfl|trivial
 cases e1:bB x.n v.entities.length
 ·have e:lM v x=false:=by simp only[lM,e1,Aaj,Aar]
  simp only[au,Aaa,Aab,BO,tU,oD,cK,an.c,ae,aR k1,hp.nil,hp.fld,hp.rd,ar.lX,Aap,ar.c,L0];refine al.val (by simp only[EO]) (gQ _ _ _ _) ?_;rw[fG _ hE,e1];simp only[au,Aaa,Aab,BO,tU,oD,cK,an.c,e];first|exact⟨rfl,rfl⟩|exact rfl|trivial
 obtain⟨j,ej,hj⟩:=A1 e1;have e:=Km k1 hj ej;have i0:=fI (β:=β) (sz:=12) (ex:=false) (ce:=aA.c β) hj;have e1':bB (j:Int) v.entities.length=true:=by rw[←ej];exact e1
 obtain⟨en,hen⟩:∃en,en=v.entities[j]:=⟨_,rfl⟩
 rw[←hen]at i0 e;simp only[au,Aaa,Aab,BO,tU,oD,cK,an.c,ae,aR k1,hp.nil,hp.fld,hp.rd,ar.lX,Aap,ar.c,L0,ej];refine al.val (by simp only[EO]) (gQ _ _ _ _) ?_;rw[fG _ hE,e1'];simp only[au,Aaa,Aab,BO,tU,oD,cK,qH,an.c,ae,hp.nil,hp.fld,hp.rd,ar.lX,Aap,ar.c,L0,ej,i0,aA.c];refine al.val (by simp only[EO]) (JJ β en _) ?_;simp only[au,Aaa,Aab,BO,tU,oD,e];first|exact⟨rfl,rfl⟩|exact rfl|trivial
def vv(peer:Int):aF:=⟨peer,true,[],0,[],0,[]⟩
def Ih(peer:Int):List AV:=[.int .i64 peer,.bool true,.nils,.int .i64 0,.nils,.int .i64 0,.nils]
theorem IY(H:AH)(peer:Int):aM H (Ih peer) (vv peer).cd []:=.i (.b (.o (.nil _) (.i (.o (.nil _) (.i (.o (.nil _) .nil))))))
theorem Xf(peer:Int)(h:AH):T pQ Γ Fn.kb7 [.int .i64 peer] h fun v h'=>v=.agg (Ih peer)∧h'=h:=by
 refine UC (aC aG mixed [] _ _ _ ?_);unfold SL;simp only[au,Aaa,Aab,QB,cK,Ih];first|exact⟨rfl,rfl⟩|exact rfl|trivial
def jh(script:Int)(l:List an):aA:=⟨1,script,l,0,⟨0,0⟩,[],[],0,0,0,0⟩
theorem Pb(β:Bool)(script:Int)(l:List an)(hl:l.length≤1048576)(h:AH):T pQ Γ Fn.kb8 [.int .i64 script,.vs β 2 false (l.map (an.c β))] h (aX h [.a (jh script l).cd]):=by
 refine T.jJ ?_;refine kb8_e (aC aG mixed [] _ _ _ ?_);unfold Qv;have ob:=gn h 2;obtain⟨v',H',fp',ea,o',nd',hf',hl',hm'⟩:=rY (bytes:=16) (β:=β) (l:=l) (c:=an.c β) (cd:=an.cd) ob (by simp) (by omega) (fun x=>⟨rfl,rfl⟩) (fun x=>by simp[an.c,an.cd,CD.mY]) (by simp only[Aax,Aay,aU];omega);obtain⟨c1,c2,c3,c4⟩:=o'.cell;have hx:cQ h H':=⟨by simp at hl';omega,fun c hc=>by rw[hf' c (by simp;omega) (by simp;omega)];exact Aag hc⟩
 simp only[au,Aaa,Aab,O4,EA,A3,ea,c1,c2,c3];obtain⟨N,rfl⟩:=hx.out;have oo:aM (h++N) [.int .i64 1,.int .i64 script,v',.int .i64 0,.int .i64 0,.int .i64 0,.nils,.nils,.int .i64 0,.int .i64 0,.int .i64 0,.int .i64 0] (jh script l).cd fp':=by
  rw[List.nil_append]at o';have:=jo (e:=jh script l) (H:=h++N) o' (.nil 7) (.nil 2);simpa[jh]using this
 refine⟨by simp only[EO,cY,c1,c2,c3,c4],_,N,fp',rfl,rfl,oo,nd',fun c hc=>?_⟩;rcases hm' c hc with g|g
 ·rw[Aau.1 g];exact Aam _
 ·simp at g;omega
theorem CQ{H:AH}{b:Nat}{cs:List AV}{off:Nat}{v:AV}(hg:cF H b=some (0,cs))(ho:off+1≤cs.length)(hv:bM v=true)(e:List AV)(l:List (List AV)):(St.mk e l H).store (.gp b 0 off) [v]=some ⟨e,l,H.set b (some (0,c8 cs off [v]))⟩:=by
 simp only[St.store,hg,Option.bind_some,if_true,Aao,Aax,Aay];rw[if_pos ho];simp[hv]
theorem Gi{H:AH}{b:Nat}{x:Nat×List AV}(h:b<H.length):cF (H.set b (some x)) b=some x:=by simp[cF,h]
theorem HQ(a:Int):∃x,fg .and .num (.int .i64 a) (.int .i64 255)=some (.int .i64 x)∧0≤x∧x≤255:=FO a (m:=255) (by omega)
theorem WJ(H:AH){b:Nat}{bs:List Int}(hb:bs.length≤1073741824)(hc:w9 H b bs):T pQ Γ Fn.kc0 [.gp b 0 0] H fun v h'=>∃x:Int,v=.int .i64 x∧0≤x∧x≤255∧w9 h' b bs∧h'.length=H.length∧∀c,c≠b→h'[c]? = H[c]?:=by
 obtain⟨i,hh,hi,hg⟩:=hc;have hbl:b<H.length:=eS hg;have L0:=eY false 1 false bs (fun n=>[AV.int .u8 n]);have cl:∀(e:List AV) (l:List (List AV)) (off n:Nat),(St.mk e l H).cells (.gp b 0 off) n=sub [.vs false 1 false (bs.map fun n=>[.int .u8 n]),.int .i64 i,.int .i64 hh] off n:=fun e l off n=>b8 hg;refine W8 (aC aG mixed [] _ _ _ ?_);unfold Q2;obtain⟨h1,e1⟩:∃h1,h1=IntKind.i64.wrap (IntKind.i64.wrap (hh*6364136223846793005)+1442695040888963407):=⟨_,rfl⟩
 have st:=CQ (off:=2) (v:=.int .i64 h1) hg (by simp) rfl;have eo:c8 [AV.vs false 1 false (bs.map fun n=>[.int .u8 n]),.int .i64 i,.int .i64 hh] 2 [.int .i64 h1]=[.vs false 1 false (bs.map fun n=>[.int .u8 n]),.int .i64 i,.int .i64 h1]:=rfl;rw[eo]at st;obtain⟨H1,hH1⟩:∃H1,H1=H.set b (some (0,[.vs false 1 false (bs.map fun n=>[.int .u8 n]),.int .i64 i,.int .i64 h1])):=⟨_,rfl⟩
 rw[←hH1]at st;have hg1:cF H1 b=some (0,[.vs false 1 false (bs.map fun n=>[.int .u8 n]),.int .i64 i,.int .i64 h1]):=by rw[hH1];exact Gi hbl
 have cl1:∀(e:List AV) (l:List (List AV)) (off n:Nat),(St.mk e l H1).cells (.gp b 0 off) n=sub [.vs false 1 false (bs.map fun n=>[.int .u8 n]),.int .i64 i,.int .i64 h1] off n:=fun e l off n=>b8 hg1;have hl1:H1.length=H.length:=by rw[hH1];simp
 have hf1:∀c,c≠b→H1[c]? = H[c]?:=fun c hc=>by rw[hH1];exact Aas (Ne.symm hc)
 obtain⟨x1,s1⟩:=J2 .i64 .u64 h1 (b:=33) (by omega);obtain⟨x2,s2⟩:=J2 .i64 .u64 h1 (b:=47) (by omega);obtain⟨x3,s3⟩:=Ty .i64 x1 x2;obtain⟨x4,s4,x40,x41⟩:=HQ x3;simp only[au,Aaa,Aab,HF,BH,Bk,Bc,tq,tD,tG,cl,←e1,st,cl1,s1,s2,s3,s4,L0];by_cases hlt:i<(bs.length:Int);rotate_left
 ·simp only[au,Aaa,Aab,HF,BH,Bk,Bc,tq,tD,tG,aW hlt];first|exact⟨rfl,x4,rfl,x40,x41,⟨i,h1,hi,hg1⟩,hl1,hf1⟩|exact⟨x4,rfl,x40,x41,⟨i,h1,hi,hg1⟩,hl1,hf1⟩
 obtain⟨k,rfl⟩:∃k:Nat,i=k:=⟨i.toNat,by omega⟩
 have hk:k<bs.length:=by omega
 have i0:=fI (β:=false) (sz:=1) (ex:=false) (ce:=fun n:Int=>[AV.int .u8 n]) hk;obtain⟨x5,s5,x50,x51⟩:=HQ (IntKind.i64.wrap (x4+IntKind.i64.wrap bs[k]));have st2:=CQ (off:=1) (v:=.int .i64 (IntKind.i64.wrap ((k:Int)+1))) hg1 (by simp) rfl;have hw:IntKind.i64.wrap ((k:Int)+1)=((k+1:Nat):Int):=wN (by omega);simp only[au,Aaa,Aab,HF,BH,Bk,Bc,tq,tD,tG,aR hlt,cl1,i0,O3,s5,st2];have hbl1:b<H1.length:=by omega
 have fin:w9 (H1.set b (some (0,c8 [AV.vs false 1 false (bs.map fun n=>[.int .u8 n]),.int .i64 (k:Int),.int .i64 h1] 1 [.int .i64 (IntKind.i64.wrap ((k:Int)+1))]))) b bs:=⟨((k+1:Nat):Int),h1,by omega,by rw[Gi hbl1,hw];rfl⟩
 have hl2:(H1.set b (some (0,c8 [AV.vs false 1 false (bs.map fun n=>[.int .u8 n]),.int .i64 (k:Int),.int .i64 h1] 1 [.int .i64 (IntKind.i64.wrap ((k:Int)+1))]))).length=H.length:=by simp[hl1]
 have hf2:∀c,c≠b→(H1.set b (some (0,c8 [AV.vs false 1 false (bs.map fun n=>[.int .u8 n]),.int .i64 (k:Int),.int .i64 h1] 1 [.int .i64 (IntKind.i64.wrap ((k:Int)+1))])))[c]? = H[c]?:=fun c hc=>by rw[Aas (Ne.symm hc)];exact hf1 c hc
 first|exact⟨rfl,x5,rfl,x50,x51,fin,hl2,hf2⟩|exact⟨x5,rfl,x50,x51,fin,hl2,hf2⟩
theorem Gx{x n:Int}(hx:0≤x)(hn:0<n):∃r,fg .rem .num (.int .i64 x) (.int .i64 n)=some (.int .i64 r)∧0≤r∧r<n:=by
 refine⟨x.tmod n,?_,?_,?_⟩
 ·simp only[fg,lF,if_true];rw[if_neg (by omega)]
 ·exact Int.tmod_nonneg n hx
 ·exact Aak x hn
structure BZ (H h':AH) (b:Nat) (bs:List Int):Prop where
 cur:w9 h' b bs
 len:h'.length=H.length
 fr:∀c,c≠b→h'[c]? = H[c]?
theorem BZ.trans{H h1 h2:AH}{b:Nat}{bs:List Int}(a:BZ H h1 b bs)(c:BZ h1 h2 b bs):BZ H h2 b bs:=⟨c.cur,c.len.trans a.len,fun x hx=>(c.fr x hx).trans (a.fr x hx)⟩
theorem yJ(H:AH){b:Nat}{bs:List Int}(hb:bs.length≤1073741824)(hc:w9 H b bs):T pQ Γ Fn.kc0 [.gp b 0 0] H fun v h'=>∃x:Int,v=.int .i64 x∧0≤x∧x≤255∧BZ H h' b bs:=
 (WJ H hb hc).mono fun v h' ⟨x,e,h0,h1,h2,h3,h4⟩=>⟨x,e,h0,h1,⟨h2,h3,h4⟩⟩
theorem Zy(H:AH){b:Nat}{bs:List Int}(hb:bs.length≤1073741824)(hc:w9 H b bs)(n:Int):T pQ Γ Fn.kcZ [.gp b 0 0,.int .i64 n] H fun v h'=>∃x:Int,v=.int .i64 x∧0≤x∧(0<n→x<n)∧BZ H h' b bs:=by
 have h0:BZ H H b bs:=⟨hc,rfl,fun _ _=>rfl⟩
 refine VT (aC aG mixed [] _ _ _ ?_);unfold S2;by_cases c1:n≤0
 ·simp only[au,Aaa,Aab,As,aR c1];first|exact⟨rfl,0,rfl,by omega,fun h=>by omega,h0⟩|exact⟨0,rfl,by omega,fun h=>by omega,h0⟩
 by_cases c2:n≤256
 ·simp only[au,Aaa,Aab,As,aW c1,aR c2];refine al.ref (by simp only[EO]) (yJ _ hb hc) ?_;rintro _ H1 ⟨x,rfl,x0,x1,d1⟩;replace d1:BZ H H1 b bs:=d1;obtain⟨r,e,r0,r1⟩:=Gx x0 (show 0<n by omega);simp only[au,Aaa,Aab,As,e];first|exact⟨rfl,r,rfl,r0,fun _=>r1,d1⟩|exact⟨r,rfl,r0,fun _=>r1,d1⟩
 simp only[au,Aaa,Aab,As,aW c1,aW c2];refine al.ref (by simp only[EO]) (yJ _ hb hc) ?_;rintro _ H1 ⟨x,rfl,x0,x1,d1⟩;replace d1:BZ H H1 b bs:=d1;simp only[au,Aaa,Aab,As];refine al.ref (by simp only[EO]) (yJ _ hb d1.cur) ?_;rintro _ H2 ⟨y,rfl,y0,y1,d2⟩;replace d2:BZ H1 H2 b bs:=d2;simp only[au,Aaa,Aab,As];refine al.ref (by simp only[EO]) (yJ _ hb d2.cur) ?_;rintro _ H3 ⟨z,rfl,z0,z1,d3⟩;replace d3:BZ H2 H3 b bs:=d3;have w1:IntKind.i64.wrap (x*65536)=x*65536:=by
  have:x*65536=((x.toNat*65536:Nat):Int):=by omega
  rw[this];exact jO (by omega) (by omega)
 have w2:IntKind.i64.wrap (y*256)=y*256:=by
  have:y*256=((y.toNat*256:Nat):Int):=by omega
  rw[this];exact jO (by omega) (by omega)
 have w3:IntKind.i64.wrap (x*65536+y*256)=x*65536+y*256:=by
  have:x*65536+y*256=((x.toNat*65536+y.toNat*256:Nat):Int):=by omega
  rw[this];exact jO (by omega) (by omega)
 have w4:IntKind.i64.wrap (x*65536+y*256+z)=x*65536+y*256+z:=by
  have:x*65536+y*256+z=((x.toNat*65536+y.toNat*256+z.toNat:Nat):Int):=by omega
  rw[this];exact jO (by omega) (by omega)
 obtain⟨r,e,r0,r1⟩:=Gx (show 0≤x*65536+y*256+z by omega) (show 0<n by omega);simp only[au,Aaa,Aab,As,w1,w2,w3,w4,e];have d:=(d1.trans d2).trans d3;first|exact⟨rfl,r,rfl,r0,fun _=>r1,d⟩|exact⟨r,rfl,r0,fun _=>r1,d⟩
theorem bt(H:AH){b:Nat}{bs:List Int}(hb:bs.length≤1073741824)(hc:w9 H b bs)(n:Int):T pQ Γ Fn.kcZ [.gp b 0 0,.int .i64 n] H fun v h'=>∃x:Int,v=.int .i64 x∧0≤x∧(0<n→x<n)∧aP H h' b bs:=
 (Zy H hb hc n).mono fun v h' ⟨x,e,h0,h1,d⟩=>⟨x,e,h0,h1,⟨d.cur,Nat.le_of_eq d.len.symm,fun c _ hcb=>d.fr c hcb⟩⟩
theorem At(H:AH){b:Nat}{bs:List Int}(hb:bs.length≤1073741824)(hc:w9 H b bs){w:AV}{fp:List Nat}{l:List Int}(o:b9 H w (.sl 1 (l.map fun n=>[.i .i64 n])) fp)(hbf:b∉fp)(h0:0<l.length):
 T pQ Γ Fn.kc2 [.gp b 0 0,w] H fun v h'=>∃x:Int,v=.int .i64 x∧aP H h' b bs:=by
 obtain⟨c1,c2,c3,c4⟩:=o.cell;have La:=(dc o).2;rw[Aai]at La;refine UU (aC aG mixed [] _ _ _ ?_);unfold RE;simp only[au,Aaa,Aab,Md,La];refine al.ref (by simp only[EO]) (bt _ hb hc _) ?_;rintro _ H1 ⟨x,rfl,x0,x1,d1⟩;replace d1:aP H H1 b bs:=d1;obtain⟨k,rfl⟩:∃k:Nat,x=k:=⟨x.toNat,by omega⟩
 have hk:k<l.length:=by have:=x1 (by omega);omega
 obtain⟨p,e1,e2⟩:=MN (d1.own o hbf) hk;simp only[au,Aaa,Aab,Md,e1,e2];first|exact⟨rfl,_,rfl,d1⟩|exact⟨_,rfl,d1⟩
theorem po(h:AH)(l:List Int){n:Nat}(hn:l.length=n):b9 (h++[some (0,(l.map fun n=>[AV.int .i64 n]).flatten)]) (.gs h.length 0 0 n n 1 true) (.sl 1 (l.map fun n=>[.i .i64 n])) [h.length]:=by
 subst hn;have hl:(l.map fun n=>[AV.int .i64 n]).flatten=(l.map fun n=>[CD.i .i64 n]).flatten.map (CD.av false):=by simp[List.map_flatten,Function.comp_def,CD.mY]
 have:=b9.sl_mk (h:=h++[some (0,(l.map fun n=>[AV.int .i64 n]).flatten)]) (b:=h.length) (g:=0) (cap:=l.length) (sz:=1) (ex:=true) (zas:=(l.map fun n=>[AV.int .i64 n]).flatten) (tail:=[]) (xs:=l.map fun n=>[CD.i .i64 n]) (fp:=[])
  (by rw[List.append_nil];exact eQ _ _) (fun y hy=>by obtain⟨x,_,rfl⟩:=List.mem_map.1 hy;rfl) (by simp) (by simp) (by rw[hl];exact pI false (BY l))
 simpa using this
theorem Jn(z:AV):(List.replicate 5 [z]).flatten=[z,z,z,z,z]:=rfl
theorem rp_4(z:AV):(List.replicate 4 [z]).flatten=[z,z,z,z]:=rfl
theorem MQ{x n:Int}(hn:0<n):∃r,fg .rem .num (.int .i64 x) (.int .i64 n)=some (.int .i64 r)∧-n<r∧r<n:=by
 refine⟨x.tmod n,?_,?_,?_⟩
 ·simp only[fg,lF,if_true];rw[if_neg (by omega)]
 ·have:=Aak (-x) hn;rw[Int.neg_tmod]at this;omega
 ·exact Aak x hn
def JX(n lo hi:Int):Bool:=decide (lo≤n) && decide (n≤hi)
theorem TZ(n lo hi:Int)(h:AH):T pQ Γ Fn.xG [.int .i64 n,.int .i64 lo,.int .i64 hi] h fun v h'=>v=.bool (JX n lo hi)∧h'=h:=by
 refine Pu (aC aG mixed [] _ _ _ ?_);unfold LX;by_cases c1:lo≤n<;>by_cases c2:n≤hi<;>(simp only[au,Aaa,Aab,Iz,c1,c2,decide_true,decide_false];first|exact⟨rfl,by simp[JX,c1,c2]⟩|simp[JX,c1,c2])
theorem XX(n m:Int)(h0:1≤m)(h1:m≤1000000000000)(h:AH):T pQ Γ Fn.kb6 [.int .i64 n,.int .i64 m] h fun v h'=>(∃x:Int,v=.int .i64 x∧0≤x∧x<m)∧h'=h:=by
 obtain⟨r,e1,r0,r1⟩:=MQ (x:=n) (n:=m) (by omega);have w:IntKind.i64.wrap (r+m)=r+m:=by
  have:r+m=(((r+m).toNat:Nat):Int):=by omega
  rw[this];exact jO (by omega) (by omega)
 obtain⟨q,e2,q0,q1⟩:=Gx (x:=r+m) (n:=m) (by omega) (by omega);have hin:JX m 1 1000000000000=true:=by simp[JX,h0,h1]
 refine Sy (aC aG mixed [] _ _ _ ?_);unfold LS;simp only[au,Aaa,Aab,FN];refine al.val (by simp only[EO]) (TZ _ _ _ _) ?_;simp only[au,Aaa,Aab,FN,hin,e1,w,e2];first|exact⟨rfl,⟨q,rfl,q0,q1⟩,rfl⟩|exact⟨rfl,q,rfl,q0,q1⟩|exact⟨⟨q,rfl,q0,q1⟩,rfl⟩|exact⟨q,rfl,q0,q1⟩
theorem Tx(a:Int):∃x,fg .and .num (.int .i64 a) (.int .i64 1073741823)=some (.int .i64 x)∧0≤x∧x≤1073741823:=FO a (m:=1073741823) (by omega)
theorem II(bs:List Int)(hb:bs.length≤1073741824)(h:AH):T pQ Γ Fn.kc3 [.vs false 1 false (bs.map fun n=>[.int .u8 n])] h fun v h'=>∃b,v=.gp b 0 0∧w9 h' b bs∧cQ h h'∧h.length≤b:=by
 have L0:=eY false 1 false bs (fun n=>[AV.int .u8 n]);refine XL (aC aG mixed [31] _ _ _ ?_);unfold SX;simp only[au,Aaa,Aab,FL,L0];obtain⟨s0,hs0⟩:∃s0,s0=IntKind.i64.wrap (193017+(bs.length:Int)):=⟨_,rfl⟩
 rw[←hs0];refine fD aG mixed [31] (fun x:Nat×Int=>x.1≤bs.length) (fun x=>bs.length-x.1)
  (fun x=>zN (.vs false 1 false (bs.map fun n=>[.int .u8 n])) (.int .i64 x.2) (.int .i64 x.1) [] h) (0,s0) (by simp) ⟨by simp[zN,gW,gM],rfl,rfl⟩ ?_
 rintro⟨k,hh⟩ hk;simp only at hk;have fin:∀z:Int,w9 (h++[some (0,[AV.vs false 1 false (bs.map fun n=>[AV.int .u8 n]),.int .i64 0,.int .i64 z])]) h.length bs:=fun z=>⟨0,z,by omega,eQ _ _⟩
 have bg:∀(s:St) (z:Int),I0 true s (some [AV.vs false 1 false (bs.map fun n=>[AV.int .u8 n]),.int .i64 0,.int .i64 z])=.val (.gp s.heap.length 0 0) (s.push [AV.vs false 1 false (bs.map fun n=>[AV.int .u8 n]),.int .i64 0,.int .i64 z]):=fun s z=>xL _ _ rfl;by_cases c1:(k:Int)<(bs.length:Int);rotate_left
 ·simp only[au,Aaa,Aab,FL,zN,L0,aW c1,bg,jH];exact⟨rfl,h.length,rfl,fin _,cQ.app _ _,Aam _⟩
 by_cases c2:(k:Int)<4000;rotate_left
 ·simp only[au,Aaa,Aab,FL,zN,L0,aR c1,aW c2,bg,jH];exact⟨rfl,h.length,rfl,fin _,cQ.app _ _,Aam _⟩
 have hlt:k<bs.length:=by omega
 have i0:=fI (β:=false) (sz:=1) (ex:=false) (ce:=fun n:Int=>[AV.int .u8 n]) hlt;obtain⟨x,e,_,_⟩:=Tx (IntKind.i64.wrap (IntKind.i64.wrap (IntKind.i64.wrap (hh*137)+IntKind.i64.wrap bs[k])+11));simp only[au,Aaa,Aab,FL,zN,L0,aR c1,aR c2,i0,O3,e];exact⟨(k+1,x),hlt,by simp only;omega,⟨by rw[wN (by omega)];simp[zN,gW,gM],rfl,rfl⟩⟩
theorem uv(H:AH){b:Nat}{bs:List Int}(hb:bs.length≤1073741824)(hc:w9 H b bs)(n:Int):T pQ Γ Fn.kc4 [.gp b 0 0,.int .i64 n] H fun v h'=>∃x:Bool,v=.bool x∧aP H h' b bs:=by
 refine Vb (aC aG mixed [] _ _ _ ?_);unfold Pq;simp only[au,Aaa,Aab,Kr];refine al.ref (by simp only[EO]) (bt _ hb hc _) ?_;rintro _ H1 ⟨x,rfl,x0,x1,d1⟩;replace d1:aP H H1 b bs:=d1;simp only[au,Aaa,Aab,Kr];first|exact⟨rfl,_,rfl,d1⟩|exact⟨_,rfl,d1⟩
theorem KH(n:Int)(h:AH):T pQ Γ Fn.kbX [.int .i64 n] h fun v h'=>(∃m:Int,v=.agg ((an.mk 0 m).c false))∧h'=h:=by
 refine Py (aC aG mixed [] _ _ _ ?_);unfold LO;simp only[au,Aaa,Aab,Gk];refine al.ref (by simp only[EO]) (XX n 1000000 (by omega) (by omega) _) ?_;rintro _ H1 ⟨⟨x,rfl,x0,x1⟩,e⟩;replace e:H1=h:=e;subst e;simp only[au,Aaa,Aab,Gk];first|exact⟨rfl,⟨x,rfl⟩,rfl⟩|exact⟨rfl,x,rfl⟩|exact⟨⟨x,rfl⟩,rfl⟩|exact⟨x,rfl⟩
theorem QI(H:AH){b:Nat}{bs:List Int}(hb:bs.length≤1073741824)(hc:w9 H b bs){cells:List AV}{v:ar}{f:List Nat}(o:aM H cells v.cd f)(h0:0<v.entities.length)(h1:v.entities.length≤1048576):
 T pQ Γ Fn.kcx [.gp b 0 0,.agg cells] H fun r h'=>∃x:an,r=.agg (x.c false)∧(x.kind=0∨(x.kind=1∧bB x.n v.entities.length=true))∧aP H h' b bs:=by
 obtain⟨wE,w2,wL,w4,fE,f2,fL,f4,rfl,rfl,oE,o2,oL,o4⟩:=wR o;have LE:=(dc oE).2;rw[Aai]at LE;obtain⟨a1,a2,a3,a4⟩:=oE.cell;obtain⟨b1,b2,b3,b4⟩:=o2.cell;obtain⟨c1,c2,c3,c4⟩:=oL.cell;obtain⟨d1,d2,d3,d4⟩:=o4.cell;refine Xj (aC aG mixed [] _ _ _ ?_);unfold O8;simp only[au,Aaa,Aab,Aw,cK,a1,a2,a3,b1,b2,b3,c1,c2,c3,d1,d2,d3];refine al.ref (by simp only[EO]) (uv _ hb hc _) ?_;rintro _ H1 ⟨y,rfl,q1⟩;replace q1:aP H H1 b bs:=q1;cases y
 ·simp only[au,Aaa,Aab,Aw,cK,a1,a2,a3,LE];refine al.ref (by simp only[EO]) (bt _ hb q1.cur _) ?_;rintro _ H2 ⟨x,rfl,x0,x1,q2⟩;replace q2:aP H1 H2 b bs:=q2;simp only[au,Aaa,Aab,Aw,cK];refine al.val (by simp only[EO]) (Az _ _) ?_;simp only[au,Aaa,Aab,Aw,cK,an.c];have fin:∃z:an,AV.agg [.int .i64 1,.int .i64 x]=.agg (z.c false)∧(z.kind=0∨(z.kind=1∧bB z.n v.entities.length=true))∧aP H H2 b bs:=
   ⟨⟨1,x⟩,rfl,.inr ⟨rfl,by have:=x1 (by omega);simp only[bB,Aav,decide_eq_true_eq];omega⟩,q1.trans q2⟩
  first|exact⟨rfl,fin⟩|exact fin
 ·simp only[au,Aaa,Aab,Aw,cK];refine al.ref (by simp only[EO]) (bt _ hb q1.cur _) ?_;rintro _ H2 ⟨x,rfl,x0,x1,q2⟩;replace q2:aP H1 H2 b bs:=q2;simp only[au,Aaa,Aab,Aw,cK];refine al.ref (by simp only[EO]) (KH _ _) ?_;rintro _ H3 ⟨⟨m,rfl⟩,e⟩;replace e:H3=H2:=e;subst e;simp only[au,Aaa,Aab,Aw,cK,an.c];have fin:∃z:an,AV.agg [.int .i64 0,.int .i64 m]=.agg (z.c false)∧(z.kind=0∨(z.kind=1∧bB z.n v.entities.length=true))∧aP H H3 b bs:=⟨⟨0,m⟩,rfl,.inl rfl,q1.trans q2⟩
  first|exact⟨rfl,fin⟩|exact fin
end Go.Proofs.YtolciaflplefcaaGreat
