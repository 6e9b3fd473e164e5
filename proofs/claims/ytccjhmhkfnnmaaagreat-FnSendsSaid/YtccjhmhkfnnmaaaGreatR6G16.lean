import Derived.Test.YtccjhmhkfnnmaaaGreatR6G15
import Derived.Test.YtccjhmhkfnnmaaaGreatAmG10
import Derived.Test.YtccjhmhkfnnmaaaGreatAmG9
set_option linter.unusedVariables false
set_option linter.unusedSimpArgs false
namespace Go.Proofs.YtccjhmhkfnnmaaaGreat
open Go.AM
variable {Γ:bY}
theorem cX{H:AH}{row:List AV}{e:aq}{f:List Nat}(o:aG H row e.cd f):∃wS wQ wA fS fQ fA,row=[.int .i64 e.kind,.int .i64 e.script,wS,.int .i64 e.state,.int .i64 e.value.kind,.int .i64 e.value.n,wQ,wA,.int .i64 e.peer,.int .i64 e.pos,.int .i64 e.count,.int .i64 e.sent]∧f=fS++(fQ++fA)∧
    b6 H wS (.sl 2 (e.slots.map ae.cd)) fS∧b6 H wQ (.sl 7 (e.queue.map aM.cd)) fQ∧b6 H wA (.sl 2 (e.askers.map cf.cd)) fA:=by
  simp only[aq.cd,fW,fN,gB,iH,iv]at o
  obtain⟨_,_,_,_,rfl,rfl,⟨rfl,rfl⟩,⟨_,_,_,_,rfl,rfl,⟨rfl,rfl⟩,⟨wS,_,fS,_,rfl,rfl,oS,⟨_,_,_,_,rfl,rfl,⟨rfl,rfl⟩,⟨_,_,_,_,rfl,rfl,⟨rfl,rfl⟩,⟨_,_,_,_,rfl,rfl,⟨rfl,rfl⟩,⟨wQ,_,fQ,_,rfl,rfl,oQ,⟨wA,_,fA,_,rfl,rfl,oA,
    ⟨_,_,_,_,rfl,rfl,⟨rfl,rfl⟩,⟨_,_,_,_,rfl,rfl,⟨rfl,rfl⟩,⟨_,_,_,_,rfl,rfl,⟨rfl,rfl⟩,⟨_,_,_,_,rfl,rfl,⟨rfl,rfl⟩,⟨rfl,rfl⟩⟩⟩⟩⟩⟩⟩⟩⟩⟩⟩⟩⟩:=o
  exact⟨wS,wQ,wA,fS,fQ,fA,rfl,by simp,oS,oQ,oA⟩
theorem hZ{H:AH}{e:aq}{wS wQ wA:AV}{fS fQ fA:List Nat}(oS:b6 H wS (.sl 2 (e.slots.map ae.cd)) fS)(oQ:b6 H wQ (.sl 7 (e.queue.map aM.cd)) fQ)(oA:b6 H wA (.sl 2 (e.askers.map cf.cd)) fA):
    aG H [.int .i64 e.kind,.int .i64 e.script,wS,.int .i64 e.state,.int .i64 e.value.kind,.int .i64 e.value.n,wQ,wA,.int .i64 e.peer,.int .i64 e.pos,.int .i64 e.count,.int .i64 e.sent] e.cd (fS++(fQ++fA)):=by
  have e':fA=fA++[]:=by simp
  rw[e']
  exact .i (.i (.o oS (.i (.i (.i (.o oQ (.o oA (.i (.i (.i (.i .nil)))))))))))
def bJ(v:ar)(peer:Int)(x:ae):ar×bW:=
  if (decide ((cg v x).kind=0) && rO (cg v x).n 0 999999)=true then (v,⟨0,(cg v x).n⟩)
  else if (decide ((cg v x).kind=1) && (cO (cg v x).n v.entities.length && su v.links peer))=true then
    (if (decide ((v.entities.getD (cg v x).n.toNat default).kind=3) && decide ((v.entities.getD (cg v x).n.toNat default).peer=peer))=true then (v,⟨2,(v.entities.getD (cg v x).n.toNat default).pos⟩)
    else ({ v with links:=v.links.set (gE (fun l:aB=>l.peer == peer) v.links).toNat (eO (v.links.getD (gE (fun l:aB=>l.peer == peer) v.links).toNat default) (cg v x).n).1 },⟨1,(eO (v.links.getD (gE (fun l:aB=>l.peer == peer) v.links).toNat default) (cg v x).n).2⟩))
  else (v,⟨3,0⟩)
set_option maxHeartbeats 4000000 in
set_option maxRecDepth 100000 in
theorem J3(v:ar)(hE:v.entities.length≤1048576)(hL:v.links.length≤1048576)(hlk:∀l∈v.links,l.ok 1048576)(peer:Int)(x:ae)(H:AH){b:Nat}{wE w2 wL w4:AV}{fE f2 fL f4:List Nat}(o:VO H b v wE w2 wL w4 fE f2 fL f4):
    T Tryz.prog Γ Fn.Lp [.gp b 0 0,.int .i64 peer,.agg (x.c false)] H fun r H'=>r=.agg ((bJ v peer x).2.c false)∧ue H b wE w2 wL w4 fE f2 fL f4 H' (bJ v peer x).1:=by
  have hb:=o.hb
  have bf:=o.bf
  have blt:=o.blt
  have vlt:=o.lt
  have cb:∀(e:List AV) (L:List (List AV)) (off n:Nat),(St.mk e L H).cells (.gp b 0 off) n=sub [.int .i64 v.id,wE,w2,wL,w4] off n:=fun e L off n=>bp hb
  obtain⟨a1,a2,a3,a4⟩:=o.oE.cell
  obtain⟨b1,b2,b3,b4⟩:=o.o2.cell
  obtain⟨c1,c2,c3,c4⟩:=o.oL.cell
  obtain⟨d1,d2,d3,d4⟩:=o.o4.cell
  obtain⟨_,lE⟩:=cP o.oE
  rw[List.length_map]at lE
  obtain⟨y,hy⟩:∃y,y=cg v x:=⟨_,rfl⟩
  have tw:bJ v peer x=bJ v peer x:=rfl
  conv at tw=>rhs;unfold bJ
  simp only[←hy]at tw
  refine QN (au aC aD [] _ _ _ ?_)
  unfold IN
  cases t1:(decide (y.kind=0) && rO y.n 0 999999)
  rotate_left
  · rw[t1,if_pos rfl]at tw
    obtain⟨k0,r0⟩:=Bool.and_eq_true_iff.1 t1
    simp only[EZ,ag,Nat.reduceAdd,Nat.reduceBEq,df,aW,aX,aY,aZ,bc,aE,aO,ER,EF,ae.c,cb,lE,a1,a2,a3,b1,b2,b3,c1,c2,c3,d1,d2,d3,an,ah,k0,r0,show decide (y.kind=0)=true from k0]
    repeat' (first
      | (guard_target =~ Mem _ _;first|exact Mem.loc ⟨_,([]:List (List AV))++[_,_],_⟩ _ [_]|exact Mem.loc ⟨_,([]:List (List AV))++[_,_,_],_⟩ _ [_]|exact Mem.loc ⟨_,([]:List (List AV))++[_,_,_,_],_⟩ _ [_]|exact eg.mem _ _ _)
      | (guard_target =~ eK _ _ _;first|exact eu rfl|exact fG (L':=[_]) rfl)
      | (guard_target =~ al _ _ Fn.ui _ _ _
         refine al.fV (by simp only[EO,a3,b3,c3,d3]) (aK (aG.fV (ar.cu true v) o.own) (aK (.same _) b8)) (fun h=>mg true v hE x h) (.agg _ (by intro z hz;simp only[ae.c,List.mem_cons,List.not_mem_nil,or_false]at hz;rcases hz with rfl|rfl<;>exact .int _ _)) ?_
         rw[←hy]
         simp only[EZ,ag,Nat.reduceAdd,Nat.reduceBEq,df,aW,aX,aY,aZ,bc,aE,aO,ER,EF,ae.c,cb,lE,a1,a2,a3,b1,b2,b3,c1,c2,c3,d1,d2,d3,an,ah,k0,r0,show decide (y.kind=0)=true from k0])
      | (guard_target =~ al _ _ Fn.lH [_,AV.int _ 0,AV.int _ 999999] _ _
         refine al.val (by simp only[EO]) (dW _ _ _ _) ?_
         simp only[EZ,ag,Nat.reduceAdd,Nat.reduceBEq,df,aW,aX,aY,aZ,bc,aE,aO,ER,EF,ae.c,cb,lE,a1,a2,a3,b1,b2,b3,c1,c2,c3,d1,d2,d3,an,ah,k0,r0,show decide (y.kind=0)=true from k0])
      | (guard_target =~ al _ _ Fn.lH _ _ _
         refine al.val (by simp only[EO]) (dW _ _ _ _) ?_
         rw[cZ _ hE]
         simp only[EZ,ag,Nat.reduceAdd,Nat.reduceBEq,df,aW,aX,aY,aZ,bc,aE,aO,ER,EF,ae.c,cb,lE,a1,a2,a3,b1,b2,b3,c1,c2,c3,d1,d2,d3,an,ah,k0,r0,show decide (y.kind=0)=true from k0])
      | (guard_target =~ al _ _ Fn.AN _ _ _
         refine al.fV (by simp only[EO,a3,b3,c3,d3]) (aK (aG.fV (ar.cu true v) o.own) (aK (.same _) b8)) (fun h=>jW true v hL peer h) (.bool _) ?_
         simp only[EZ,ag,Nat.reduceAdd,Nat.reduceBEq,df,aW,aX,aY,aZ,bc,aE,aO,ER,EF,ae.c,cb,lE,a1,a2,a3,b1,b2,b3,c1,c2,c3,d1,d2,d3,an,ah,k0,r0,show decide (y.kind=0)=true from k0])
      | exact⟨by rw[tw];rfl,by rw[tw];exact ue.refl o⟩
      | (guard_target =~ dJ _=true;rfl)
      | refine And.intro ?_ ?_)
  have z0:(decide (y.kind=0)=true∧rO y.n 0 999999=false)∨decide (y.kind=0)=false:=by
    cases hk:decide (y.kind=0)
    · exact .inr rfl
    · rw[hk,Bool.true_and]at t1;exact .inl ⟨rfl,t1⟩
  simp only[t1,Bool.false_eq_true,if_false]at tw
  by_cases k1:y.kind=1
  rotate_left
  · have k1':decide (y.kind=1)=false:=decide_eq_false k1
    simp only[k1',Bool.false_and,Bool.false_eq_true,if_false]at tw
    rcases z0 with⟨k0,r0⟩|k0
    · skip
      simp only[EZ,ag,Nat.reduceAdd,Nat.reduceBEq,df,aW,aX,aY,aZ,bc,aE,aO,ER,EF,ae.c,cb,lE,a1,a2,a3,b1,b2,b3,c1,c2,c3,d1,d2,d3,an,ah,k0,r0,k1']
      repeat' (first
        | (guard_target =~ Mem _ _;first|exact Mem.loc ⟨_,([]:List (List AV))++[_,_],_⟩ _ [_]|exact Mem.loc ⟨_,([]:List (List AV))++[_,_,_],_⟩ _ [_]|exact Mem.loc ⟨_,([]:List (List AV))++[_,_,_,_],_⟩ _ [_]|exact eg.mem _ _ _)
        | (guard_target =~ eK _ _ _;first|exact eu rfl|exact fG (L':=[_]) rfl)
        | (guard_target =~ al _ _ Fn.ui _ _ _
           refine al.fV (by simp only[EO,a3,b3,c3,d3]) (aK (aG.fV (ar.cu true v) o.own) (aK (.same _) b8)) (fun h=>mg true v hE x h) (.agg _ (by intro z hz;simp only[ae.c,List.mem_cons,List.not_mem_nil,or_false]at hz;rcases hz with rfl|rfl<;>exact .int _ _)) ?_
           rw[←hy]
           simp only[EZ,ag,Nat.reduceAdd,Nat.reduceBEq,df,aW,aX,aY,aZ,bc,aE,aO,ER,EF,ae.c,cb,lE,a1,a2,a3,b1,b2,b3,c1,c2,c3,d1,d2,d3,an,ah,k0,r0,k1'])
        | (guard_target =~ al _ _ Fn.lH [_,AV.int _ 0,AV.int _ 999999] _ _
           refine al.val (by simp only[EO]) (dW _ _ _ _) ?_
           simp only[EZ,ag,Nat.reduceAdd,Nat.reduceBEq,df,aW,aX,aY,aZ,bc,aE,aO,ER,EF,ae.c,cb,lE,a1,a2,a3,b1,b2,b3,c1,c2,c3,d1,d2,d3,an,ah,k0,r0,k1'])
        | (guard_target =~ al _ _ Fn.lH _ _ _
           refine al.val (by simp only[EO]) (dW _ _ _ _) ?_
           rw[cZ _ hE]
           simp only[EZ,ag,Nat.reduceAdd,Nat.reduceBEq,df,aW,aX,aY,aZ,bc,aE,aO,ER,EF,ae.c,cb,lE,a1,a2,a3,b1,b2,b3,c1,c2,c3,d1,d2,d3,an,ah,k0,r0,k1'])
        | (guard_target =~ al _ _ Fn.AN _ _ _
           refine al.fV (by simp only[EO,a3,b3,c3,d3]) (aK (aG.fV (ar.cu true v) o.own) (aK (.same _) b8)) (fun h=>jW true v hL peer h) (.bool _) ?_
           simp only[EZ,ag,Nat.reduceAdd,Nat.reduceBEq,df,aW,aX,aY,aZ,bc,aE,aO,ER,EF,ae.c,cb,lE,a1,a2,a3,b1,b2,b3,c1,c2,c3,d1,d2,d3,an,ah,k0,r0,k1'])
        | exact⟨by rw[tw];rfl,by rw[tw];exact ue.refl o⟩
        | (guard_target =~ dJ _=true;rfl)
        | refine And.intro ?_ ?_)
    · skip
      simp only[EZ,ag,Nat.reduceAdd,Nat.reduceBEq,df,aW,aX,aY,aZ,bc,aE,aO,ER,EF,ae.c,cb,lE,a1,a2,a3,b1,b2,b3,c1,c2,c3,d1,d2,d3,an,ah,k0,k1']
      repeat' (first
        | (guard_target =~ Mem _ _;first|exact Mem.loc ⟨_,([]:List (List AV))++[_,_],_⟩ _ [_]|exact Mem.loc ⟨_,([]:List (List AV))++[_,_,_],_⟩ _ [_]|exact Mem.loc ⟨_,([]:List (List AV))++[_,_,_,_],_⟩ _ [_]|exact eg.mem _ _ _)
        | (guard_target =~ eK _ _ _;first|exact eu rfl|exact fG (L':=[_]) rfl)
        | (guard_target =~ al _ _ Fn.ui _ _ _
           refine al.fV (by simp only[EO,a3,b3,c3,d3]) (aK (aG.fV (ar.cu true v) o.own) (aK (.same _) b8)) (fun h=>mg true v hE x h) (.agg _ (by intro z hz;simp only[ae.c,List.mem_cons,List.not_mem_nil,or_false]at hz;rcases hz with rfl|rfl<;>exact .int _ _)) ?_
           rw[←hy]
           simp only[EZ,ag,Nat.reduceAdd,Nat.reduceBEq,df,aW,aX,aY,aZ,bc,aE,aO,ER,EF,ae.c,cb,lE,a1,a2,a3,b1,b2,b3,c1,c2,c3,d1,d2,d3,an,ah,k0,k1'])
        | (guard_target =~ al _ _ Fn.lH [_,AV.int _ 0,AV.int _ 999999] _ _
           refine al.val (by simp only[EO]) (dW _ _ _ _) ?_
           simp only[EZ,ag,Nat.reduceAdd,Nat.reduceBEq,df,aW,aX,aY,aZ,bc,aE,aO,ER,EF,ae.c,cb,lE,a1,a2,a3,b1,b2,b3,c1,c2,c3,d1,d2,d3,an,ah,k0,k1'])
        | (guard_target =~ al _ _ Fn.lH _ _ _
           refine al.val (by simp only[EO]) (dW _ _ _ _) ?_
           rw[cZ _ hE]
           simp only[EZ,ag,Nat.reduceAdd,Nat.reduceBEq,df,aW,aX,aY,aZ,bc,aE,aO,ER,EF,ae.c,cb,lE,a1,a2,a3,b1,b2,b3,c1,c2,c3,d1,d2,d3,an,ah,k0,k1'])
        | (guard_target =~ al _ _ Fn.AN _ _ _
           refine al.fV (by simp only[EO,a3,b3,c3,d3]) (aK (aG.fV (ar.cu true v) o.own) (aK (.same _) b8)) (fun h=>jW true v hL peer h) (.bool _) ?_
           simp only[EZ,ag,Nat.reduceAdd,Nat.reduceBEq,df,aW,aX,aY,aZ,bc,aE,aO,ER,EF,ae.c,cb,lE,a1,a2,a3,b1,b2,b3,c1,c2,c3,d1,d2,d3,an,ah,k0,k1'])
        | exact⟨by rw[tw];rfl,by rw[tw];exact ue.refl o⟩
        | (guard_target =~ dJ _=true;rfl)
        | refine And.intro ?_ ?_)
  have k0:decide (y.kind=0)=false:=decide_eq_false (by omega)
  have k1':decide (y.kind=1)=true:=decide_eq_true k1
  clear z0
  cases e1:cO y.n v.entities.length
  · simp only[e1,Bool.false_and,Bool.and_false,Bool.false_eq_true,if_false]at tw
    simp only[EZ,ag,Nat.reduceAdd,Nat.reduceBEq,df,aW,aX,aY,aZ,bc,aE,aO,ER,EF,ae.c,cb,lE,a1,a2,a3,b1,b2,b3,c1,c2,c3,d1,d2,d3,an,ah,k0,k1',e1]
    repeat' (first
      | (guard_target =~ Mem _ _;first|exact Mem.loc ⟨_,([]:List (List AV))++[_,_],_⟩ _ [_]|exact Mem.loc ⟨_,([]:List (List AV))++[_,_,_],_⟩ _ [_]|exact Mem.loc ⟨_,([]:List (List AV))++[_,_,_,_],_⟩ _ [_]|exact eg.mem _ _ _)
      | (guard_target =~ eK _ _ _;first|exact eu rfl|exact fG (L':=[_]) rfl)
      | (guard_target =~ al _ _ Fn.ui _ _ _
         refine al.fV (by simp only[EO,a3,b3,c3,d3]) (aK (aG.fV (ar.cu true v) o.own) (aK (.same _) b8)) (fun h=>mg true v hE x h) (.agg _ (by intro z hz;simp only[ae.c,List.mem_cons,List.not_mem_nil,or_false]at hz;rcases hz with rfl|rfl<;>exact .int _ _)) ?_
         rw[←hy]
         simp only[EZ,ag,Nat.reduceAdd,Nat.reduceBEq,df,aW,aX,aY,aZ,bc,aE,aO,ER,EF,ae.c,cb,lE,a1,a2,a3,b1,b2,b3,c1,c2,c3,d1,d2,d3,an,ah,k0,k1',e1])
      | (guard_target =~ al _ _ Fn.lH [_,AV.int _ 0,AV.int _ 999999] _ _
         refine al.val (by simp only[EO]) (dW _ _ _ _) ?_
         simp only[EZ,ag,Nat.reduceAdd,Nat.reduceBEq,df,aW,aX,aY,aZ,bc,aE,aO,ER,EF,ae.c,cb,lE,a1,a2,a3,b1,b2,b3,c1,c2,c3,d1,d2,d3,an,ah,k0,k1',e1])
      | (guard_target =~ al _ _ Fn.lH _ _ _
         refine al.val (by simp only[EO]) (dW _ _ _ _) ?_
         rw[cZ _ hE]
         simp only[EZ,ag,Nat.reduceAdd,Nat.reduceBEq,df,aW,aX,aY,aZ,bc,aE,aO,ER,EF,ae.c,cb,lE,a1,a2,a3,b1,b2,b3,c1,c2,c3,d1,d2,d3,an,ah,k0,k1',e1])
      | (guard_target =~ al _ _ Fn.AN _ _ _
         refine al.fV (by simp only[EO,a3,b3,c3,d3]) (aK (aG.fV (ar.cu true v) o.own) (aK (.same _) b8)) (fun h=>jW true v hL peer h) (.bool _) ?_
         simp only[EZ,ag,Nat.reduceAdd,Nat.reduceBEq,df,aW,aX,aY,aZ,bc,aE,aO,ER,EF,ae.c,cb,lE,a1,a2,a3,b1,b2,b3,c1,c2,c3,d1,d2,d3,an,ah,k0,k1',e1])
      | exact⟨by rw[tw];rfl,by rw[tw];exact ue.refl o⟩
      | (guard_target =~ dJ _=true;rfl)
      | refine And.intro ?_ ?_)
  cases u1:su v.links peer
  · simp only[u1,Bool.and_false,Bool.false_eq_true,if_false]at tw
    simp only[EZ,ag,Nat.reduceAdd,Nat.reduceBEq,df,aW,aX,aY,aZ,bc,aE,aO,ER,EF,ae.c,cb,lE,a1,a2,a3,b1,b2,b3,c1,c2,c3,d1,d2,d3,an,ah,k0,k1',e1,u1]
    repeat' (first
      | (guard_target =~ Mem _ _;first|exact Mem.loc ⟨_,([]:List (List AV))++[_,_],_⟩ _ [_]|exact Mem.loc ⟨_,([]:List (List AV))++[_,_,_],_⟩ _ [_]|exact Mem.loc ⟨_,([]:List (List AV))++[_,_,_,_],_⟩ _ [_]|exact eg.mem _ _ _)
      | (guard_target =~ eK _ _ _;first|exact eu rfl|exact fG (L':=[_]) rfl)
      | (guard_target =~ al _ _ Fn.ui _ _ _
         refine al.fV (by simp only[EO,a3,b3,c3,d3]) (aK (aG.fV (ar.cu true v) o.own) (aK (.same _) b8)) (fun h=>mg true v hE x h) (.agg _ (by intro z hz;simp only[ae.c,List.mem_cons,List.not_mem_nil,or_false]at hz;rcases hz with rfl|rfl<;>exact .int _ _)) ?_
         rw[←hy]
         simp only[EZ,ag,Nat.reduceAdd,Nat.reduceBEq,df,aW,aX,aY,aZ,bc,aE,aO,ER,EF,ae.c,cb,lE,a1,a2,a3,b1,b2,b3,c1,c2,c3,d1,d2,d3,an,ah,k0,k1',e1,u1])
      | (guard_target =~ al _ _ Fn.lH [_,AV.int _ 0,AV.int _ 999999] _ _
         refine al.val (by simp only[EO]) (dW _ _ _ _) ?_
         simp only[EZ,ag,Nat.reduceAdd,Nat.reduceBEq,df,aW,aX,aY,aZ,bc,aE,aO,ER,EF,ae.c,cb,lE,a1,a2,a3,b1,b2,b3,c1,c2,c3,d1,d2,d3,an,ah,k0,k1',e1,u1])
      | (guard_target =~ al _ _ Fn.lH _ _ _
         refine al.val (by simp only[EO]) (dW _ _ _ _) ?_
         rw[cZ _ hE]
         simp only[EZ,ag,Nat.reduceAdd,Nat.reduceBEq,df,aW,aX,aY,aZ,bc,aE,aO,ER,EF,ae.c,cb,lE,a1,a2,a3,b1,b2,b3,c1,c2,c3,d1,d2,d3,an,ah,k0,k1',e1,u1])
      | (guard_target =~ al _ _ Fn.AN _ _ _
         refine al.fV (by simp only[EO,a3,b3,c3,d3]) (aK (aG.fV (ar.cu true v) o.own) (aK (.same _) b8)) (fun h=>jW true v hL peer h) (.bool _) ?_
         simp only[EZ,ag,Nat.reduceAdd,Nat.reduceBEq,df,aW,aX,aY,aZ,bc,aE,aO,ER,EF,ae.c,cb,lE,a1,a2,a3,b1,b2,b3,c1,c2,c3,d1,d2,d3,an,ah,k0,k1',e1,u1])
      | exact⟨by rw[tw];rfl,by rw[tw];exact ue.refl o⟩
      | (guard_target =~ dJ _=true;rfl)
      | refine And.intro ?_ ?_)
  obtain⟨j,ej,hj⟩:=nh e1
  have e1':cO (j:Int) v.entities.length=true:=by rw[←ej];exact e1
  have hjm:j<(v.entities.map aq.cd).length:=by simpa using hj
  obtain⟨bR,gR,row,fR,iR,_,_,rR,_,oR,_,_,lR⟩:=o.oE.row o.nE hjm
  rw[List.getElem_map]at oR
  obtain⟨e,he⟩:∃e,e=v.entities[j]:=⟨_,rfl⟩
  have hge:v.entities.getD y.n.toNat default=e:=by rw[ej,Int.toNat_natCast,List.getD_eq_getElem?_getD,List.getElem?_eq_getElem hj,he];rfl
  rw[←he]at oR
  obtain⟨wS,wQ,wA,fS,fQ,fA,rfl,_,oS,oQ,oA⟩:=cX oR
  obtain⟨x1,x2,x3,x4⟩:=oS.cell
  obtain⟨x5,x6,x7,x8⟩:=oQ.cell
  obtain⟨x9,xa,xb,xc⟩:=oA.cell
  simp only[k1',e1,u1,Bool.and_self,if_true,hge]at tw
  by_cases p3:(decide (e.kind=3) && decide (e.peer=peer))=true
  · simp only[p3,if_true]at tw
    obtain⟨p1,p2⟩:=Bool.and_eq_true_iff.1 p3
    simp only[EZ,ag,Nat.reduceAdd,Nat.reduceBEq,df,aW,aX,aY,aZ,bc,aE,aO,ER,EF,ae.c,cb,lE,a1,a2,a3,b1,b2,b3,c1,c2,c3,d1,d2,d3,an,ah,k0,k1',e1',u1,ej,iR,rR,x1,x2,x3,x5,x6,x7,x9,xa,xb,p1,p2]
    repeat' (first
      | (guard_target =~ Mem _ _;first|exact Mem.loc ⟨_,([]:List (List AV))++[_,_],_⟩ _ [_]|exact Mem.loc ⟨_,([]:List (List AV))++[_,_,_],_⟩ _ [_]|exact Mem.loc ⟨_,([]:List (List AV))++[_,_,_,_],_⟩ _ [_]|exact eg.mem _ _ _)
      | (guard_target =~ eK _ _ _;first|exact eu rfl|exact fG (L':=[_]) rfl)
      | (guard_target =~ al _ _ Fn.ui _ _ _
         refine al.fV (by simp only[EO,a3,b3,c3,d3]) (aK (aG.fV (ar.cu true v) o.own) (aK (.same _) b8)) (fun h=>mg true v hE x h) (.agg _ (by intro z hz;simp only[ae.c,List.mem_cons,List.not_mem_nil,or_false]at hz;rcases hz with rfl|rfl<;>exact .int _ _)) ?_
         rw[←hy]
         simp only[EZ,ag,Nat.reduceAdd,Nat.reduceBEq,df,aW,aX,aY,aZ,bc,aE,aO,ER,EF,ae.c,cb,lE,a1,a2,a3,b1,b2,b3,c1,c2,c3,d1,d2,d3,an,ah,k0,k1',e1',u1,ej,iR,rR,x1,x2,x3,x5,x6,x7,x9,xa,xb,p1,p2])
      | (guard_target =~ al _ _ Fn.lH [_,AV.int _ 0,AV.int _ 999999] _ _
         refine al.val (by simp only[EO]) (dW _ _ _ _) ?_
         simp only[EZ,ag,Nat.reduceAdd,Nat.reduceBEq,df,aW,aX,aY,aZ,bc,aE,aO,ER,EF,ae.c,cb,lE,a1,a2,a3,b1,b2,b3,c1,c2,c3,d1,d2,d3,an,ah,k0,k1',e1',u1,ej,iR,rR,x1,x2,x3,x5,x6,x7,x9,xa,xb,p1,p2])
      | (guard_target =~ al _ _ Fn.lH _ _ _
         refine al.val (by simp only[EO]) (dW _ _ _ _) ?_
         rw[cZ _ hE]
         simp only[EZ,ag,Nat.reduceAdd,Nat.reduceBEq,df,aW,aX,aY,aZ,bc,aE,aO,ER,EF,ae.c,cb,lE,a1,a2,a3,b1,b2,b3,c1,c2,c3,d1,d2,d3,an,ah,k0,k1',e1',u1,ej,iR,rR,x1,x2,x3,x5,x6,x7,x9,xa,xb,p1,p2])
      | (guard_target =~ al _ _ Fn.AN _ _ _
         refine al.fV (by simp only[EO,a3,b3,c3,d3]) (aK (aG.fV (ar.cu true v) o.own) (aK (.same _) b8)) (fun h=>jW true v hL peer h) (.bool _) ?_
         simp only[EZ,ag,Nat.reduceAdd,Nat.reduceBEq,df,aW,aX,aY,aZ,bc,aE,aO,ER,EF,ae.c,cb,lE,a1,a2,a3,b1,b2,b3,c1,c2,c3,d1,d2,d3,an,ah,k0,k1',e1',u1,ej,iR,rR,x1,x2,x3,x5,x6,x7,x9,xa,xb,p1,p2])
      | exact⟨by rw[tw];rfl,by rw[tw];exact ue.refl o⟩
      | (guard_target =~ dJ _=true;rfl)
      | refine And.intro ?_ ?_)
  have p3':(decide (e.kind=3) && decide (e.peer=peer))=false:=by simpa using p3
  have z3:(decide (e.kind=3)=true∧decide (e.peer=peer)=false)∨decide (e.kind=3)=false:=by
    cases hk:decide (e.kind=3)
    · exact .inr rfl
    · rw[hk,Bool.true_and]at p3';exact .inl ⟨rfl,p3'⟩
  simp only[p3',Bool.false_eq_true,if_false,ej]at tw
  obtain⟨k,hk,ek,_⟩:=AW u1
  obtain⟨l,hl⟩:∃l,l=v.links[k]:=⟨_,rfl⟩
  have hgl:v.links.getD k default=l:=by rw[List.getD_eq_getElem?_getD,List.getElem?_eq_getElem hk,hl];rfl
  have ol:l.ok 1048576:=by rw[hl];exact hlk _ (List.getElem_mem hk)
  rw[ek]at tw
  simp only[Int.toNat_natCast,hgl]at tw
  have hkm:k<(v.links.map aB.cd).length:=by simpa using hk
  obtain⟨bL,gL,pre,rowL,post,fL0,iL,mL,lL,oLr,nLr,sLr,bmL,bnL,close⟩:=o.oL.j9 o.nL hkm
  rw[List.getElem_map,←hl]at oLr
  have rL:∀(e:List AV) (L:List (List AV)),(St.mk e L H).cells (.gp bL gL pre.length) 7=some rowL:=fun e L=>by rw[mL.qJ e L 7 (by omega)];exact k5 lL
  obtain⟨wX,wQ',wA',fX,fq,fa,rfl,_,oX,oQq,oAa⟩:=dT oLr
  obtain⟨y1,y2,y3,y4⟩:=oX.cell
  obtain⟨y5,y6,y7,y8⟩:=oQq.cell
  obtain⟨y9,ya,yb,yc⟩:=oAa.cell
  have fin:∀(H4:AH) (row':List AV) (f':List Nat),aG H4 row' (eO l (j:Int)).1.cd f'→f'.Nodup→(∀c∈f',H.length≤c)→cn H H4→∃H5,(∀(e:List AV) (L:List (List AV)),(St.mk e L H4).store (.gp bL gL pre.length) row'=some ⟨e,L,H5⟩)∧
      ue H b wE w2 wL w4 fE f2 fL f4 H5 { v with links:=v.links.set k (eO l (j:Int)).1 }:=by
    intro H4 row' f' o' n' b' eg
    have hfL:∀c∈fL,c<H.length:=fun c hc=>vlt c (aN.2 (.inr (.inr (.inl hc))))
    have hbq:=hfL bL bmL
    have rl:row'.length=7:=by rw[o'.len];rfl
    have m4:kC H4 bL gL pre _ post:=mL.frame (eg.fr bL hbq)
    obtain⟨H5,s5,m5,l5,r5⟩:=m4.store (i:=0) (vs:=row') (by rw[rl];exact Nat.le_refl 7) o'.bj
    rw[Nat.add_zero]at s5
    have ov:∀row:List AV,row.length=7→cD row 0 row'=row':=fun row h7=>by simp[cD,rl,h7]
    rw[ov _ lL]at m5
    have lx:=eg.len
    have o5:=o'.frame (h':=H5) fun c hc=>r5 c (fun e=>by have:=b' c hc;omega)
    obtain⟨fL',oL5,nL5,mL5⟩:=close H5 _ (eO l (j:Int)).1.cd f' o5 n' rfl (fun c hc=>.inr fun hm=>by have:=hfL c hm;have:=b' c hc;omega) m5 (fun c hc hcf hcb=>by rw[r5 c hcb];exact eg.fr c (hfL c hc))
    have hb5:b7 H5 b=some (0,[.int .i64 v.id,wE,w2,wL,w4]):=by
      rw[bt (r5 b (fun e=>bf (aN.2 (.inr (.inr (.inl (e▸bmL))))))),bt (eg.fr b blt)];exact hb
    have hset:(v.links.map aB.cd).set k (eO l (j:Int)).1.cd=(v.links.set k (eO l (j:Int)).1).map aB.cd:=by rw[List.map_set]
    rw[hset]at oL5
    have u:=o.Gj (G:=f') hb5 oL5 nL5 (fun c hc=>by rcases mL5 c hc with g|g;exact .inl g;exact .inr (.inl g)) (fun c hc=>⟨fun hm=>by have:=vlt c hm;have:=b' c hc;omega,fun e=>by have:=b' c hc;omega⟩) (by omega)
      (fun c h1 h2 h3 h4=>by rw[r5 c (fun e=>h1 (e▸bmL)),eg.fr c h4])
    exact⟨H5,s5,fL',u,by omega,fun c g=>(mL5 c g).imp id (b' c),fun c h1 h3=>by rw[r5 c (fun e=>h1 (e▸bmL)),eg.fr c h3]⟩
  rcases z3 with⟨q1,q2⟩|q1
  · skip
    simp only[EZ,ag,Nat.reduceAdd,Nat.reduceBEq,df,aW,aX,aY,aZ,bc,aE,aO,ER,EF,ae.c,cb,lE,a1,a2,a3,b1,b2,b3,c1,c2,c3,d1,d2,d3,an,ah,k0,k1',e1',u1,ej,iR,rR,x1,x2,x3,x5,x6,x7,x9,xa,xb,q1,q2,iL,rL,ek,y1,y2,y3,y5,y6,y7,y9,ya,yb]
    repeat' (first
      | (guard_target =~ Mem _ _;first|exact Mem.loc ⟨_,([]:List (List AV))++[_,_],_⟩ _ [_]|exact Mem.loc ⟨_,([]:List (List AV))++[_,_,_],_⟩ _ [_]|exact Mem.loc ⟨_,([]:List (List AV))++[_,_,_,_],_⟩ _ [_]|exact eg.mem _ _ _)
      | (guard_target =~ eK _ _ _;first|exact eu rfl|exact fG (L':=[_]) rfl)
      | (guard_target =~ al _ _ Fn.ui _ _ _
         refine al.fV (by simp only[EO,a3,b3,c3,d3]) (aK (aG.fV (ar.cu true v) o.own) (aK (.same _) b8)) (fun h=>mg true v hE x h) (.agg _ (by intro z hz;simp only[ae.c,List.mem_cons,List.not_mem_nil,or_false]at hz;rcases hz with rfl|rfl<;>exact .int _ _)) ?_
         rw[←hy]
         simp only[EZ,ag,Nat.reduceAdd,Nat.reduceBEq,df,aW,aX,aY,aZ,bc,aE,aO,ER,EF,ae.c,cb,lE,a1,a2,a3,b1,b2,b3,c1,c2,c3,d1,d2,d3,an,ah,k0,k1',e1',u1,ej,iR,rR,x1,x2,x3,x5,x6,x7,x9,xa,xb,q1,q2,iL,rL,ek,y1,y2,y3,y5,y6,y7,y9,ya,yb])
      | (guard_target =~ al _ _ Fn.lH [_,AV.int _ 0,AV.int _ 999999] _ _
         refine al.val (by simp only[EO]) (dW _ _ _ _) ?_
         simp only[EZ,ag,Nat.reduceAdd,Nat.reduceBEq,df,aW,aX,aY,aZ,bc,aE,aO,ER,EF,ae.c,cb,lE,a1,a2,a3,b1,b2,b3,c1,c2,c3,d1,d2,d3,an,ah,k0,k1',e1',u1,ej,iR,rR,x1,x2,x3,x5,x6,x7,x9,xa,xb,q1,q2,iL,rL,ek,y1,y2,y3,y5,y6,y7,y9,ya,yb])
      | (guard_target =~ al _ _ Fn.lH _ _ _
         refine al.val (by simp only[EO]) (dW _ _ _ _) ?_
         rw[cZ _ hE]
         simp only[EZ,ag,Nat.reduceAdd,Nat.reduceBEq,df,aW,aX,aY,aZ,bc,aE,aO,ER,EF,ae.c,cb,lE,a1,a2,a3,b1,b2,b3,c1,c2,c3,d1,d2,d3,an,ah,k0,k1',e1',u1,ej,iR,rR,x1,x2,x3,x5,x6,x7,x9,xa,xb,q1,q2,iL,rL,ek,y1,y2,y3,y5,y6,y7,y9,ya,yb])
      | (guard_target =~ al _ _ Fn.AN _ _ _
         refine al.fV (by simp only[EO,a3,b3,c3,d3]) (aK (aG.fV (ar.cu true v) o.own) (aK (.same _) b8)) (fun h=>jW true v hL peer h) (.bool _) ?_
         simp only[EZ,ag,Nat.reduceAdd,Nat.reduceBEq,df,aW,aX,aY,aZ,bc,aE,aO,ER,EF,ae.c,cb,lE,a1,a2,a3,b1,b2,b3,c1,c2,c3,d1,d2,d3,an,ah,k0,k1',e1',u1,ej,iR,rR,x1,x2,x3,x5,x6,x7,x9,xa,xb,q1,q2,iL,rL,ek,y1,y2,y3,y5,y6,y7,y9,ya,yb])
      | (guard_target =~ al _ _ Fn.KD _ _ _
         refine al.fV (by simp only[EO,a3,b3,c3,d3]) (aK (aG.fV (ar.cu true v) o.own) (aK (.same _) b8)) (fun h=>E6 true v hL peer h) (.int _ _) ?_
         rw[ek]
         simp only[EZ,ag,Nat.reduceAdd,Nat.reduceBEq,df,aW,aX,aY,aZ,bc,aE,aO,ER,EF,ae.c,cb,lE,a1,a2,a3,b1,b2,b3,c1,c2,c3,d1,d2,d3,an,ah,k0,k1',e1',u1,ej,iR,rR,x1,x2,x3,x5,x6,x7,x9,xa,xb,q1,q2,iL,rL,ek,y1,y2,y3,y5,y6,y7,y9,ya,yb])
      | (guard_target =~ al _ _ Fn.KV _ _ _
         refine al.own (by simp only[EO,y3,y7,yb]) (aK (aG.fV (aB.cu true l) oLr) (aK (.same _) b8)) (fun h=>E7 true l ol (j:Int) h) ?_
         rintro _ H4 fr
         replace fr:aV H _ _ _:=fr
         obtain⟨row',f',rfl,o',n',b',eg⟩:=fr.a2 rfl
         obtain⟨H5,s5,fu⟩:=fin H4 row' f' o' n' b' eg
         obtain⟨wX2,wQ2,wA2,_,_,_,rfl,_,oX2,oQ2,oA2⟩:=dT o'
         obtain⟨z1,z2,z3,z4⟩:=oX2.cell
         obtain⟨z5,z6,z7,z8⟩:=oQ2.cell
         obtain⟨z9,za,zb,zc⟩:=oA2.cell
         have kp:∀e e' L,eK [] ⟨e,L,H⟩ ⟨e',L,H4⟩:=fun e e' L r hr=>by simp at hr
         have cb4:∀(e:List AV) (L:List (List AV)) (off n:Nat),(St.mk e L H4).cells (.gp b 0 off) n=sub [.int .i64 v.id,wE,w2,wL,w4] off n:=fun e L off n=>bp (by rw[bt (eg.fr b blt)];exact hb)
         simp only[EZ,ag,Nat.reduceAdd,Nat.reduceBEq,df,aW,aX,aY,aZ,bc,aE,aO,ER,EF,ae.c,cb,lE,a1,a2,a3,b1,b2,b3,c1,c2,c3,d1,d2,d3,an,ah,k0,k1',e1',u1,ej,iR,rR,x1,x2,x3,x5,x6,x7,x9,xa,xb,q1,q2,iL,rL,ek,y1,y2,y3,y5,y6,y7,y9,ya,yb,CD.gI,cb4,z1,z2,z3,z5,z6,z7,z9,za,zb,s5])
      | exact eg.mem _ _ _
      | exact dg (eg.mem _ _ _)
      | exact⟨by rw[tw];rfl,by rw[tw];exact fu⟩
      | (guard_target =~ dJ _=true;rfl)
      | refine And.intro ?_ ?_)
  · skip
    simp only[EZ,ag,Nat.reduceAdd,Nat.reduceBEq,df,aW,aX,aY,aZ,bc,aE,aO,ER,EF,ae.c,cb,lE,a1,a2,a3,b1,b2,b3,c1,c2,c3,d1,d2,d3,an,ah,k0,k1',e1',u1,ej,iR,rR,x1,x2,x3,x5,x6,x7,x9,xa,xb,q1,iL,rL,ek,y1,y2,y3,y5,y6,y7,y9,ya,yb]
    repeat' (first
      | (guard_target =~ Mem _ _;first|exact Mem.loc ⟨_,([]:List (List AV))++[_,_],_⟩ _ [_]|exact Mem.loc ⟨_,([]:List (List AV))++[_,_,_],_⟩ _ [_]|exact Mem.loc ⟨_,([]:List (List AV))++[_,_,_,_],_⟩ _ [_]|exact eg.mem _ _ _)
      | (guard_target =~ eK _ _ _;first|exact eu rfl|exact fG (L':=[_]) rfl)
      | (guard_target =~ al _ _ Fn.ui _ _ _
         refine al.fV (by simp only[EO,a3,b3,c3,d3]) (aK (aG.fV (ar.cu true v) o.own) (aK (.same _) b8)) (fun h=>mg true v hE x h) (.agg _ (by intro z hz;simp only[ae.c,List.mem_cons,List.not_mem_nil,or_false]at hz;rcases hz with rfl|rfl<;>exact .int _ _)) ?_
         rw[←hy]
         simp only[EZ,ag,Nat.reduceAdd,Nat.reduceBEq,df,aW,aX,aY,aZ,bc,aE,aO,ER,EF,ae.c,cb,lE,a1,a2,a3,b1,b2,b3,c1,c2,c3,d1,d2,d3,an,ah,k0,k1',e1',u1,ej,iR,rR,x1,x2,x3,x5,x6,x7,x9,xa,xb,q1,iL,rL,ek,y1,y2,y3,y5,y6,y7,y9,ya,yb])
      | (guard_target =~ al _ _ Fn.lH [_,AV.int _ 0,AV.int _ 999999] _ _
         refine al.val (by simp only[EO]) (dW _ _ _ _) ?_
         simp only[EZ,ag,Nat.reduceAdd,Nat.reduceBEq,df,aW,aX,aY,aZ,bc,aE,aO,ER,EF,ae.c,cb,lE,a1,a2,a3,b1,b2,b3,c1,c2,c3,d1,d2,d3,an,ah,k0,k1',e1',u1,ej,iR,rR,x1,x2,x3,x5,x6,x7,x9,xa,xb,q1,iL,rL,ek,y1,y2,y3,y5,y6,y7,y9,ya,yb])
      | (guard_target =~ al _ _ Fn.lH _ _ _
         refine al.val (by simp only[EO]) (dW _ _ _ _) ?_
         rw[cZ _ hE]
         simp only[EZ,ag,Nat.reduceAdd,Nat.reduceBEq,df,aW,aX,aY,aZ,bc,aE,aO,ER,EF,ae.c,cb,lE,a1,a2,a3,b1,b2,b3,c1,c2,c3,d1,d2,d3,an,ah,k0,k1',e1',u1,ej,iR,rR,x1,x2,x3,x5,x6,x7,x9,xa,xb,q1,iL,rL,ek,y1,y2,y3,y5,y6,y7,y9,ya,yb])
      | (guard_target =~ al _ _ Fn.AN _ _ _
         refine al.fV (by simp only[EO,a3,b3,c3,d3]) (aK (aG.fV (ar.cu true v) o.own) (aK (.same _) b8)) (fun h=>jW true v hL peer h) (.bool _) ?_
         simp only[EZ,ag,Nat.reduceAdd,Nat.reduceBEq,df,aW,aX,aY,aZ,bc,aE,aO,ER,EF,ae.c,cb,lE,a1,a2,a3,b1,b2,b3,c1,c2,c3,d1,d2,d3,an,ah,k0,k1',e1',u1,ej,iR,rR,x1,x2,x3,x5,x6,x7,x9,xa,xb,q1,iL,rL,ek,y1,y2,y3,y5,y6,y7,y9,ya,yb])
      | (guard_target =~ al _ _ Fn.KD _ _ _
         refine al.fV (by simp only[EO,a3,b3,c3,d3]) (aK (aG.fV (ar.cu true v) o.own) (aK (.same _) b8)) (fun h=>E6 true v hL peer h) (.int _ _) ?_
         rw[ek]
         simp only[EZ,ag,Nat.reduceAdd,Nat.reduceBEq,df,aW,aX,aY,aZ,bc,aE,aO,ER,EF,ae.c,cb,lE,a1,a2,a3,b1,b2,b3,c1,c2,c3,d1,d2,d3,an,ah,k0,k1',e1',u1,ej,iR,rR,x1,x2,x3,x5,x6,x7,x9,xa,xb,q1,iL,rL,ek,y1,y2,y3,y5,y6,y7,y9,ya,yb])
      | (guard_target =~ al _ _ Fn.KV _ _ _
         refine al.own (by simp only[EO,y3,y7,yb]) (aK (aG.fV (aB.cu true l) oLr) (aK (.same _) b8)) (fun h=>E7 true l ol (j:Int) h) ?_
         rintro _ H4 fr
         replace fr:aV H _ _ _:=fr
         obtain⟨row',f',rfl,o',n',b',eg⟩:=fr.a2 rfl
         obtain⟨H5,s5,fu⟩:=fin H4 row' f' o' n' b' eg
         obtain⟨wX2,wQ2,wA2,_,_,_,rfl,_,oX2,oQ2,oA2⟩:=dT o'
         obtain⟨z1,z2,z3,z4⟩:=oX2.cell
         obtain⟨z5,z6,z7,z8⟩:=oQ2.cell
         obtain⟨z9,za,zb,zc⟩:=oA2.cell
         have kp:∀e e' L,eK [] ⟨e,L,H⟩ ⟨e',L,H4⟩:=fun e e' L r hr=>by simp at hr
         have cb4:∀(e:List AV) (L:List (List AV)) (off n:Nat),(St.mk e L H4).cells (.gp b 0 off) n=sub [.int .i64 v.id,wE,w2,wL,w4] off n:=fun e L off n=>bp (by rw[bt (eg.fr b blt)];exact hb)
         simp only[EZ,ag,Nat.reduceAdd,Nat.reduceBEq,df,aW,aX,aY,aZ,bc,aE,aO,ER,EF,ae.c,cb,lE,a1,a2,a3,b1,b2,b3,c1,c2,c3,d1,d2,d3,an,ah,k0,k1',e1',u1,ej,iR,rR,x1,x2,x3,x5,x6,x7,x9,xa,xb,q1,iL,rL,ek,y1,y2,y3,y5,y6,y7,y9,ya,yb,CD.gI,cb4,z1,z2,z3,z5,z6,z7,z9,za,zb,s5])
      | exact eg.mem _ _ _
      | exact dg (eg.mem _ _ _)
      | exact⟨by rw[tw];rfl,by rw[tw];exact fu⟩
      | (guard_target =~ dJ _=true;rfl)
      | refine And.intro ?_ ?_)
end Go.Proofs.YtccjhmhkfnnmaaaGreat
namespace Go.Proofs.YtccjhmhkfnnmaaaGreat
open Go.AM
variable {Γ:bY}
def BV(N:Nat)(v:ar):Prop:=∀l∈v.links,l.ok N
theorem BV.mono{N M:Nat}{v:ar}(h:BV N v)(hN:N≤M):BV M v:=fun l hl=>(h l hl).mono hN
theorem nY(l:aB)(e:Int):(eO l e).1.exports.length≤l.exports.length+1∧(eO l e).1.questions=l.questions∧(eO l e).1.answers=l.answers:=by
  unfold eO;split<;>simp
theorem Ga{N:Nat}{l:aB}(h:l.ok N)(e:Int):(eO l e).1.ok (N+1):=by
  obtain⟨p1,p2,p3⟩:=nY l e
  refine⟨by have:=h.1;omega,by rw[p2];have:=h.2.1;omega,by rw[p3];have:=h.2.2;omega⟩
theorem CF{N:Nat}{v:ar}(h:BV N v)(k:Nat):(v.links.getD k default).ok N:=by
  rw[List.getD_eq_getElem?_getD]
  cases hk:v.links[k]? with
  | some l=>exact h l (List.mem_of_getElem? hk)
  | none=>exact⟨Nat.zero_le _,Nat.zero_le _,Nat.zero_le _⟩
theorem yW(v:ar)(peer:Int)(x:ae):(bJ v peer x).1.entities=v.entities∧(bJ v peer x).1.links.length=v.links.length:=by
  unfold bJ
  split
  · exact⟨rfl,rfl⟩
  · split
    · split
      · exact⟨rfl,rfl⟩
      · exact⟨rfl,List.length_set⟩
    · exact⟨rfl,rfl⟩
theorem Ay{N:Nat}{v:ar}(h:BV N v)(peer:Int)(x:ae):BV (N+1) (bJ v peer x).1:=by
  have h1:BV (N+1) v:=h.mono (by omega)
  unfold bJ
  split
  · exact h1
  · split
    · split
      · exact h1
      · intro l hl
        rcases List.mem_or_eq_of_mem_set hl with g|g
        · exact h1 l g
        · rw[g];exact Ga (CF h _) _
    · exact h1
def aL(v:ar)(peer:Int):List ae→ar×List bW
  | []=>(v,[])
  | x::l=>((aL (bJ v peer x).1 peer l).1,(bJ v peer x).2::(aL (bJ v peer x).1 peer l).2)
theorem kq(peer:Int)(x:ae):∀(l:List ae) (v:ar),aL v peer (l++[x])=((bJ (aL v peer l).1 peer x).1,(aL v peer l).2++[(bJ (aL v peer l).1 peer x).2])
  | [],v=>rfl
  | y::l,v=>by simp only[List.cons_append,aL,kq peer x l]
theorem hM(peer:Int):∀(l:List ae) (v:ar),(aL v peer l).1.entities=v.entities∧(aL v peer l).1.links.length=v.links.length
  | [],v=>⟨rfl,rfl⟩
  | x::l,v=>by
    have h1:=yW v peer x
    have h2:=hM peer l (bJ v peer x).1
    simp only[aL]
    exact⟨h2.1.trans h1.1,h2.2.trans h1.2⟩
theorem nc(peer:Int):∀(l:List ae) {N:Nat} {v:ar},BV N v→BV (N+l.length) (aL v peer l).1
  | [],_,_,h=>h
  | x::l,N,v,h=>by
    have:=nc peer l (Ay h peer x)
    simp only[aL,List.length_cons]
    exact this.mono (by omega)
theorem jE(peer:Int):∀(l:List ae) (v:ar),(aL v peer l).2.length=l.length
  | [],v=>rfl
  | x::l,v=>by simp only[aL,List.length_cons,jE peer l]
set_option maxHeartbeats 4000000 in
theorem NK(v:ar)(hE:v.entities.length≤1048576)(hL:v.links.length≤1048576){N:Nat}(hlk:BV N v)(peer:Int)(l:List ae)(hN:N+l.length≤1048576)(H:AH){b:Nat}{wE w2 wL w4:AV}{fE f2 fL f4:List Nat}(o:VO H b v wE w2 wL w4 fE f2 fL f4){wa:AV}{fa:List Nat}(oa:b6 H wa (.sl 2 (l.map ae.cd)) fa)(na:fa.Nodup)(da:∀c∈fa,c∉fL):
    T Tryz.prog Γ Fn.Sb [.gp b 0 0,.int .i64 peer,wa] H fun r H'=>∃fL' fw,VO H' b (aL v peer l).1 wE w2 wL w4 fE f2 fL' f4∧b6 H' r (.sl 2 ((aL v peer l).2.map bW.cd)) fw∧fw.Nodup∧H.length≤H'.length∧(∀c∈fL',c∈fL∨H.length≤c)∧(∀c∈fw,H.length≤c∧c∉fL')∧(∀c,c∉fL→c<H.length→H'[c]? = H[c]?):=by
  have LA:=(cP oa).2
  rw[List.length_map]at LA
  have q1:=o.lt
  have q2:=o.blt
  refine QB (au aC aD [] _ _ _ ?_)
  unfold Kv
  simp only[EZ,ag,Nat.reduceAdd,Nat.reduceBEq,vo,EA]
  refine et aC aD [] (fun x:Nat×AV×AH×List Nat×List Nat×List (List AV)=>x.1≤l.length∧VO x.2.2.1 b (aL v peer (l.take x.1)).1 wE w2 wL w4 fE f2 x.2.2.2.1 f4∧b6 x.2.2.1 x.2.1 (.sl 2 ((aL v peer (l.take x.1)).2.map bW.cd)) x.2.2.2.2.1∧x.2.2.2.2.1.Nodup∧H.length≤x.2.2.1.length∧(∀c∈x.2.2.2.1,c∈fL∨H.length≤c)∧(∀c∈x.2.2.2.2.1,H.length≤c∧c∉x.2.2.2.1)∧(∀c,c∉fL→c<H.length→x.2.2.1[c]? = H[c]?)) (fun x=>l.length-x.1)
    (fun x=>yj (.gp b 0 0) (.int .i64 peer) wa x.2.1 (.int .i64 x.1) x.2.2.2.2.2 x.2.2.1) (0,.gs H.length 0 0 0 0 2 true,H++[some (0,[])],fL,[H.length],[])
    ⟨by simp,o.frame fun c hc=>List.getElem?_append_left (by rcases hc with g|g;exact q1 c g;rw[g];exact q2),dI H 2,by simp,by simp,fun c hc=>.inl hc,fun c hc=>by rw[List.mem_singleton.1 hc];exact⟨Nat.le_refl _,fun g=>by have:=q1 _ (aN.2 (.inr (.inr (.inl g))));omega⟩,fun c _ h=>List.getElem?_append_left h⟩ ⟨by simp[yj,fY,fO],rfl,rfl⟩ ?_
  rintro⟨k,w,H1,f1,fw,M⟩ ⟨hk,ha,ho,nd,hl1,m1,mw,r1⟩
  simp only at hk ha ho nd hl1 m1 mw r1
  simp only[EZ,ag,Nat.reduceAdd,Nat.reduceBEq,vo,yj,LA]
  refine bP (fun hlt=>?_) (fun hge=>?_)
  rotate_left
  · have hge:k=l.length:=by simp at hge;omega
    subst hge
    rw[List.take_length]at ha ho
    obtain⟨ca,cb,cc,cd⟩:=ho.cell
    simp only[EZ,ag,Nat.reduceAdd,Nat.reduceBEq,vo,ca,cb,cc]
    exact⟨ho.dJ,f1,fw,ha,ho,nd,hl1,m1,mw,r1⟩
  have hlt:k<l.length:=by simpa using hlt
  have oa1:b6 H1 wa (.sl 2 (l.map ae.cd)) fa:=oa.frame fun c hc=>r1 c (da c hc) (oa.lt c hc)
  obtain⟨bR,gR,row,fR,iR,_,_,rR,_,oR,_,_,lR⟩:=oa1.row na (k:=k) (by simpa using hlt)
  rw[List.getElem_map]at oR
  obtain⟨x,hx⟩:∃x,x=l[k]:=⟨_,rfl⟩
  rw[←hx]at oR
  simp only[ae.cd,fW,fN,gB]at oR
  obtain⟨_,_,_,_,rfl,rfl,⟨rfl,rfl⟩,⟨_,_,_,_,rfl,rfl,⟨rfl,rfl⟩,⟨rfl,rfl⟩⟩⟩:=oR
  have te:=hM peer (l.take k) v
  have hk2:(l.take k).length=k:=by rw[List.length_take];exact Nat.min_eq_left hk
  have to:BV 1048576 (aL v peer (l.take k)).1:=(nc peer (l.take k) hlk).mono (by rw[hk2];omega)
  have ts:aL v peer (l.take (k+1))=((bJ (aL v peer (l.take k)).1 peer x).1,(aL v peer (l.take k)).2++[(bJ (aL v peer (l.take k)).1 peer x).2]):=by
    rw[List.take_succ_eq_append_getElem hlt,←hx,kq]
  have tl:=jE peer (l.take k) v
  obtain⟨vk,hvk⟩:∃vk,vk=(aL v peer (l.take k)).1:=⟨_,rfl⟩
  obtain⟨wk,hwk⟩:∃wk,wk=(aL v peer (l.take k)).2:=⟨_,rfl⟩
  rw[←hvk]at ha te to ts
  rw[←hwk]at ho ts tl
  obtain⟨ca,cb,cc,cd⟩:=ho.cell
  simp only[EZ,ag,Nat.reduceAdd,Nat.reduceBEq,vo,iR,rR,ca,cb,cc]
  refine al.ref (by simp only[EO]) (J3 vk (by rw[te.1];exact hE) (by rw[te.2];exact hL) to peer x H1 ha) ?_
  rintro r H2 ⟨rfl,f2',a2,l2,m2,r2⟩
  replace a2:VO H2 b _ wE w2 wL w4 fE f2 f2' f4:=a2
  replace l2:H1.length≤H2.length:=l2
  replace r2:∀c,c∉f1→c<H1.length→H2[c]? = H1[c]?:=r2
  obtain⟨y,hy⟩:∃y,y=(bJ vk peer x).2:=⟨_,rfl⟩
  rw[←hy]at ts ⊢
  have o2:b6 H2 w (.sl 2 (wk.map bW.cd)) fw:=ho.frame fun c hc=>r2 c (mw c hc).2 (ho.lt c hc)
  obtain⟨v',H',fp',ea,o',nd',hf',hl',hm'⟩:=cY (bytes:=16) o2 (ys:=[.int .i64 y.kind,.int .i64 y.n]) (row:=[.i .i64 y.kind,.i .i64 y.n]) (f2:=[]) (by simpa using nd) (by omega) rfl (.i (.i .nil)) (by simp only[List.length_map,aQ];omega)
  simp only[EZ,ag,Nat.reduceAdd,Nat.reduceBEq,vo,EA,bW.c,ca,cb,cc,ea]
  have old:∀c∈fw,c∉eL fE f2 f2' f4∧c≠b:=fun c hw=>by
    refine⟨fun h=>?_,fun e=>by have:=(mw c hw).1;omega⟩
    rcases aN.1 h with g|g|g|g
    · have:=q1 c (aN.2 (.inl g));have:=(mw c hw).1;omega
    · have:=q1 c (aN.2 (.inr (.inl g)));have:=(mw c hw).1;omega
    · rcases m2 c g with q|q
      · exact(mw c hw).2 q
      · have:=ho.lt c hw;omega
    · have:=q1 c (aN.2 (.inr (.inr (.inr g))));have:=(mw c hw).1;omega
  have lt2:=a2.lt
  have bt2:=a2.blt
  refine⟨(k+1,v',H',f2',fp',_),⟨hlt,by
      simp only;rw[ts];exact a2.frame fun c hc=>hf' c (fun hw=>by rcases hc with g|g;exact(old c hw).1 g;exact(old c hw).2 g) (by rcases hc with g|g;exact lt2 c g;rw[g];exact bt2),by simp only;rw[ts,List.map_append];exact o',nd',by simp only;omega,fun c hc=>?_,fun c hc=>?_,fun c h1 h3=>?_⟩,by simp only;omega,⟨by rw[wN (by omega)];simp[yj,fY,fO],rfl,rfl⟩⟩
  · rcases m2 c hc with g|g
    · exact m1 c g
    · exact .inr (by omega)
  · rcases hm' c hc with g|g|g
    · exact⟨(mw c g).1,fun h=>(old c g).1 (aN.2 (.inr (.inr (.inl h))))⟩
    · simp at g
    · exact⟨by omega,fun h=>by have:=lt2 c (aN.2 (.inr (.inr (.inl h))));omega⟩
  · simp only
    rw[hf' c (fun g=>by have:=(mw c g).1;omega) (by omega),r2 c (fun g=>by rcases m1 c g with q|q;exact h1 q;omega) (by omega),r1 c h1 h3]
end Go.Proofs.YtccjhmhkfnnmaaaGreat
namespace Go.Proofs.YtccjhmhkfnnmaaaGreat
open Go.AM
variable {Γ:bY}
def gA(v:ar)(x:ae):Bool:=decide (x.kind=1) && (cO x.n v.entities.length && ju (v.entities.getD x.n.toNat default))
theorem zl{v:ar}{x:ae}{j:Nat}(hk:x.kind=1)(hj:j<v.entities.length)(ej:x.n=(j:Int)):gA v x=ju v.entities[j]:=by
  have h1:cO (j:Int) v.entities.length=true:=by simp only[cO,Bool.and_eq_true,decide_eq_true_eq];omega
  simp only[gA,hk,decide_true,ej,h1,Bool.true_and,Int.toNat_natCast,List.getD_eq_getElem?_getD,List.getElem?_eq_getElem hj,Option.getD_some]
theorem QX(β β':Bool)(v:ar)(hv:v.entities.length≤1048576)(x:ae)(H:AH){p:AV}(hp:Ptr H p (v.c β)):
    T Tryz.prog Γ Fn.MF [p,.agg (x.c β')] H fun r h'=>((x.kind=1∧∃k:Nat,∃hk:k<v.entities.length,x.n=(k:Int)∧r=.ip β (v.entities[k].c β))∨((x.kind=1→∀k:Nat,x.n=(k:Int)→v.entities.length≤k)∧r=.nilp))∧h'=H:=by
  refine HB (au aC aD [] _ _ _ ?_)
  unfold Ed
  by_cases h1:x.kind=1
  · simp only[EZ,ag,Nat.reduceAdd,Nat.reduceBEq,pW,ae.c,an,decide_eq_true h1]
    refine al.ref (by simp only[EO,hp.out]) (Fs β v hv x.n _ hp) ?_
    rintro r h' ⟨⟨k,hk,e1,rfl⟩|⟨ho,rfl⟩,rfl⟩
    · simp only[EZ,ag,Nat.reduceAdd,Nat.reduceBEq,pW]
      exact⟨rfl,.inl ⟨h1,k,hk,e1,rfl⟩⟩
    · simp only[EZ,ag,Nat.reduceAdd,Nat.reduceBEq,pW]
      refine⟨rfl,?_⟩
      have hx:x.kind=1→∀k:Nat,x.n=(k:Int)→v.entities.length≤k:=fun _=>ho
      first|exact .inr ⟨hx,rfl⟩|exact hx|exact .inr hx
  · simp only[EZ,ag,Nat.reduceAdd,Nat.reduceBEq,pW,ae.c,an,decide_eq_false h1]
    refine⟨rfl,?_⟩
    have hx:x.kind=1→∀k:Nat,x.n=(k:Int)→v.entities.length≤k:=fun e=>absurd e h1
    first|exact .inr ⟨hx,rfl⟩|exact hx|exact .inr hx
theorem Rx(β β':Bool)(v:ar)(hE:v.entities.length≤1048576)(x:ae)(H:AH){p:AV}(hp:Ptr H p (v.c β)):T Tryz.prog Γ Fn.Qa [p,.agg (x.c β')] H fun r h'=>r=.bool (gA v x)∧h'=H:=by
  have L0:=di β 12 false v.entities (aq.c β)
  refine PH (au aC aD [] _ _ _ ?_)
  unfold Ib
  by_cases k1:x.kind=1
  rotate_left
  · have e:gA v x=false:=by simp only[gA,decide_eq_false k1,Bool.false_and]
    simp only[EZ,ag,Nat.reduceAdd,Nat.reduceBEq,tY,kN,aE,ae.c,ah,decide_eq_false k1,e]
    first|exact⟨rfl,rfl⟩|exact rfl|trivial
  cases e1:cO x.n v.entities.length
  · have e:gA v x=false:=by simp only[gA,e1,Bool.false_and,Bool.and_false]
    simp only[EZ,ag,Nat.reduceAdd,Nat.reduceBEq,tY,kN,aE,ae.c,ah,decide_eq_true k1,hp.nil,hp.fld,hp.rd,ar.iU,Nat.reduceLeDiff,ar.c,L0]
    refine al.val (by simp only[EO]) (dW _ _ _ _) ?_
    rw[cZ _ hE,e1]
    simp only[EZ,ag,Nat.reduceAdd,Nat.reduceBEq,tY,kN,aE,ae.c,e]
    first|exact⟨rfl,rfl⟩|exact rfl|trivial
  obtain⟨j,ej,hj⟩:=nh e1
  have e:=zl k1 hj ej
  have i0:=dU (β:=β) (sz:=12) (ex:=false) (ce:=aq.c β) hj
  have e1':cO (j:Int) v.entities.length=true:=by rw[←ej];exact e1
  obtain⟨en,hen⟩:∃en,en=v.entities[j]:=⟨_,rfl⟩
  rw[←hen]at i0 e
  simp only[EZ,ag,Nat.reduceAdd,Nat.reduceBEq,tY,kN,aE,ae.c,ah,decide_eq_true k1,hp.nil,hp.fld,hp.rd,ar.iU,Nat.reduceLeDiff,ar.c,L0,ej]
  refine al.val (by simp only[EO]) (dW _ _ _ _) ?_
  rw[cZ _ hE,e1']
  simp only[EZ,ag,Nat.reduceAdd,Nat.reduceBEq,tY,kN,aE,aO,ae.c,ah,hp.nil,hp.fld,hp.rd,ar.iU,Nat.reduceLeDiff,ar.c,L0,ej,i0,aq.c]
  refine al.val (by simp only[EO]) (E9 β en _) ?_
  simp only[EZ,ag,Nat.reduceAdd,Nat.reduceBEq,tY,kN,e]
  first|exact⟨rfl,rfl⟩|exact rfl|trivial
theorem Pr(β β':Bool)(v:ar)(hE:v.entities.length≤1048576)(x:ae)(H:AH){p:AV}(hp:Ptr H p (v.c β)):T Tryz.prog Γ Fn.GP [p,.agg (x.c β')] H fun r h'=>((gA v x=true∧x.kind=1∧∃k:Nat,∃hk:k<v.entities.length,x.n=(k:Int)∧r=.ip β (v.entities[k].c β))∨(gA v x=false∧r=.nilp))∧h'=H:=by
  refine JR (au aC aD [] _ _ _ ?_)
  unfold Ei
  simp only[EZ,ag,Nat.reduceAdd,Nat.reduceBEq,lX,aE,ae.c]
  refine al.ref (by simp only[EO,hp.out]) (QX β false v hE x _ hp) ?_
  rintro r h' ⟨⟨k1,j,hj,ej,rfl⟩|⟨ho,rfl⟩,e⟩
  · replace e:h'=H:=e
    subst e
    have e:=zl k1 hj ej
    simp only[EZ,ag,Nat.reduceAdd,Nat.reduceBEq,lX,aE,aO,EF,aq.c]
    refine al.val (by simp only[EO]) (Kd β v.entities[j] _) ?_
    cases hpd:ju v.entities[j]
    · rw[hpd]at e
      simp only[EZ,ag,Nat.reduceAdd,Nat.reduceBEq,lX]
      first|exact⟨rfl,.inr ⟨e,rfl⟩,rfl⟩|exact⟨rfl,.inr ⟨e,rfl⟩⟩|exact⟨.inr ⟨e,rfl⟩,rfl⟩|exact⟨rfl,.inr e⟩|exact .inr e
    · rw[hpd]at e
      simp only[EZ,ag,Nat.reduceAdd,Nat.reduceBEq,lX]
      first|exact⟨rfl,.inl ⟨e,k1,j,hj,ej,rfl⟩,rfl⟩|exact⟨rfl,.inl ⟨e,k1,j,hj,ej,rfl⟩⟩|exact⟨.inl ⟨e,k1,j,hj,ej,rfl⟩,rfl⟩
  · replace e:h'=H:=e
    subst e
    have e:gA v x=false:=by
      cases hh:gA v x
      · rfl
      · simp only[gA,Bool.and_eq_true,decide_eq_true_eq]at hh
        obtain⟨j,ej,hj⟩:=nh hh.2.1
        have:=ho hh.1 j ej;omega
    simp only[EZ,ag,Nat.reduceAdd,Nat.reduceBEq,lX,EF]
    first|exact⟨rfl,.inr ⟨e,rfl⟩,rfl⟩|exact⟨rfl,.inr ⟨e,rfl⟩⟩|exact⟨.inr ⟨e,rfl⟩,rfl⟩|exact⟨rfl,.inr e⟩|exact .inr e
end Go.Proofs.YtccjhmhkfnnmaaaGreat
namespace Go.Proofs.YtccjhmhkfnnmaaaGreat
open Go.AM
variable {Γ:bY}
end Go.Proofs.YtccjhmhkfnnmaaaGreat
namespace Go.Proofs.YtccjhmhkfnnmaaaGreat
open Go.AM
variable {Γ:bY}
def hQ(v:ar)(p:Int):Bool:=cO p v.entities.length && !gA v (cg v ⟨1,p⟩)
theorem N7(β:Bool)(v:ar)(hE:v.entities.length≤1048576)(p:Int)(h:AH):T Tryz.prog Γ Fn.RB [.agg (v.c β),.int .i64 p] h fun r h'=>r=.agg ((cg v ⟨1,p⟩).c false)∧h'=h:=by
  refine(?_:T Tryz.prog Γ Fn.RB _ h fun r h'=>r=.agg ((cg v ⟨1,p⟩).c false)∧∃N,h'=h++N).drop (by rintro r h' ⟨rfl,N,rfl⟩;exact⟨N,rfl,.agg _ (by intro z hz;simp only[ae.c,List.mem_cons,List.not_mem_nil,or_false]at hz;rcases hz with rfl|rfl<;>exact .int _ _),rfl,rfl⟩)
  have hq:Ptr (h++[some (0,v.c β)]) (.gp h.length 0 0) (v.c β):=Ptr.Sr (cW h _)
  refine Nz (au aC aD [2] _ _ _ ?_)
  unfold JZ
  simp only[EZ,ag,Nat.reduceAdd,Nat.reduceBEq,Bp,tN _ _ (show List.all (ar.c β v) bj=true from rfl),i6]
  refine al.val (by simp only[EO]) (xz _ _) ?_
  simp only[EZ,ag,Nat.reduceAdd,Nat.reduceBEq,Bp]
  refine al.val (by simp only[EO,ae.c]) (zO β v hE ⟨1,p⟩ _ hq) ?_
  obtain⟨y,hy⟩:∃y,y=cg v ⟨1,p⟩:=⟨_,rfl⟩
  rw[←hy]
  simp only[EZ,ag,Nat.reduceAdd,Nat.reduceBEq,Bp,aE,ae.c]
  first|exact⟨rfl,rfl,_,rfl⟩|exact⟨rfl,_,rfl⟩|exact⟨_,rfl⟩
theorem Mo(β:Bool)(v:ar)(hE:v.entities.length≤1048576)(p:Int)(h:AH):T Tryz.prog Γ Fn.R9 [.agg (v.c β),.int .i64 p] h fun r h'=>r=.bool (hQ v p)∧h'=h:=by
  refine(?_:T Tryz.prog Γ Fn.R9 _ h fun r h'=>r=.bool (hQ v p)∧∃N,h'=h++N).drop (by rintro r h' ⟨rfl,N,rfl⟩;exact⟨N,rfl,.bool _,rfl,rfl⟩)
  have hq:Ptr (h++[some (0,v.c β)]) (.gp h.length 0 0) (v.c β):=Ptr.Sr (cW h _)
  refine QP (au aC aD [2] _ _ _ ?_)
  unfold J4
  simp only[EZ,ag,Nat.reduceAdd,Nat.reduceBEq,rJ,tN _ _ (show List.all (ar.c β v) bj=true from rfl),i6]
  refine al.ref (by simp only[EO]) (Fs β v hE p _ hq) ?_
  rintro r H1 ⟨⟨k,hk,ek,rfl⟩|⟨ho,rfl⟩,e⟩
  rotate_left
  · replace e:H1=h++[some (0,v.c β)]:=e
    subst e
    have e:hQ v p=false:=by
      cases hh:cO p v.entities.length
      · rw[hQ,hh,Bool.false_and]
      · obtain⟨j,ej,hj⟩:=nh hh
        have:=ho j ej;omega
    simp only[EZ,ag,Nat.reduceAdd,Nat.reduceBEq,rJ,EF,e]
    first|exact⟨rfl,_,rfl⟩|exact⟨_,rfl⟩
  replace e:H1=h++[some (0,v.c β)]:=e
  subst e
  have en:cO p v.entities.length=true:=by rw[ek];simp only[cO,Bool.and_eq_true,decide_eq_true_eq];omega
  simp only[EZ,ag,Nat.reduceAdd,Nat.reduceBEq,rJ,EF]
  refine al.val (by simp only[EO]) (xz _ _) ?_
  simp only[EZ,ag,Nat.reduceAdd,Nat.reduceBEq,rJ]
  refine al.val (by simp only[EO,ae.c]) (zO β v hE ⟨1,p⟩ _ hq) ?_
  obtain⟨y,hy⟩:∃y,y=cg v ⟨1,p⟩:=⟨_,rfl⟩
  rw[←hy]
  simp only[EZ,ag,Nat.reduceAdd,Nat.reduceBEq,rJ,ae.c]
  refine al.ref (by simp only[EO]) (Pr β false v hE y _ hq) ?_
  have es:hQ v p = !gA v y:=by rw[hQ,en,Bool.true_and,←hy]
  rintro r H1 ⟨⟨hp,_,k2,hk2,ek2,rfl⟩|⟨hp,rfl⟩,e⟩
  · replace e:H1=h++[some (0,v.c β)]:=e
    subst e
    rw[es,hp]
    simp only[EZ,ag,Nat.reduceAdd,Nat.reduceBEq,rJ,EF]
    first|exact⟨rfl,_,rfl⟩|exact⟨_,rfl⟩
  · replace e:H1=h++[some (0,v.c β)]:=e
    subst e
    rw[es,hp]
    simp only[EZ,ag,Nat.reduceAdd,Nat.reduceBEq,rJ,EF]
    first|exact⟨rfl,_,rfl⟩|exact⟨_,rfl⟩
end Go.Proofs.YtccjhmhkfnnmaaaGreat
namespace Go.Proofs.YtccjhmhkfnnmaaaGreat
open Go.AM
variable {Γ:bY}
def iA(l:List aq):Nat:=(l.map fun e=>e.queue.length).sum
def oY(l:List aJ):Nat:=(l.filter fun o=>decide (o.message.kind=1)).length
def c6(v:ar):Nat:=v.loop.length+iA v.entities+oY v.out
theorem AZ{l:List aq}{k:Nat}(hk:k<l.length):iA (l.take (k+1))=iA (l.take k)+l[k].queue.length:=by
  simp only[iA];rw[List.take_succ_eq_append_getElem hk,List.map_append,List.sum_append];simp
theorem A2{l:List aJ}{k:Nat}(hk:k<l.length):oY (l.take (k+1))=oY (l.take k)+if l[k].message.kind=1 then 1 else 0:=by
  simp only[oY];rw[List.take_succ_eq_append_getElem hk,List.filter_append,List.length_append]
  congr 1
  simp only[List.filter_cons,List.filter_nil]
  by_cases h:l[k].message.kind=1<;>simp[h]
theorem zW{N:Nat}:∀{l:List aq},(∀e∈l,e.queue.length≤N)→iA l≤l.length*N
  | [],_=>by simp[iA]
  | x::l,h=>by
    have h1:=zW fun y hy=>h y (List.mem_cons_of_mem _ hy)
    have h2:=h x (by simp)
    simp only[iA,List.map_cons,List.sum_cons,List.length_cons,Nat.succ_mul]at *;omega
theorem E0(l:List aJ):oY l≤l.length:=List.length_filter_le ..
set_option maxHeartbeats 2000000 in
theorem vB(β:Bool)(v:ar)(hv:v.ok 1048576)(h:AH):T Tryz.prog Γ Fn.LD [.agg (v.c β)] h fun r h'=>r=.int .i64 (c6 v)∧h'=h:=by
  have LE:=di β 12 false v.entities (aq.c β)
  have LO:=di β 13 false v.out (aJ.c β)
  have L2:=di β 7 false v.loop (aM.c β)
  have hE:=hv.1
  have hlp:=hv.2.2.1
  have hO:=hv.2.2.2.2.2.2.1
  have hq:∀e∈v.entities,e.queue.length≤1048576:=fun e he=>(hv.2.1 e he).2.1
  have bq:∀k,iA (v.entities.take k)≤1099511627776:=fun k=>by
    have:=zW (N:=1048576) (l:=v.entities.take k) fun e he=>hq e (List.mem_of_mem_take he)
    have h2:(v.entities.take k).length≤1048576:=by rw[List.length_take];omega
    have h3:(v.entities.take k).length*1048576≤1048576*1048576:=Nat.mul_le_mul_right _ h2
    omega
  refine NJ (au aC aD [] _ _ _ ?_)
  unfold G7
  simp only[EZ,ag,Nat.reduceAdd,Nat.reduceBEq,pF,aE,ar.c,L2]
  refine et aC aD [] (fun k:Nat=>k≤v.entities.length) (fun k=>v.entities.length-k)
    (fun k=>yK (.lp ([]:List (List AV)).length 0) (.int .i64 ((v.loop.length+iA (v.entities.take k):Nat):Int)) (.int .i64 k) (([]:List (List AV))++[v.c β]) h) 0 (by omega) ⟨by simp[yK,fY,fO,iA],rfl,rfl⟩ ?_
  intro k hk
  simp only[EZ,ag,Nat.reduceAdd,Nat.reduceBEq,pF,yK,aE,ar.c,LE]
  refine bP (fun hlt=>?_) (fun hge=>?_)
  · have hlt:k<v.entities.length:=by simpa using hlt
    have i0:=dU (β:=β) (sz:=12) (ex:=false) (ce:=aq.c β) hlt
    have LQ:=di β 7 false v.entities[k].queue (aM.c β)
    have ht:=AZ hlt
    have b1:=bq (k+1)
    simp only[EZ,ag,Nat.reduceAdd,Nat.reduceBEq,pF,aE,aO,ar.c,LE,i0,aq.c,LQ]
    refine⟨k+1,hlt,by omega,⟨?_,rfl,rfl⟩⟩
    rw[wN (by omega)]
    have e2:IntKind.i64.wrap (((v.loop.length+iA (v.entities.take k):Nat):Int)+(v.entities[k].queue.length:Int))=((v.loop.length+iA (v.entities.take (k+1)):Nat):Int):=by
      rw[fo (by omega) (by omega)];omega
    first|rw[e2]|skip
    simp[yK,fY,fO,e2]
  have hge:k=v.entities.length:=by simp at hge;omega
  subst hge
  simp only[EZ,ag,Nat.reduceAdd,Nat.reduceBEq,pF]
  have bE:=bq v.entities.length
  rw[List.take_length]at bE
  refine et aC aD [] (fun k:Nat=>k≤v.out.length) (fun k=>v.out.length-k)
    (fun k=>tC (.lp ([]:List (List AV)).length 0) (.int .i64 ((v.loop.length+iA v.entities+oY (v.out.take k):Nat):Int)) (.int .i64 k) (([]:List (List AV))++[v.c β]) h) 0 (by omega) ⟨by simp[tC,fY,fO,oY],rfl,rfl⟩ ?_
  intro k hk
  simp only[EZ,ag,Nat.reduceAdd,Nat.reduceBEq,pF,tC,aE,ar.c,LO]
  refine bP (fun hlt=>?_) (fun hge=>?_)
  rotate_left
  · have hge:k=v.out.length:=by simp at hge;omega
    subst hge
    simp only[EZ,ag,Nat.reduceAdd,Nat.reduceBEq,pF]
    rw[List.take_length]
    first|exact⟨rfl,rfl⟩|rfl
  have hlt:k<v.out.length:=by simpa using hlt
  have i0:=dU (β:=β) (sz:=13) (ex:=false) (ce:=aJ.c β) hlt
  have ht:=A2 hlt
  have bo:=E0 (v.out.take (k+1))
  rw[List.length_take]at bo
  by_cases hp:v.out[k].message.kind=1
  · rw[if_pos hp]at ht
    simp only[EZ,ag,Nat.reduceAdd,Nat.reduceBEq,pF,aE,aO,ar.c,LO,i0,aJ.c,bm.c,ah,decide_eq_true hp]
    refine⟨k+1,hlt,by omega,⟨?_,rfl,rfl⟩⟩
    have e3:IntKind.i64.wrap ((k:Int)+1)=((k+1:Nat):Int):=wN (by omega)
    have e2:IntKind.i64.wrap (((v.loop.length+iA v.entities+oY (v.out.take k):Nat):Int)+1)=((v.loop.length+iA v.entities+oY (v.out.take (k+1)):Nat):Int):=by
      rw[fo (by omega) (by omega)];omega
    rw[e2,e3]
    simp[tC,fY,fO]
  · rw[if_neg hp,Nat.add_zero]at ht
    simp only[EZ,ag,Nat.reduceAdd,Nat.reduceBEq,pF,aE,aO,ar.c,LO,i0,aJ.c,bm.c,ah,decide_eq_false hp]
    refine⟨k+1,hlt,by omega,⟨?_,rfl,rfl⟩⟩
    rw[wN (by omega)]
    simp[tC,fY,fO,ht]
end Go.Proofs.YtccjhmhkfnnmaaaGreat
namespace Go.Proofs.YtccjhmhkfnnmaaaGreat
open Go.AM
variable {Γ:bY}
def pa(peer:Int):aB:=⟨peer,true,[],0,[],0,[]⟩
def Bq(peer:Int):List AV:=[.int .i64 peer,.bool true,.nils,.int .i64 0,.nils,.int .i64 0,.nils]
theorem Ct(H:AH)(peer:Int):aG H (Bq peer) (pa peer).cd []:=.i (.b (.o (.nil _) (.i (.o (.nil _) (.i (.o (.nil _) .nil))))))
theorem PN(peer:Int)(h:AH):T Tryz.prog Γ Fn.SS [.int .i64 peer] h fun v h'=>v=.agg (Bq peer)∧h'=h:=by
  refine Ry (au aC aD [] _ _ _ ?_)
  unfold GY
  simp only[EZ,ag,Nat.reduceAdd,Nat.reduceBEq,Ka,aE,Bq]
  first|exact⟨rfl,rfl⟩|exact rfl|trivial
def dZ(script:Int)(l:List ae):aq:=⟨1,script,l,0,⟨0,0⟩,[],[],0,0,0,0⟩
theorem I0(β:Bool)(script:Int)(l:List ae)(hl:l.length≤1048576)(h:AH):T Tryz.prog Γ Fn.N9 [.int .i64 script,.vs β 2 false (l.map (ae.c β))] h (aV h [.a (dZ script l).cd]):=by
  refine T.iX ?_
  refine Mj (au aC aD [] _ _ _ ?_)
  unfold JN
  have ob:=dI h 2
  obtain⟨v',H',fp',ea,o',nd',hf',hl',hm'⟩:=kZ (bytes:=16) (β:=β) (l:=l) (c:=ae.c β) (cd:=ae.cd) ob (by simp) (by omega) (fun x=>⟨rfl,rfl⟩) (fun x=>by simp[ae.c,ae.cd,CD.gI]) (by simp only[List.length_nil,Nat.zero_add,aQ];omega)
  obtain⟨c1,c2,c3,c4⟩:=o'.cell
  have hx:cn h H':=⟨by simp at hl';omega,fun c hc=>by rw[hf' c (by simp;omega) (by simp;omega)];exact List.getElem?_append_left hc⟩
  simp only[EZ,ag,Nat.reduceAdd,Nat.reduceBEq,Jd,EA,aE,aO,EF,ea,c1,c2,c3]
  obtain⟨N,rfl⟩:=hx.out
  have oo:aG (h++N) [.int .i64 1,.int .i64 script,v',.int .i64 0,.int .i64 0,.int .i64 0,.nils,.nils,.int .i64 0,.int .i64 0,.int .i64 0,.int .i64 0] (dZ script l).cd fp':=by
    rw[List.nil_append]at o'
    have:=hZ (e:=dZ script l) (H:=h++N) o' (.nil 7) (.nil 2)
    simpa[dZ]using this
  refine⟨by simp only[EO,dJ,c1,c2,c3,c4],_,N,fp',rfl,rfl,oo,nd',fun c hc=>?_⟩
  rcases hm' c hc with g|g
  · rw[List.mem_singleton.1 g];exact Nat.le_refl _
  · simp at g;omega
end Go.Proofs.YtccjhmhkfnnmaaaGreat
namespace Go.Proofs.YtccjhmhkfnnmaaaGreat
open Go.AM
variable {Γ:bY}
theorem De(H:AH){b:Nat}{bs:List Int}(hb:bs.length≤1073741824)(hc:rY H b bs)(n:Int):T Tryz.prog Γ Fn.Nx [.gp b 0 0,.int .i64 n] H fun v h'=>∃x:Bool,v=.bool x∧b9 H h' b bs:=by
  refine N5 (au aC aD [] _ _ _ ?_)
  unfold Kx
  simp only[EZ,ag,Nat.reduceAdd,Nat.reduceBEq,C3]
  refine al.ref (by simp only[EO]) (cj _ hb hc _) ?_
  rintro _ H1 ⟨x,rfl,x0,x1,d1⟩
  replace d1:b9 H H1 b bs:=d1
  simp only[EZ,ag,Nat.reduceAdd,Nat.reduceBEq,C3]
  first|exact⟨rfl,_,rfl,d1⟩|exact⟨_,rfl,d1⟩
theorem EJ(n:Int)(h:AH):T Tryz.prog Γ Fn.IY [.int .i64 n] h fun v h'=>(∃m:Int,v=.agg ((ae.mk 0 m).c false))∧h'=h:=by
  refine Hs (au aC aD [] _ _ _ ?_)
  unfold EX
  simp only[EZ,ag,Nat.reduceAdd,Nat.reduceBEq,Af]
  refine al.ref (by simp only[EO]) (Io n 1000000 (by omega) (by omega) _) ?_
  rintro _ H1 ⟨⟨x,rfl,x0,x1⟩,e⟩
  replace e:H1=h:=e
  subst e
  simp only[EZ,ag,Nat.reduceAdd,Nat.reduceBEq,Af]
  first|exact⟨rfl,⟨x,rfl⟩,rfl⟩|exact⟨rfl,x,rfl⟩|exact⟨⟨x,rfl⟩,rfl⟩|exact⟨x,rfl⟩
theorem EE(H:AH){b:Nat}{bs:List Int}(hb:bs.length≤1073741824)(hc:rY H b bs){cells:List AV}{v:ar}{f:List Nat}(o:aG H cells v.cd f)(h0:0<v.entities.length)(h1:v.entities.length≤1048576):
    T Tryz.prog Γ Fn.LB [.gp b 0 0,.agg cells] H fun r h'=>∃x:ae,r=.agg (x.c false)∧(x.kind=0∨(x.kind=1∧cO x.n v.entities.length=true))∧b9 H h' b bs:=by
  obtain⟨wE,w2,wL,w4,fE,f2,fL,f4,rfl,rfl,oE,o2,oL,o4⟩:=qd o
  have LE:=(cP oE).2
  rw[List.length_map]at LE
  obtain⟨a1,a2,a3,a4⟩:=oE.cell
  obtain⟨b1,b2,b3,b4⟩:=o2.cell
  obtain⟨c1,c2,c3,c4⟩:=oL.cell
  obtain⟨d1,d2,d3,d4⟩:=o4.cell
  refine QJ (au aC aD [] _ _ _ ?_)
  unfold HN
  simp only[EZ,ag,Nat.reduceAdd,Nat.reduceBEq,rB,aE,a1,a2,a3,b1,b2,b3,c1,c2,c3,d1,d2,d3]
  refine al.ref (by simp only[EO]) (De _ hb hc _) ?_
  rintro _ H1 ⟨y,rfl,q1⟩
  replace q1:b9 H H1 b bs:=q1
  cases y
  · simp only[EZ,ag,Nat.reduceAdd,Nat.reduceBEq,rB,aE,a1,a2,a3,LE]
    refine al.ref (by simp only[EO]) (cj _ hb q1.cur _) ?_
    rintro _ H2 ⟨x,rfl,x0,x1,q2⟩
    replace q2:b9 H1 H2 b bs:=q2
    simp only[EZ,ag,Nat.reduceAdd,Nat.reduceBEq,rB,aE]
    refine al.val (by simp only[EO]) (vy _ _) ?_
    simp only[EZ,ag,Nat.reduceAdd,Nat.reduceBEq,rB,aE,ae.c]
    have fin:∃z:ae,AV.agg [.int .i64 1,.int .i64 x]=.agg (z.c false)∧(z.kind=0∨(z.kind=1∧cO z.n v.entities.length=true))∧b9 H H2 b bs:=
      ⟨⟨1,x⟩,rfl,.inr ⟨rfl,by have:=x1 (by omega);simp only[cO,Bool.and_eq_true,decide_eq_true_eq];omega⟩,q1.trans q2⟩
    first|exact⟨rfl,fin⟩|exact fin
  · simp only[EZ,ag,Nat.reduceAdd,Nat.reduceBEq,rB,aE]
    refine al.ref (by simp only[EO]) (cj _ hb q1.cur _) ?_
    rintro _ H2 ⟨x,rfl,x0,x1,q2⟩
    replace q2:b9 H1 H2 b bs:=q2
    simp only[EZ,ag,Nat.reduceAdd,Nat.reduceBEq,rB,aE]
    refine al.ref (by simp only[EO]) (EJ _ _) ?_
    rintro _ H3 ⟨⟨m,rfl⟩,e⟩
    replace e:H3=H2:=e
    subst e
    simp only[EZ,ag,Nat.reduceAdd,Nat.reduceBEq,rB,aE,ae.c]
    have fin:∃z:ae,AV.agg [.int .i64 0,.int .i64 m]=.agg (z.c false)∧(z.kind=0∨(z.kind=1∧cO z.n v.entities.length=true))∧b9 H H3 b bs:=⟨⟨0,m⟩,rfl,.inl rfl,q1.trans q2⟩
    first|exact⟨rfl,fin⟩|exact fin
end Go.Proofs.YtccjhmhkfnnmaaaGreat
