import Derived.Test.YtccjhmhkfnnmaaaGreatR6G15
import Derived.Test.YtccjhmhkfnnmaaaGreatAmG10
import Derived.Test.YtccjhmhkfnnmaaaGreatAmG9
set_option linter.unusedVariables false
set_option linter.unusedSimpArgs false
namespace Go.Proofs.YtccjhmhkfnnmaaaGreat
open Go.AM
variable {Γ:cj}
theorem lC{H:AH}{cells:List AV}{v:aA}{f:List Nat}(o:aO H cells v.cd f):∃wE w2 wL w4 fE f2 fL f4,cells=[.int .i64 v.id,wE,w2,wL,w4]∧f=fE++(f2++(fL++f4))∧bN H wE (.sl 12 (v.entities.map aE.cd)) fE∧bN H w2 (.sl 7 (v.loop.map aX.cd)) f2∧bN H wL (.sl 7 (v.aq.map aC.cd)) fL∧bN H w4 (.sl 13 (v.out.map bc.cd)) f4:=by
  simp only[aA.cd,gI,gD,hU,jP,jm]at o
  obtain⟨_,_,_,_,rfl,rfl,⟨rfl,rfl⟩,⟨wE,_,fE,_,rfl,rfl,oE,⟨w2,_,f2,_,rfl,rfl,o2,⟨wL,_,fL,_,rfl,rfl,oL,⟨w4,_,f4,_,rfl,rfl,o4,⟨rfl,rfl⟩⟩⟩⟩⟩⟩:=o
  exact⟨wE,w2,wL,w4,fE,f2,fL,f4,rfl,by simp,oE,o2,oL,o4⟩
theorem Jo{H:AH}{v:aA}{wE w2 wL w4:AV}{fE f2 fL f4:List Nat}(oE:bN H wE (.sl 12 (v.entities.map aE.cd)) fE)(o2:bN H w2 (.sl 7 (v.loop.map aX.cd)) f2)(oL:bN H wL (.sl 7 (v.aq.map aC.cd)) fL)(o4:bN H w4 (.sl 13 (v.out.map bc.cd)) f4):
    aO H [.int .i64 v.id,wE,w2,wL,w4] v.cd (fE++(f2++(fL++f4))):=by
  have e:f4=f4++[]:=by simp
  rw[e]
  exact .i (.o oE (.o o2 (.o oL (.o o4 .nil))))
theorem Sq(β:Bool)(x:aC)(peer:Int)(H:AH){p:AV}(hp:Ptr H p [.int .i64 peer]):T Tryz.prog Γ Fn.OX [.agg (x.c β),p] H fun v h'=>v=.bool (x.peer == peer && x.up)∧h'=H:=by
  have hc:∀(e:List AV) (l:List (List AV)),(St.mk e l H).cells p 1=some [.int .i64 peer]:=fun e l=>hp.rd0 e l 0 (by simp)
  refine KL (aD aJ aK [] _ _ _ ?_)
  unfold FK
  cases hp:x.peer == peer
  · simp only[EZ,ag,Nat.reduceAdd,Nat.reduceBEq,Ca,aC.c,hc,hp]
    first|exact⟨rfl,rfl⟩|exact rfl
  · simp only[EZ,ag,Nat.reduceAdd,Nat.reduceBEq,Ca,aC.c,hc,hp]
    first|exact⟨rfl,rfl⟩|exact rfl
set_option maxHeartbeats 1000000 in
theorem IZ(v:aA)(hv:v.aq.length≤1048576)(peer:Int)(H:AH){b:Nat}{wE w2 wL w4:AV}{f:List Nat}(hb:bJ H b=some (0,[.int .i64 v.id,wE,w2,wL,w4]))(ow:aO H [.int .i64 v.id,wE,w2,wL,w4] v.cd f)(nd:f.Nodup):
    T Tryz.prog Γ Fn.NY [.gp b 0 0,.int .i64 peer] H fun r h'=>(∃N,h'=H++N)∧((ki v.aq peer=true∧∃k:Nat,∃hk:k<v.aq.length,dI (fun x:aC=>x.peer == peer) v.aq=(k:Int)∧eJ 7 wL (k:Int)=some r)∨(ki v.aq peer=false∧r=.nilp)):=by
  have hp0:Ptr H (.gp b 0 0) [.int .i64 v.id,wE,w2,wL,w4]:=Ptr.QT hb
  have hp:Ptr (H++[some (0,[.int .i64 peer])]) (.gp b 0 0) [.int .i64 v.id,wE,w2,wL,w4]:=hp0.grow _
  have ow':=ow.grow (new:=[some (0,[AV.int .i64 peer])])
  obtain⟨_,_,_,_,fE,f2,fL,f4,e,rfl,oE,o2,oL,o4⟩:=lC ow'
  injection e with _ e;injection e with e1 e;injection e with e2 e;injection e with e3 e;injection e with e4 _
  subst e1 e2 e3 e4
  obtain⟨a1,a2,a3,a4⟩:=oE.cell
  obtain⟨b1,b2,b3,b4⟩:=o2.cell
  obtain⟨c1,c2,c3,c4⟩:=oL.cell
  obtain⟨d1,d2,d3,d4⟩:=o4.cell
  refine Jt (aD aJ aK [3] _ _ _ ?_)
  unfold FL
  simp only[EZ,ag,Nat.reduceAdd,Nat.reduceBEq,nz,iK,pQ _ _ (show List.all [AV.int .i64 peer] bo=true from rfl),g9,hp.nil,hp.fld,hp.rd,List.length_cons,List.length_nil,Nat.reduceLeDiff]
  refine ah.dT (by simp only[EO,c4]) (aI (bN.dT (aC.bM true) oL) (aI (Ji (ub (cw H (0,[AV.int .i64 peer])))) bm)) (fun h=>mM (g:=Fn.OX) (caps:=[.ip true [.int .i64 peer]]) rfl rfl (fun x=>x.peer == peer && x.up) true v.aq hv (fun x hx=>Sq true x peer _ (Ptr.ip h true _))) (.bool _) ?_
  simp only[EZ,ag,Nat.reduceAdd,Nat.reduceBEq,nz,iK,hp.nil,hp.fld,hp.rd,hp.rd0,List.length_cons,List.length_nil,Nat.reduceLeDiff,hB]
  refine ah.dT (by simp only[EO,a3,b3,c3,d3]) (aI (aO.dT (aA.bM true _) ow') (aI (.same _) bm)) (fun h=>JL true v hv peer h) (.int _ _) ?_
  cases hu:ki v.aq peer
  · by_cases hi:dI (fun x:aC=>x.peer == peer) v.aq≥0
    · simp only[EZ,ag,Nat.reduceAdd,Nat.reduceBEq,nz,iK,decide_eq_true hi,show(v.aq.any fun x=>x.peer == peer && x.up)=false from hu]
      first|exact⟨rfl,⟨_,rfl⟩,.inr ⟨rfl,rfl⟩⟩|exact⟨rfl,⟨_,rfl⟩,.inr trivial⟩|simp
    · simp only[EZ,ag,Nat.reduceAdd,Nat.reduceBEq,nz,iK,decide_eq_false hi]
      first|exact⟨rfl,⟨_,rfl⟩,.inr ⟨rfl,rfl⟩⟩|exact⟨rfl,⟨_,rfl⟩,.inr trivial⟩|simp
  · obtain⟨k,hk,e1,e2⟩:=jU hu
    have hkm:k<(v.aq.map aC.cd).length:=by simpa using hk
    obtain⟨bL,gL,pre,row,post,fr,i0,_⟩:=oL.kK (List.nodup_append.1 (List.nodup_append.1 (List.nodup_append.1 nd).2.1).2.1).1 hkm
    simp only[EZ,ag,Nat.reduceAdd,Nat.reduceBEq,nz,iK,e1,decide_eq_true (show(k:Int)≥0 by omega),show(v.aq.any fun x=>x.peer == peer && x.up)=true from hu,hp.nil,hp.fld,hp.rd,List.length_cons,List.length_nil,Nat.reduceLeDiff,i0]
    exact⟨rfl,⟨_,rfl⟩,.inl ⟨k,hk,rfl,i0⟩⟩
end Go.Proofs.YtccjhmhkfnnmaaaGreat
namespace Go.Proofs.YtccjhmhkfnnmaaaGreat
open Go.AM
variable {Γ:cj}
theorem Iu(b:Bool):c7 (.bool b)=true:=rfl
def dU(x:Int)(n:Nat):Bool:=decide (0≤x) && decide (x<n)
theorem dF(x:Int){n:Nat}(hn:n≤1048576):qe x 0 (IntKind.i64.wrap ((n:Int)-1))=dU x n:=by
  have hw:IntKind.i64.wrap ((n:Int)-1)=(n:Int)-1:=iv (by omega) (by omega)
  rw[hw,qe,dU]
  congr 1
  rw[decide_eq_decide];omega
def kj(x:ar)(n:Nat):Bool:=if x.kind=0 then qe x.n 0 999999 else if x.kind=1 then dU x.n n else decide (x.kind=2) && decide (x.n=0)
def kI(l:List ar)(n:Nat):Bool:=l.all fun x=>kj x n
theorem Dw(β:Bool)(x:ar)(n:Nat)(hn:n≤1048576)(h:AH):T Tryz.prog Γ Fn.QM [.agg (x.c β),.int .i64 n] h fun v h'=>v=.bool (kj x n)∧h'=h:=by
  refine Qg (aD aJ aK [] _ _ _ ?_)
  unfold J0
  simp only[EZ,ag,Nat.reduceAdd,Nat.reduceBEq,xO,ar.c,aF,ae,an]
  repeat' (first
    | (guard_target =~ ah _ _ Fn.ke _ _ _;refine ah.val (by simp only[EO]) (dH _ _ _ _) ?_;simp only[EZ,ag,Nat.reduceAdd,Nat.reduceBEq,xO,ar.c,aF,ae,an])
    | (refine ny (fun hh=>?_) (fun hh=>?_)<;>simp only[EZ,ag,Nat.reduceAdd,Nat.reduceBEq,xO,hh,ar.c,aF,ae,an])
    | (refine mb (fun hh=>?_) (fun hh=>?_)<;>simp only[EZ,ag,Nat.reduceAdd,Nat.reduceBEq,xO,hh,ar.c,aF,ae,an])
    | (refine bI (fun hh=>?_) (fun hh=>?_)<;>simp only[EZ,ag,Nat.reduceAdd,Nat.reduceBEq,xO,hh,ar.c,aF,ae,an])
    | (first|(simp_all [kj,dU,Iu];done)|(simp_all [kj,dU,Iu];omega)))
theorem all_false{α:Type}{l:List α}{p:α→Bool}{k:Nat}(hk:k<l.length)(h:p l[k]=false):l.all p=false:=by
  cases hh:l.all p
  · rfl
  · have:=List.all_eq_true.1 hh l[k] (List.getElem_mem hk);rw[h]at this;cases this
theorem all_true{α:Type}{l:List α}{p:α→Bool}(h:∀(i:Nat) (hi:i<l.length),i<l.length→p l[i]=true):l.all p=true:=
  List.all_eq_true.2 fun x hx=>by obtain⟨i,hi,rfl⟩:=List.getElem_of_mem hx;exact h i hi hi
theorem MB(β:Bool)(l:List ar)(hl:l.length≤1048576)(n:Nat)(hn:n≤1048576)(h:AH):T Tryz.prog Γ Fn.Vp [.vs β 2 false (l.map (ar.c β)),.int .i64 n] h fun v h'=>v=.bool (kI l n)∧h'=h:=by
  have L0:=dN β 2 false l (ar.c β)
  refine PU (aD aJ aK [] _ _ _ ?_)
  unfold JH
  simp only[EZ,ag,Nat.reduceAdd,Nat.reduceBEq,uB,L0]
  refine dD aJ aK [] (fun k:Nat=>k≤l.length∧∀(i:Nat) (hi:i<l.length),i<k→kj l[i] n=true) (fun k=>l.length-k)
    (fun k=>AK (.vs β 2 false (l.map (ar.c β))) (.int .i64 n) (.int .i64 k) [] h) 0 ⟨by omega,fun i hi h=>by omega⟩ ⟨by simp[AK,eP,eM],rfl,rfl⟩ ?_
  rintro k ⟨hk,ht⟩
  simp only[EZ,ag,Nat.reduceAdd,Nat.reduceBEq,uB,AK,L0]
  refine bI (fun hlt=>?_) (fun hge=>?_)
  rotate_left
  · have hge:k=l.length:=by simp at hge;omega
    subst hge
    simp only[EZ,ag,Nat.reduceAdd,Nat.reduceBEq,uB]
    have:=all_true (p:=fun x=>kj x n) ht
    first|exact⟨rfl,by rw[kI,this]⟩|rw[kI,this]
  have hlt:k<l.length:=by simpa using hlt
  have i0:=dy (β:=β) (sz:=2) (ex:=false) (ce:=ar.c β) hlt
  simp only[EZ,ag,Nat.reduceAdd,Nat.reduceBEq,uB,i0,ar.c]
  refine ah.val (by simp only[EO]) (Dw β l[k] n hn _) ?_
  cases hp:kj l[k] n
  · simp only[EZ,ag,Nat.reduceAdd,Nat.reduceBEq,uB]
    have:=all_false (p:=fun x=>kj x n) hlt hp
    first|exact⟨rfl,by rw[kI,this]⟩|rw[kI,this]
  · simp only[EZ,ag,Nat.reduceAdd,Nat.reduceBEq,uB]
    exact⟨k+1,⟨hlt,fun i hi hik=>by
      rcases Nat.lt_or_ge i k with g|g
      · exact ht i hi g
      · have:i=k:=by omega
        subst this;exact hp⟩,by omega,⟨by rw[wN (by omega)];simp[AK,eP,eM],rfl,rfl⟩⟩
def pY(v:ByteArray):Bool:=qe v.size 1 6 && (List.range v.size).all fun k=>decide (97≤(gH v k:Int)) && decide ((gH v k:Int)≤122)
theorem xq{v:ByteArray}{k:Nat}(hk:k<v.size)(h:(decide (97≤(gH v k:Int)) && decide ((gH v k:Int)≤122))=false):pY v=false:=by
  have:(List.range v.size).all (fun k=>decide (97≤(gH v k:Int)) && decide ((gH v k:Int)≤122))=false:=by
    rw[Bool.eq_false_iff];intro hh
    have:=List.all_eq_true.1 hh k (List.mem_range.2 hk)
    rw[h]at this;cases this
  rw[pY,this,Bool.and_false]
theorem Fc{v:ByteArray}(h:∀k,k<v.size→(decide (97≤(gH v k:Int)) && decide ((gH v k:Int)≤122))=true):pY v=qe v.size 1 6:=by
  have:(List.range v.size).all (fun k=>decide (97≤(gH v k:Int)) && decide ((gH v k:Int)≤122))=true:=List.all_eq_true.2 fun k hk=>h k (List.mem_range.1 hk)
  rw[pY,this,Bool.and_true]
theorem yd(v:ByteArray)(hv:v.size≤1048576)(h:AH):T Tryz.prog Γ Fn.OW [.str v] h fun r h'=>r=.bool (pY v)∧h'=h:=by
  refine RZ (aD aJ aK [] _ _ _ ?_)
  unfold LV
  simp only[EZ,ag,Nat.reduceAdd,Nat.reduceBEq,tc]
  refine dD aJ aK [] (fun k:Nat=>k≤v.size∧∀i,i<k→(decide (97≤(gH v i:Int)) && decide ((gH v i:Int)≤122))=true) (fun k=>v.size-k)
    (fun k=>Al (.str v) (.int .i64 k) ([]:List (List AV)) h) 0 ⟨by omega,fun i h=>by omega⟩ ⟨by simp[Al,eP,eM],rfl,rfl⟩ ?_
  rintro k ⟨hk,ht⟩
  simp only[EZ,ag,Nat.reduceAdd,Nat.reduceBEq,tc,Al,B6]
  refine bI (fun hlt=>?_) (fun hge=>?_)
  rotate_left
  · have hge:k=v.size:=by simp at hge;omega
    subst hge
    simp only[EZ,ag,Nat.reduceAdd,Nat.reduceBEq,tc,B6]
    refine ah.val (by simp only[EO]) (dH _ _ _ _) ?_
    simp only[EZ,ag,Nat.reduceAdd,Nat.reduceBEq,tc]
    have:=Fc ht
    first|exact⟨rfl,by rw[this],rfl⟩|exact⟨rfl,by rw[this]⟩|rw[this]
  have hlt:k<v.size:=by simpa using hlt
  have ix:=fun s:St=>E7 s hlt
  by_cases b1:(gH v k:Int)<97
  · simp only[EZ,ag,Nat.reduceAdd,Nat.reduceBEq,tc,uX,ix,decide_eq_true b1]
    have:=xq hlt (by rw[decide_eq_false (show ¬97≤(gH v k:Int)by omega),Bool.false_and])
    first|exact⟨rfl,by rw[this],rfl⟩|exact⟨rfl,by rw[this]⟩|rw[this]
  by_cases b2:122<(gH v k:Int)
  · simp only[EZ,ag,Nat.reduceAdd,Nat.reduceBEq,tc,uX,ix,decide_eq_false b1,decide_eq_true b2]
    have:=xq hlt (by rw[decide_eq_false (show ¬(gH v k:Int)≤122 by omega),Bool.and_false])
    first|exact⟨rfl,by rw[this],rfl⟩|exact⟨rfl,by rw[this]⟩|rw[this]
  simp only[EZ,ag,Nat.reduceAdd,Nat.reduceBEq,tc,uX,ix,decide_eq_false b1,decide_eq_false b2]
  exact⟨k+1,⟨hlt,fun i hik=>by
    rcases Nat.lt_or_ge i k with g|g
    · exact ht i g
    · have:i=k:=by omega
      subst this
      rw[decide_eq_true (show 97≤(gH v i:Int)by omega),decide_eq_true (show(gH v i:Int)≤122 by omega)];rfl⟩,by omega,⟨by rw[wN (by omega)];simp[Al,eP,eM],rfl,rfl⟩⟩
def tF(e:aE):Bool:=decide (e.kind=2) && (decide (e.state=1) || (decide (e.state=3) || decide (e.state=4)))
theorem IC(e:aE):tF e=(decide (e.kind=2) && (qe e.state 1 4 && !decide (e.state=2))):=by
  have:(decide (e.state=1) || (decide (e.state=3) || decide (e.state=4)))=(qe e.state 1 4 && !decide (e.state=2)):=by
    rw[Bool.eq_iff_iff];simp only[qe,Bool.or_eq_true,Bool.and_eq_true,decide_eq_true_eq,Bool.not_eq_true',decide_eq_false_iff_not];omega
  rw[tF,this]
theorem Gd(β:Bool)(e:aE)(h:AH):T Tryz.prog Γ Fn.OI [.agg (e.c β)] h fun r h'=>r=.bool (tF e)∧h'=h:=by
  refine Tn (aD aJ aK [] _ _ _ ?_)
  unfold Nw
  simp only[EZ,ag,Nat.reduceAdd,Nat.reduceBEq,yJ,aE.c,aF,ae,an]
  repeat' (first
    | (guard_target =~ ah _ _ Fn.ke _ _ _;refine ah.val (by simp only[EO]) (dH _ _ _ _) ?_;simp only[EZ,ag,Nat.reduceAdd,Nat.reduceBEq,yJ,aE.c,aF,ae,an])
    | (refine ny (fun hh=>?_) (fun hh=>?_)<;>simp only[EZ,ag,Nat.reduceAdd,Nat.reduceBEq,yJ,hh,aE.c,aF,ae,an])
    | (refine mb (fun hh=>?_) (fun hh=>?_)<;>simp only[EZ,ag,Nat.reduceAdd,Nat.reduceBEq,yJ,hh,aE.c,aF,ae,an])
    | (refine bI (fun hh=>?_) (fun hh=>?_)<;>simp only[EZ,ag,Nat.reduceAdd,Nat.reduceBEq,yJ,hh,aE.c,aF,ae,an])
    | ((simp_all [IC,Iu];done)))
def c6:ar:=⟨2,0⟩
theorem qD(h:AH):T Tryz.prog Γ Fn.Gv [] h fun v h'=>v=.agg (c6.c false)∧h'=h:=by
  refine R9 (aD aJ aK [] _ _ _ ?_)
  unfold KN
  simp only[EZ,ag,Nat.reduceAdd,Nat.reduceBEq,MJ,aF]
  first|exact⟨rfl,rfl⟩|exact rfl
theorem sZ(n:Int)(h:AH):T Tryz.prog Γ Fn.Eo [.int .i64 n] h fun v h'=>v=.agg ((ar.mk 1 n).c false)∧h'=h:=by
  refine QN (aD aJ aK [] _ _ _ ?_)
  unfold Kr
  simp only[EZ,ag,Nat.reduceAdd,Nat.reduceBEq,Mp,aF]
  first|exact⟨rfl,rfl⟩|exact rfl
def gN:aE:=⟨2,0,[],1,⟨0,0⟩,[],[],0,0,0,0⟩
def pW:List AV:=[.int .i64 2,.int .i64 0,.nils,.int .i64 1,.int .i64 0,.int .i64 0,.nils,.nils,.int .i64 0,.int .i64 0,.int .i64 0,.int .i64 0]
theorem B3(H:AH):aO H pW gN.cd []:=.i (.i (.o (.nil _) (.i (.i (.i (.o (.nil _) (.o (.nil _) (.i (.i (.i (.i .nil)))))))))))
theorem D8(h:AH):T Tryz.prog Γ Fn.Oy [] h fun v h'=>v=.agg pW∧h'=h:=by
  refine Ss (aD aJ aK [] _ _ _ ?_)
  unfold L9
  simp only[EZ,ag,Nat.reduceAdd,Nat.reduceBEq,M9,aF,kb,Aq,A6,At]
  first|exact⟨rfl,rfl⟩|exact rfl
def kl(peer pos:Int):List AV:=[.int .i64 3,.int .i64 0,.nils,.int .i64 0,.int .i64 0,.int .i64 0,.nils,.nils,.int .i64 peer,.int .i64 pos,.int .i64 1,.int .i64 0]
def jV(peer pos:Int):aE:=⟨3,0,[],0,⟨0,0⟩,[],[],peer,pos,1,0⟩
theorem rK(H:AH)(peer pos:Int):aO H (kl peer pos) (jV peer pos).cd []:=.i (.i (.o (.nil _) (.i (.i (.i (.o (.nil _) (.o (.nil _) (.i (.i (.i (.i .nil)))))))))))
theorem Gu(peer pos:Int)(h:AH):T Tryz.prog Γ Fn.Ox [.int .i64 peer,.int .i64 pos] h fun v h'=>v=.agg (kl peer pos)∧h'=h:=by
  refine PS (aD aJ aK [] _ _ _ ?_)
  unfold Nu
  simp only[EZ,ag,Nat.reduceAdd,Nat.reduceBEq,NG,aF,kb,Aq,A6,At]
  first|exact⟨rfl,rfl⟩|exact rfl
end Go.Proofs.YtccjhmhkfnnmaaaGreat
namespace Go.Proofs.YtccjhmhkfnnmaaaGreat
open Go.AM
variable {Γ:cj}
def pZ(es:List aE)(x:ar):Option ar:=
  if x.kind=1 then (match es[x.n.toNat]? with|some e=>if 0≤x.n∧(e.kind=2∧e.state=2)then some e.value else none|none=>none)else none
def tI(es:List aE):Nat→ar→ar
  | 0,_=>c6
  | n+1,x=>match pZ es x with|some y=>tI es n y|none=>x
def eK(v:aA)(x:ar):ar:=tI v.entities (v.entities.length+1) x
theorem Fb{es:List aE}{n:Nat}{x:ar}(h:pZ es x=none):tI es (n+1) x=x:=by simp only[tI,h]
theorem IM{es:List aE}{n:Nat}{x y:ar}(h:pZ es x=some y):tI es (n+1) x=tI es n y:=by simp only[tI,h]
theorem Fh{es:List aE}{x:ar}(h:x.kind≠1):pZ es x=none:=by unfold pZ;rw[if_neg h]
theorem Ii{es:List aE}{x:ar}(h:dU x.n es.length=false):pZ es x=none:=by
  unfold pZ
  split
  · split
    · rename_i e he
      rw[if_neg]
      rintro⟨h0,_⟩
      have:=(List.getElem?_eq_some_iff.1 he).1
      have:dU x.n es.length=true:=by simp only[dU,Bool.and_eq_true,decide_eq_true_eq];omega
      rw[h]at this;cases this
    · rfl
  · rfl
theorem II{es:List aE}{x:ar}(h1:x.kind=1){k:Nat}(hk:k<es.length)(h2:x.n=(k:Int)):pZ es x=if es[k].kind=2∧es[k].state=2 then some es[k].value else none:=by
  unfold pZ
  rw[if_pos h1,h2,Int.toNat_natCast,List.getElem?_eq_getElem hk]
  simp only[show(0:Int)≤(k:Int)by omega,true_and]
theorem AS{x:Int}{n:Nat}(h:dU x n=true):∃k:Nat,x=(k:Int)∧k<n:=by
  simp only[dU,Bool.and_eq_true,decide_eq_true_eq]at h
  exact⟨x.toNat,by omega,by omega⟩
theorem mJ(β:Bool)(v:aA)(hv:v.entities.length≤1048576)(x:ar)(h:AH):T Tryz.prog Γ Fn.vd [.agg (v.c β),.agg (x.c false)] h fun r h'=>r=.agg ((eK v x).c false)∧h'=h:=by
  have L0:=dN β 12 false v.entities (aE.c β)
  refine S3 (aD aJ aK [] _ _ _ ?_)
  unfold JV
  simp only[EZ,ag,Nat.reduceAdd,Nat.reduceBEq,nZ,aF,aA.c,ar.c]
  refine dD aJ aK [] (fun y:Nat×ar×List (List AV)=>y.1≤v.entities.length+1∧eK v x=tI v.entities (v.entities.length+1-y.1) y.2.1∧y.2.2[([]:List (List AV)).length]? = some (v.c β)∧y.2.2[([]:List (List AV)).length+1]? = some [.int .i64 y.2.1.kind,.int .i64 y.2.1.n]∧∃zz,y.2.2[([]:List (List AV)).length+2]? = some zz∧zz.length=2) (fun y=>v.entities.length+1-y.1)
    (fun y=>A9 (.lp ([]:List (List AV)).length 0) (.lp (([]:List (List AV)).length+1) 0) (.lp (([]:List (List AV)).length+2) 0) (.int .i64 y.1) y.2.2 h) (0,x,_) ⟨by simp,rfl,rfl,rfl,⟨_,rfl,rfl⟩⟩ ⟨by simp[A9,eP,eM],rfl,rfl⟩ ?_
  rintro⟨k,y,M⟩ ⟨hk,hl,hM0,hM1,zz,hM2,hzz⟩
  simp only at hk hl hM0 hM1 hM2
  have r0:∀(e:List AV) (h:AH) (off n:Nat),(St.mk e M h).cells (.lp ([]:List (List AV)).length off) n=sub (v.c β) off n:=fun e h off n=>cC hM0
  have r1:∀(e:List AV) (h:AH) (off n:Nat),(St.mk e M h).cells (.lp (([]:List (List AV)).length+1) off) n=sub [.int .i64 y.kind,.int .i64 y.n] off n:=fun e h off n=>cC hM1
  have s2:∀(e:List AV) (h:AH) (a b:AV),bK a=true→bK b=true→(St.mk e M h).store (.lp (([]:List (List AV)).length+2) 0) [a,b]=some ⟨e,M.set (([]:List (List AV)).length+2) [a,b],h⟩:=fun e h a b ha hb=>lN hM2 (by rw[hzz];rfl) (by simp only[List.all_cons,List.all_nil,ha,hb,Bool.and_true])
  have r2:∀(w:List AV) (e:List AV) (h:AH) (off n:Nat),(St.mk e (M.set (([]:List (List AV)).length+2) w) h).cells (.lp (([]:List (List AV)).length+2) off) n=sub w off n:=fun w e h off n=>cC (jc hM2)
  have sy:∀(e:List AV) (h:AH),(St.mk e M h).store (.lp (([]:List (List AV)).length+2) 0) [.int .i64 y.kind,.int .i64 y.n]=some ⟨e,M.set (([]:List (List AV)).length+2) [.int .i64 y.kind,.int .i64 y.n],h⟩:=fun e h=>s2 e h _ _ rfl rfl
  simp only[EZ,ag,Nat.reduceAdd,Nat.reduceBEq,nZ,A9,r0,aA.c,L0]
  refine bI (fun hlt=>?_) (fun hge=>?_)
  rotate_left
  · have hge:k=v.entities.length+1:=by simp at hge;omega
    subst hge
    simp only[EZ,ag,Nat.reduceAdd,Nat.reduceBEq,nZ]
    refine ah.val (by simp only[EO]) (qD _) ?_
    simp only[EZ,ag,Nat.reduceAdd,Nat.reduceBEq,nZ,s2 _ _ _ _ (show bK (AV.int .i64 2)=true from rfl) (show bK (AV.int .i64 0)=true from rfl),c6,ar.c,r2]
    rw[hl,Nat.sub_self]
    first|exact⟨rfl,rfl⟩|rfl
  have hlt:k<v.entities.length+1:=by simp at hlt;omega
  obtain⟨m,hm⟩:∃m,v.entities.length+1-k=m+1:=⟨v.entities.length-k,by omega⟩
  rw[hm]at hl
  have stop:pZ v.entities y=none→eK v x=y:=fun hn=>by rw[hl,Fb hn]
  by_cases b1:y.kind=1
  rotate_left
  · simp only[EZ,ag,Nat.reduceAdd,Nat.reduceBEq,nZ,r0,r1,aA.c,L0,ae,an,decide_eq_false b1,sy,r2]
    have:=stop (Fh b1)
    first|exact⟨rfl,by rw[this]⟩|(rw[this];done)|exact⟨rfl,by rw[this];rfl⟩
  simp only[EZ,ag,Nat.reduceAdd,Nat.reduceBEq,nZ,r0,r1,aA.c,L0,ae,an,decide_eq_true b1]
  refine ah.val (by simp only[EO]) (dH _ _ _ _) ?_
  rw[dF _ hv]
  cases e1:dU y.n v.entities.length
  · simp only[EZ,ag,Nat.reduceAdd,Nat.reduceBEq,nZ,r0,r1,sy,r2]
    have:=stop (Ii e1)
    first|exact⟨rfl,by rw[this]⟩|(rw[this];done)|exact⟨rfl,by rw[this];rfl⟩
  obtain⟨j,ej,hj⟩:=AS e1
  have i0:=dy (β:=β) (sz:=12) (ex:=false) (ce:=aE.c β) hj
  have nx:=II (es:=v.entities) b1 hj ej
  obtain⟨e,he⟩:∃e,e=v.entities[j]:=⟨_,rfl⟩
  rw[←he]at i0 nx
  have r0':∀(z:List AV) (e:List AV) (h:AH) (off n:Nat),(St.mk e (M++[z]) h).cells (.lp ([]:List (List AV)).length off) n=sub (v.c β) off n:=fun z e h off n=>cC (fo hM0 _)
  have r1':∀(z:List AV) (e:List AV) (h:AH) (off n:Nat),(St.mk e (M++[z]) h).cells (.lp (([]:List (List AV)).length+1) off) n=sub [.int .i64 y.kind,.int .i64 y.n] off n:=fun z e h off n=>cC (fo hM1 _)
  have sy':∀(z:List AV) (e:List AV) (h:AH) (a b:Int),(St.mk e (M++[z]) h).store (.lp (([]:List (List AV)).length+2) 0) [.int .i64 a,.int .i64 b]=some ⟨e,(M++[z]).set (([]:List (List AV)).length+2) [.int .i64 a,.int .i64 b],h⟩:=fun z e h a b=>lN (fo hM2 _) (by rw[hzz];rfl) rfl
  have r2':∀(z w:List AV) (e:List AV) (h:AH) (off n:Nat),(St.mk e ((M++[z]).set (([]:List (List AV)).length+2) w) h).cells (.lp (([]:List (List AV)).length+2) off) n=sub w off n:=fun z w e h off n=>cC (jc (fo hM2 _))
  have rl:∀(z:List AV) (e:List AV) (h:AH) (off n:Nat),(St.mk e (M++[z]) h).cells (.lp M.length off) n=sub z off n:=fun z e h off n=>cC (qN _ _)
  have s1':∀(z:List AV) (e:List AV) (h:AH) (a b:Int),(St.mk e (M++[z]) h).store (.lp (([]:List (List AV)).length+1) 0) [.int .i64 a,.int .i64 b]=some ⟨e,(M++[z]).set (([]:List (List AV)).length+1) [.int .i64 a,.int .i64 b],h⟩:=fun z e h a b=>lN (fo hM1 _) rfl rfl
  by_cases b2:e.kind=2
  rotate_left
  · simp only[EZ,ag,Nat.reduceAdd,Nat.reduceBEq,nZ,aF,r0,r1,aA.c,L0,ej,i0,aE.c,rl,ae,an,decide_eq_false b2,r1',sy',r2']
    have:=stop (by rw[nx,if_neg (fun h=>b2 h.1)])
    first|exact⟨rfl,by rw[this,ej]⟩|(rw[this,ej];done)
  by_cases b3:e.state=2
  rotate_left
  · simp only[EZ,ag,Nat.reduceAdd,Nat.reduceBEq,nZ,aF,r0,r1,aA.c,L0,ej,i0,aE.c,rl,ae,an,decide_eq_true b2,decide_eq_false b3,r1',sy',r2']
    have:=stop (by rw[nx,if_neg (fun h=>b3 h.2)])
    first|exact⟨rfl,by rw[this,ej]⟩|(rw[this,ej];done)
  simp only[EZ,ag,Nat.reduceAdd,Nat.reduceBEq,nZ,aF,r0,r1,aA.c,L0,ej,i0,aE.c,rl,ae,an,decide_eq_true b2,decide_eq_true b3,s1']
  exact⟨(k+1,e.value,_),⟨hlt,by simp only;rw[hl,IM (by rw[nx,if_pos ⟨b2,b3⟩]),show v.entities.length+1-(k+1)=m by omega],jh (fo hM0 _) (by simp),jc (fo hM1 _),⟨zz,jh (fo hM2 _) (by simp),hzz⟩⟩,by simp only;omega,⟨by rw[wN (by omega)];simp[A9,eP,eM],rfl,rfl⟩⟩
end Go.Proofs.YtccjhmhkfnnmaaaGreat
namespace Go.Proofs.YtccjhmhkfnnmaaaGreat
open Go.AM
variable {Γ:cj}
set_option maxHeartbeats 4000000 in
set_option maxRecDepth 100000 in
theorem PR(β:Bool)(v:aA)(hv:v.ok 1048576)(h:AH):T Tryz.prog Γ Fn.VR [.agg (v.c β)] h (aS h [.a v.cd]):=by
  have L0:=dN β 12 false v.entities (aE.c β)
  have L1:=dN β 7 false v.aq (aC.c β)
  have L2:=dN β 13 false v.out (bc.c β)
  obtain⟨hv1,hv2,hv3,hv4,hv5,hv6,hv7,hv8⟩:=hv
  refine T.jr ?_
  refine PA (aD aJ aK [] _ _ _ ?_)
  unfold L4
  simp only[EZ,ag,Nat.reduceAdd,Nat.reduceBEq,j5,fB,fD,fG,fP,aF,ER,aA.c]
  refine⟨?_,?_⟩
  refine ah.ref (by simp only[EO]) (GM β v.loop hv3 hv4 _) ?_
  rintro w1 H1 fr
  replace fr:aS h _ _ _:=fr
  obtain⟨f1,o1,n1,b1,e1⟩:=fr.c1
  obtain⟨a1,a2,a3,a4⟩:=o1.cell
  simp only[EZ,ag,Nat.reduceAdd,Nat.reduceBEq,j5,fB,fD,fG,fP,aF,ER,aA.c,a1,a2,a3,L0]
  refine⟨(by first|exact e1.mem _ _ _|exact cW (e1.mem _ _ _)),(by first|exact Mem.loc ⟨_,([]:List (List AV))++[_,_],H1⟩ _ [_]|exact cW (Mem.loc ⟨_,([]:List (List AV))++[_,_],H1⟩ _ [_])),?_⟩
  rotate_left
  refine⟨(by first|exact Mem.loc ⟨_,([]:List (List AV))++[_,_],h⟩ _ [_]|exact cW (Mem.loc ⟨_,([]:List (List AV))++[_,_],h⟩ _ [_])),?_⟩
  refine ah.ref (by simp only[EO]) (GM β v.loop hv3 hv4 _) ?_
  rintro w1 H1 fr
  replace fr:aS h _ _ _:=fr
  obtain⟨f1,o1,n1,b1,e1⟩:=fr.c1
  obtain⟨a1,a2,a3,a4⟩:=o1.cell
  simp only[EZ,ag,Nat.reduceAdd,Nat.reduceBEq,j5,fB,fD,fG,fP,aF,ER,aA.c,a1,a2,a3,L0]
  refine⟨(by first|exact e1.mem _ _ _|exact cW (e1.mem _ _ _)),?_⟩
  rotate_left
  all_goals (
    refine dD aJ aK [] (fun y:Nat×AV×AH×List Nat×List (List AV)=>y.1≤v.entities.length∧bN y.2.2.1 y.2.1 (.sl 12 ((v.entities.take y.1).map aE.cd)) y.2.2.2.1∧y.2.2.2.1.Nodup∧(∀c∈y.2.2.2.1,H1.length≤c)∧bQ H1 y.2.2.1∧y.2.2.2.2[([]:List (List AV)).length]? = some (v.c β)∧(∃zzE,y.2.2.2.2[([]:List (List AV)).length+1]? = some zzE∧zzE.length=5)∧y.2.2.2.2[([]:List (List AV)).length+2]? = some [AV.int .i64 v.id,y.2.1,w1,.nils,.nils]) (fun y=>v.entities.length-y.1)
      (fun y=>A1 (.lp ([]:List (List AV)).length 0) (.lp (([]:List (List AV)).length+1) 0) (.lp (([]:List (List AV)).length+2) 0) (.vs β 12 false (v.entities.map (aE.c β))) (.int .i64 v.entities.length) (.int .i64 y.1) y.2.2.2.2 y.2.2.1) (0,.nils,H1,[],_) ⟨by simp,.nil _,by simp,by simp,bQ.refl _,rfl,⟨_,rfl,rfl⟩,rfl⟩ ⟨by simp[A1,eP,eM],rfl,rfl⟩ ?_
    rintro⟨k,wE,HE,fpE,ME⟩ ⟨hk,hoE,ndE,hfpE,hxE,hM0E,⟨zzE,hM1E,hzzE⟩,hM2E⟩
    simp only at hk hoE ndE hfpE hxE hM0E hM1E hM2E
    have hMlE:([]:List (List AV)).length+2<ME.length:=aG hM2E
    obtain⟨k1E,k2E,k3E,k4E⟩:=hoE.cell
    simp only[EZ,ag,Nat.reduceAdd,Nat.reduceBEq,j5,fB,fD,fG,fP,A1]
    refine bI (fun hlt=>?_) (fun hge=>?_)
    · have hlt:k<v.entities.length:=by simpa using hlt
      have i0:=dy (β:=β) (sz:=12) (ex:=false) (ce:=aE.c β) hlt
      have he:=hv2 _ (List.getElem_mem hlt)
      generalize hxe:v.entities[k]=x at *
      have r2:∀(z:List AV) (e:List AV) (h:AH) (off n:Nat),(St.mk e (ME++[z]) h).cells (.lp (([]:List (List AV)).length+2) off) n=sub [AV.int .i64 v.id,wE,w1,.nils,.nils] off n:=fun z e h off n=>cC (fo hM2E _)
      have rl:∀(z:List AV) (e:List AV) (h:AH) (off n:Nat),(St.mk e (ME++[z]) h).cells (.lp ME.length off) n=sub z off n:=fun z e h off n=>cC (qN _ _)
      have s2:∀(z:List AV) (e:List AV) (h:AH) (a:AV),bK a=true→(St.mk e (ME++[z]) h).store (.lp (([]:List (List AV)).length+2) 1) [a]=some ⟨e,(ME++[z]).set (([]:List (List AV)).length+2) (cB [AV.int .i64 v.id,wE,w1,.nils,.nils] 1 [a]),h⟩:=fun z e h a ha=>lI (fo hM2E _) (by simp) ha
      simp only[EZ,ag,Nat.reduceAdd,Nat.reduceBEq,j5,fB,fD,fG,fP,i0,aE.c,aF,r2,rl,k1E,k2E,k3E]
      refine ah.ref (by simp only[EO]) (Uw β x he _) ?_
      rintro _ Hc fr
      replace fr:aS HE _ _ _:=fr
      obtain⟨aw,fw,rfl,ow,nw,bw,ew⟩:=fr.a1
      have hdis:(fpE++fw).Nodup:=eI ndE nw (fun c hc=>hoE.lt c hc) bw
      replace hoE:=hoE.ext ew
      have hx1:=hxE.trans ew
      have oo:=ow
      simp only[aE.cd,gI,gD,hU,jP,jm]at oo
      obtain⟨_,_,_,_,rfl,_,⟨rfl,rfl⟩,⟨_,_,_,_,rfl,_,⟨rfl,rfl⟩,⟨az2,_,_,_,rfl,_,uz2,⟨_,_,_,_,rfl,_,⟨rfl,rfl⟩,⟨_,_,_,_,rfl,_,⟨rfl,rfl⟩,⟨_,_,_,_,rfl,_,⟨rfl,rfl⟩,⟨az6,_,_,_,rfl,_,uz6,⟨az7,_,_,_,rfl,_,uz7,⟨_,_,_,_,rfl,_,⟨rfl,rfl⟩,⟨_,_,_,_,rfl,_,⟨rfl,rfl⟩,⟨_,_,_,_,rfl,_,⟨rfl,rfl⟩,⟨_,_,_,_,rfl,_,⟨rfl,rfl⟩,⟨rfl,_⟩⟩⟩⟩⟩⟩⟩⟩⟩⟩⟩⟩⟩:=oo
      obtain⟨cz2a,cz2b,cz2c,cz2d⟩:=uz2.cell
      obtain⟨cz6a,cz6b,cz6c,cz6d⟩:=uz6.cell
      obtain⟨cz7a,cz7b,cz7c,cz7d⟩:=uz7.cell
      obtain⟨v',H',fp',ea,o',nd',hf',hl',hm'⟩:=dw (bytes:=144) hoE hdis (by omega) rfl ow (by simp only[List.length_map,List.length_take,aU];omega)
      obtain⟨j1,j2,j3,j4⟩:=o'.cell
      simp only[EZ,ag,Nat.reduceAdd,Nat.reduceBEq,j5,fB,fD,fG,fP,EA,aF,ER,cz2a,cz2b,cz2c,cz6a,cz6b,cz6c,cz7a,cz7b,cz7c,r2,rl,k1E,k2E,k3E,ea,j1,j2,j3,s2 _ _ _ _ j2]
      have hl9:=hxE.len
      have hl8:=hx1.len
      have hb':∀c∈fp',H1.length≤c:=fun c hc=>by
        rcases hm' c hc with g|g|g
        · exact hfpE c g
        · have:=bw c g;omega
        · omega
      refine⟨(by first|exact ew.mem _ _ _|exact cW (ew.mem _ _ _)),?_⟩
      exact⟨(k+1,v',H',fp',_),⟨hlt,by simp only;rw[List.take_succ_eq_append_getElem hlt,List.map_append,hxe];exact o',nd',hb',hx1.vF hl' hf' hfpE,jh (fo hM0E _) (by simp),⟨zzE,jh (fo hM1E _) (by simp),hzzE⟩,jc (fo hM2E _)⟩,by simp only;omega,⟨by rw[wN (by omega)];simp[A1,eP,eM],rfl,rfl⟩⟩
    have hge:k=v.entities.length:=by simp at hge;omega
    subst hge
    rw[List.take_length]at hoE
    simp only[EZ,ag,Nat.reduceAdd,Nat.reduceBEq,j5,fB,fD,fG,fP,show ∀(e:List AV) (h:AH) (off n:Nat),(St.mk e ME h).cells (.lp ([]:List (List AV)).length off) n=sub (v.c β) off n from fun e h off n=>cC hM0E,show ∀(e:List AV) (h:AH) (off n:Nat),(St.mk e ME h).cells (.lp (([]:List (List AV)).length+2) off) n=sub [AV.int .i64 v.id,wE,w1,.nils,.nils] off n from fun e h off n=>cC hM2E,aA.c,L0,L1,L2,ER,aF]
    refine dD aJ aK [] (fun y:Nat×AV×AH×List Nat×List (List AV)=>y.1≤v.aq.length∧bN y.2.2.1 y.2.1 (.sl 7 ((v.aq.take y.1).map aC.cd)) y.2.2.2.1∧y.2.2.2.1.Nodup∧(∀c∈y.2.2.2.1,HE.length≤c)∧bQ HE y.2.2.1∧y.2.2.2.2[([]:List (List AV)).length]? = some (v.c β)∧(∃zzL,y.2.2.2.2[([]:List (List AV)).length+1]? = some zzL∧zzL.length=5)∧y.2.2.2.2[([]:List (List AV)).length+2]? = some [AV.int .i64 v.id,wE,w1,y.2.1,.nils]) (fun y=>v.aq.length-y.1)
      (fun y=>AP (.lp ([]:List (List AV)).length 0) (.lp (([]:List (List AV)).length+1) 0) (.lp (([]:List (List AV)).length+2) 0) (.vs β 7 false (v.aq.map (aC.c β))) (.int .i64 v.aq.length) (.int .i64 y.1) y.2.2.2.2 y.2.2.1) (0,.nils,HE,[],_) ⟨by simp,.nil _,by simp,by simp,bQ.refl _,hM0E,⟨zzE,hM1E,hzzE⟩,hM2E⟩ ⟨by simp[AP,eP,eM],rfl,rfl⟩ ?_
    rintro⟨k,wL,HL,fpL,ML⟩ ⟨hk,hoL,ndL,hfpL,hxL,hM0L,⟨zzL,hM1L,hzzL⟩,hM2L⟩
    simp only at hk hoL ndL hfpL hxL hM0L hM1L hM2L
    have hMlL:([]:List (List AV)).length+2<ML.length:=aG hM2L
    obtain⟨k1L,k2L,k3L,k4L⟩:=hoL.cell
    simp only[EZ,ag,Nat.reduceAdd,Nat.reduceBEq,j5,fB,fD,fG,fP,AP]
    refine bI (fun hlt=>?_) (fun hge=>?_)
    · have hlt:k<v.aq.length:=by simpa using hlt
      have i0:=dy (β:=β) (sz:=7) (ex:=false) (ce:=aC.c β) hlt
      have he:=hv6 _ (List.getElem_mem hlt)
      generalize hxe:v.aq[k]=x at *
      have r2:∀(z:List AV) (e:List AV) (h:AH) (off n:Nat),(St.mk e (ML++[z]) h).cells (.lp (([]:List (List AV)).length+2) off) n=sub [AV.int .i64 v.id,wE,w1,wL,.nils] off n:=fun z e h off n=>cC (fo hM2L _)
      have rl:∀(z:List AV) (e:List AV) (h:AH) (off n:Nat),(St.mk e (ML++[z]) h).cells (.lp ML.length off) n=sub z off n:=fun z e h off n=>cC (qN _ _)
      have s2:∀(z:List AV) (e:List AV) (h:AH) (a:AV),bK a=true→(St.mk e (ML++[z]) h).store (.lp (([]:List (List AV)).length+2) 3) [a]=some ⟨e,(ML++[z]).set (([]:List (List AV)).length+2) (cB [AV.int .i64 v.id,wE,w1,wL,.nils] 3 [a]),h⟩:=fun z e h a ha=>lI (fo hM2L _) (by simp) ha
      simp only[EZ,ag,Nat.reduceAdd,Nat.reduceBEq,j5,fB,fD,fG,fP,i0,aC.c,aF,r2,rl,k1L,k2L,k3L]
      refine ah.ref (by simp only[EO]) (SA β x he _) ?_
      rintro _ Hc fr
      replace fr:aS HL _ _ _:=fr
      obtain⟨aw,fw,rfl,ow,nw,bw,ew⟩:=fr.a1
      have hdis:(fpL++fw).Nodup:=eI ndL nw (fun c hc=>hoL.lt c hc) bw
      replace hoL:=hoL.ext ew
      have hx1:=hxL.trans ew
      have oo:=ow
      simp only[aC.cd,gI,gD,hU,jP,jm]at oo
      obtain⟨_,_,_,_,rfl,_,⟨rfl,rfl⟩,⟨_,_,_,_,rfl,_,⟨rfl,rfl⟩,⟨az2,_,_,_,rfl,_,uz2,⟨_,_,_,_,rfl,_,⟨rfl,rfl⟩,⟨az4,_,_,_,rfl,_,uz4,⟨_,_,_,_,rfl,_,⟨rfl,rfl⟩,⟨az6,_,_,_,rfl,_,uz6,⟨rfl,_⟩⟩⟩⟩⟩⟩⟩⟩:=oo
      obtain⟨cz2a,cz2b,cz2c,cz2d⟩:=uz2.cell
      obtain⟨cz4a,cz4b,cz4c,cz4d⟩:=uz4.cell
      obtain⟨cz6a,cz6b,cz6c,cz6d⟩:=uz6.cell
      obtain⟨v',H',fp',ea,o',nd',hf',hl',hm'⟩:=dw (bytes:=104) hoL hdis (by omega) rfl ow (by simp only[List.length_map,List.length_take,aU];omega)
      obtain⟨j1,j2,j3,j4⟩:=o'.cell
      simp only[EZ,ag,Nat.reduceAdd,Nat.reduceBEq,j5,fB,fD,fG,fP,EA,aF,ER,cz2a,cz2b,cz2c,cz4a,cz4b,cz4c,cz6a,cz6b,cz6c,r2,rl,k1L,k2L,k3L,ea,j1,j2,j3,s2 _ _ _ _ j2]
      have hl9:=hxL.len
      have hl8:=hx1.len
      have hb':∀c∈fp',HE.length≤c:=fun c hc=>by
        rcases hm' c hc with g|g|g
        · exact hfpL c g
        · have:=bw c g;omega
        · omega
      refine⟨(by first|exact ew.mem _ _ _|exact cW (ew.mem _ _ _)),?_⟩
      exact⟨(k+1,v',H',fp',_),⟨hlt,by simp only;rw[List.take_succ_eq_append_getElem hlt,List.map_append,hxe];exact o',nd',hb',hx1.vF hl' hf' hfpL,jh (fo hM0L _) (by simp),⟨zzL,jh (fo hM1L _) (by simp),hzzL⟩,jc (fo hM2L _)⟩,by simp only;omega,⟨by rw[wN (by omega)];simp[AP,eP,eM],rfl,rfl⟩⟩
    have hge:k=v.aq.length:=by simp at hge;omega
    subst hge
    rw[List.take_length]at hoL
    simp only[EZ,ag,Nat.reduceAdd,Nat.reduceBEq,j5,fB,fD,fG,fP,show ∀(e:List AV) (h:AH) (off n:Nat),(St.mk e ML h).cells (.lp ([]:List (List AV)).length off) n=sub (v.c β) off n from fun e h off n=>cC hM0L,show ∀(e:List AV) (h:AH) (off n:Nat),(St.mk e ML h).cells (.lp (([]:List (List AV)).length+2) off) n=sub [AV.int .i64 v.id,wE,w1,wL,.nils] off n from fun e h off n=>cC hM2L,aA.c,L0,L1,L2,ER,aF]
    refine dD aJ aK [] (fun y:Nat×AV×AH×List Nat×List (List AV)=>y.1≤v.out.length∧bN y.2.2.1 y.2.1 (.sl 13 ((v.out.take y.1).map bc.cd)) y.2.2.2.1∧y.2.2.2.1.Nodup∧(∀c∈y.2.2.2.1,HL.length≤c)∧bQ HL y.2.2.1∧y.2.2.2.2[([]:List (List AV)).length]? = some (v.c β)∧(∃zzO,y.2.2.2.2[([]:List (List AV)).length+1]? = some zzO∧zzO.length=5)∧y.2.2.2.2[([]:List (List AV)).length+2]? = some [AV.int .i64 v.id,wE,w1,wL,y.2.1]) (fun y=>v.out.length-y.1)
      (fun y=>AX (.lp (([]:List (List AV)).length+1) 0) (.lp (([]:List (List AV)).length+2) 0) (.vs β 13 false (v.out.map (bc.c β))) (.int .i64 v.out.length) (.int .i64 y.1) y.2.2.2.2 y.2.2.1) (0,.nils,HL,[],_) ⟨by simp,.nil _,by simp,by simp,bQ.refl _,hM0L,⟨zzL,hM1L,hzzL⟩,hM2L⟩ ⟨by simp[AX,eP,eM],rfl,rfl⟩ ?_
    rintro⟨k,wO,HO,fpO,MO⟩ ⟨hk,hoO,ndO,hfpO,hxO,hM0O,⟨zzO,hM1O,hzzO⟩,hM2O⟩
    simp only at hk hoO ndO hfpO hxO hM0O hM1O hM2O
    have hMlO:([]:List (List AV)).length+2<MO.length:=aG hM2O
    obtain⟨k1O,k2O,k3O,k4O⟩:=hoO.cell
    simp only[EZ,ag,Nat.reduceAdd,Nat.reduceBEq,j5,fB,fD,fG,fP,AX]
    refine bI (fun hlt=>?_) (fun hge=>?_)
    · have hlt:k<v.out.length:=by simpa using hlt
      have i0:=dy (β:=β) (sz:=13) (ex:=false) (ce:=bc.c β) hlt
      have he:=hv8 _ (List.getElem_mem hlt)
      generalize hxe:v.out[k]=x at *
      have r2:∀(z:List AV) (e:List AV) (h:AH) (off n:Nat),(St.mk e (MO++[z]) h).cells (.lp (([]:List (List AV)).length+2) off) n=sub [AV.int .i64 v.id,wE,w1,wL,wO] off n:=fun z e h off n=>cC (fo hM2O _)
      have rl:∀(z:List AV) (e:List AV) (h:AH) (off n:Nat),(St.mk e (MO++[z]) h).cells (.lp MO.length off) n=sub z off n:=fun z e h off n=>cC (qN _ _)
      have s2:∀(z:List AV) (e:List AV) (h:AH) (a:AV),bK a=true→(St.mk e (MO++[z]) h).store (.lp (([]:List (List AV)).length+2) 4) [a]=some ⟨e,(MO++[z]).set (([]:List (List AV)).length+2) (cB [AV.int .i64 v.id,wE,w1,wL,wO] 4 [a]),h⟩:=fun z e h a ha=>lI (fo hM2O _) (by simp) ha
      simp only[EZ,ag,Nat.reduceAdd,Nat.reduceBEq,j5,fB,fD,fG,fP,i0,bc.c,aF,r2,rl,k1O,k2O,k3O]
      refine ah.ref (by simp only[EO]) (R8 β x.message he _) ?_
      rintro _ Hc fr
      replace fr:aS HO _ _ _:=fr
      obtain⟨aw,fw,rfl,ow,nw,bw,ew⟩:=fr.a1
      have hdis:(fpO++fw).Nodup:=eI ndO nw (fun c hc=>hoO.lt c hc) bw
      replace hoO:=hoO.ext ew
      have hx1:=hxO.trans ew
      have oo:=ow
      simp only[aB.cd,gI,gD,hU,jP,jm]at oo
      obtain⟨_,_,_,_,rfl,_,⟨rfl,rfl⟩,⟨_,_,_,_,rfl,_,⟨rfl,rfl⟩,⟨_,_,_,_,rfl,_,⟨rfl,rfl⟩,⟨_,_,_,_,rfl,_,⟨rfl,rfl⟩,⟨_,_,_,_,rfl,_,⟨rfl,rfl⟩,⟨az5,_,_,_,rfl,_,uz5,⟨_,_,_,_,rfl,_,⟨rfl,rfl⟩,⟨_,_,_,_,rfl,_,⟨rfl,rfl⟩,⟨_,_,_,_,rfl,_,⟨rfl,rfl⟩,⟨_,_,_,_,rfl,_,⟨rfl,rfl⟩,⟨_,_,_,_,rfl,_,⟨rfl,rfl⟩,⟨_,_,_,_,rfl,_,⟨rfl,rfl⟩,⟨rfl,_⟩⟩⟩⟩⟩⟩⟩⟩⟩⟩⟩⟩⟩:=oo
      obtain⟨cz5a,cz5b,cz5c,cz5d⟩:=uz5.cell
      obtain⟨v',H',fp',ea,o',nd',hf',hl',hm'⟩:=dw (bytes:=128) hoO hdis (by omega) rfl (aO.i (k:=.i64) (n:=x.to_) ow) (by simp only[List.length_map,List.length_take,aU];omega)
      obtain⟨j1,j2,j3,j4⟩:=o'.cell
      simp only[EZ,ag,Nat.reduceAdd,Nat.reduceBEq,j5,fB,fD,fG,fP,EA,aF,ER,cz5a,cz5b,cz5c,r2,rl,k1O,k2O,k3O,ea,j1,j2,j3,s2 _ _ _ _ j2]
      have hl9:=hxO.len
      have hl8:=hx1.len
      have hb':∀c∈fp',HL.length≤c:=fun c hc=>by
        rcases hm' c hc with g|g|g
        · exact hfpO c g
        · have:=bw c g;omega
        · omega
      refine⟨(by first|exact ew.mem _ _ _|exact cW (ew.mem _ _ _)),?_⟩
      exact⟨(k+1,v',H',fp',_),⟨hlt,by simp only;rw[List.take_succ_eq_append_getElem hlt,List.map_append,hxe];exact o',nd',hb',hx1.vF hl' hf' hfpO,jh (fo hM0O _) (by simp),⟨zzO,jh (fo hM1O _) (by simp),hzzO⟩,jc (fo hM2O _)⟩,by simp only;omega,⟨by rw[wN (by omega)];simp[AX,eP,eM],rfl,rfl⟩⟩
    have hge:k=v.out.length:=by simp at hge;omega
    subst hge
    rw[List.take_length]at hoO
    simp only[EZ,ag,Nat.reduceAdd,Nat.reduceBEq,j5,fB,fD,fG,fP,show ∀(e:List AV) (h:AH) (off n:Nat),(St.mk e MO h).cells (.lp (([]:List (List AV)).length+2) off) n=sub [AV.int .i64 v.id,wE,w1,wL,wO] off n from fun e h off n=>cC hM2O,show ∀(e:List AV) (h:AH),(St.mk e MO h).store (.lp (([]:List (List AV)).length+1) 0) [AV.int .i64 v.id,wE,w1,wL,wO]=some ⟨e,MO.set (([]:List (List AV)).length+1) [AV.int .i64 v.id,wE,w1,wL,wO],h⟩ from fun e h=>lN hM1O (by rw[hzzO];rfl) (by simp[I6,k2E,a2,k2L,k2O]),show ∀(e:List AV) (h:AH) (off n:Nat),(St.mk e (MO.set (([]:List (List AV)).length+1) [AV.int .i64 v.id,wE,w1,wL,wO]) h).cells (.lp (([]:List (List AV)).length+1) off) n=sub [AV.int .i64 v.id,wE,w1,wL,wO] off n from fun e h off n=>cC (jc hM1O),ER,aF]
    have z1:=((o1.ext hxE).ext hxL).ext hxO
    have zE:=(hoE.ext hxL).ext hxO
    have zL:=hoL.ext hxO
    have y1:=e1.len
    have yE:=hxE.len
    have yL:=hxL.len
    have hE2:∀c∈fpE,c<HE.length:=fun c hc=>hoE.lt c hc
    have hL2:∀c∈fpL,c<HL.length:=fun c hc=>hoL.lt c hc
    have h12:∀c∈f1,c<H1.length:=fun c hc=>o1.lt c hc
    obtain⟨N,hN⟩:=(((e1.trans hxE).trans hxL).trans hxO).out
    refine⟨by simp[c7,eH,a2,a3,a4,k2E,k3E,k4E,k2L,k3L,k4L,k2O,k3O,k4O,mP,nM,p0],_,N,fpE++(f1++(fpL++(fpO++[]))),rfl,hN,.i (.o zE (.o z1 (.o zL (.o hoO .nil)))),?_,fun c hc=>?_⟩
    · rw[List.append_nil]
      refine List.nodup_append.2 ⟨ndE,List.nodup_append.2 ⟨n1,List.nodup_append.2 ⟨ndL,ndO,fun x hx y hy=>?_⟩,fun x hx y hy=>?_⟩,fun x hx y hy=>?_⟩
      · have:=hL2 x hx;have:=hfpO y hy;omega
      · have:=h12 x hx
        rcases List.mem_append.1 hy with g|g
        · have:=hfpL y g;omega
        · have:=hfpO y g;omega
      · have:=hE2 x hx;have:=hfpE x hx
        rcases List.mem_append.1 hy with g|g
        · have:=h12 y g;omega
        · rcases List.mem_append.1 g with g|g
          · have:=hfpL y g;omega
          · have:=hfpO y g;omega
    · simp only[List.append_nil,List.mem_append]at hc
      rcases hc with g|g|g|g
      · have:=hfpE c g;omega
      · have:=b1 c g;omega
      · have:=hfpL c g;omega
      · have:=hfpO c g;omega)
end Go.Proofs.YtccjhmhkfnnmaaaGreat
namespace Go.Proofs.YtccjhmhkfnnmaaaGreat
open Go.AM
variable {Γ:cj}
set_option maxHeartbeats 4000000 in
set_option maxRecDepth 100000 in
theorem Bq(β:Bool)(v:aA)(hv:v.ok 1048576)(h:AH):T Tryz.prog Γ Fn.NJ [.agg (v.c β)] h (aS h [.a v.cd]):=by
  have L0:=dN β 12 false v.entities (aE.c β)
  have L1:=dN β 7 false v.aq (aC.c β)
  have L2:=dN β 13 false v.out (bc.c β)
  obtain⟨hv1,hv2,hv3,hv4,hv5,hv6,hv7,hv8⟩:=hv
  refine T.jr ?_
  refine Rd (aD aJ aK [] _ _ _ ?_)
  unfold Ke
  simp only[EZ,ag,Nat.reduceAdd,Nat.reduceBEq,jY,fC,fH,fF,fM,aF,ER,aA.c]
  refine⟨?_,?_⟩
  refine ah.ref (by simp only[EO]) (HU β v.loop hv3 hv4 _) ?_
  rintro w1 H1 fr
  replace fr:aS h _ _ _:=fr
  obtain⟨f1,o1,n1,b1,e1⟩:=fr.c1
  obtain⟨a1,a2,a3,a4⟩:=o1.cell
  simp only[EZ,ag,Nat.reduceAdd,Nat.reduceBEq,jY,fC,fH,fF,fM,aF,ER,aA.c,a1,a2,a3,L0]
  refine⟨(by first|exact e1.mem _ _ _|exact cW (e1.mem _ _ _)),(by first|exact Mem.loc ⟨_,([]:List (List AV))++[_,_],H1⟩ _ [_]|exact cW (Mem.loc ⟨_,([]:List (List AV))++[_,_],H1⟩ _ [_])),?_⟩
  rotate_left
  refine⟨(by first|exact Mem.loc ⟨_,([]:List (List AV))++[_,_],h⟩ _ [_]|exact cW (Mem.loc ⟨_,([]:List (List AV))++[_,_],h⟩ _ [_])),?_⟩
  refine ah.ref (by simp only[EO]) (HU β v.loop hv3 hv4 _) ?_
  rintro w1 H1 fr
  replace fr:aS h _ _ _:=fr
  obtain⟨f1,o1,n1,b1,e1⟩:=fr.c1
  obtain⟨a1,a2,a3,a4⟩:=o1.cell
  simp only[EZ,ag,Nat.reduceAdd,Nat.reduceBEq,jY,fC,fH,fF,fM,aF,ER,aA.c,a1,a2,a3,L0]
  refine⟨(by first|exact e1.mem _ _ _|exact cW (e1.mem _ _ _)),?_⟩
  rotate_left
  all_goals (
    refine dD aJ aK [] (fun y:Nat×AV×AH×List Nat×List (List AV)=>y.1≤v.entities.length∧bN y.2.2.1 y.2.1 (.sl 12 ((v.entities.take y.1).map aE.cd)) y.2.2.2.1∧y.2.2.2.1.Nodup∧(∀c∈y.2.2.2.1,H1.length≤c)∧bQ H1 y.2.2.1∧y.2.2.2.2[([]:List (List AV)).length]? = some (v.c β)∧(∃zzE,y.2.2.2.2[([]:List (List AV)).length+1]? = some zzE∧zzE.length=5)∧y.2.2.2.2[([]:List (List AV)).length+2]? = some [AV.int .i64 v.id,y.2.1,w1,.nils,.nils]) (fun y=>v.entities.length-y.1)
      (fun y=>Ac (.lp ([]:List (List AV)).length 0) (.lp (([]:List (List AV)).length+1) 0) (.lp (([]:List (List AV)).length+2) 0) (.int .i64 y.1) y.2.2.2.2 y.2.2.1) (0,.nils,H1,[],_) ⟨by simp,.nil _,by simp,by simp,bQ.refl _,rfl,⟨_,rfl,rfl⟩,rfl⟩ ⟨by simp[Ac,eP,eM],rfl,rfl⟩ ?_
    rintro⟨k,wE,HE,fpE,ME⟩ ⟨hk,hoE,ndE,hfpE,hxE,hM0E,⟨zzE,hM1E,hzzE⟩,hM2E⟩
    simp only at hk hoE ndE hfpE hxE hM0E hM1E hM2E
    obtain⟨k1E,k2E,k3E,k4E⟩:=hoE.cell
    have r0E:∀(e:List AV) (h:AH) (off n:Nat),(St.mk e ME h).cells (.lp ([]:List (List AV)).length off) n=sub (v.c β) off n:=fun e h off n=>cC hM0E
    have r2E:∀(e:List AV) (h:AH) (off n:Nat),(St.mk e ME h).cells (.lp (([]:List (List AV)).length+2) off) n=sub [AV.int .i64 v.id,wE,w1,.nils,.nils] off n:=fun e h off n=>cC hM2E
    have s2E:∀(e:List AV) (h:AH) (a:AV),bK a=true→(St.mk e ME h).store (.lp (([]:List (List AV)).length+2) 1) [a]=some ⟨e,ME.set (([]:List (List AV)).length+2) (cB [AV.int .i64 v.id,wE,w1,.nils,.nils] 1 [a]),h⟩:=fun e h a ha=>lI hM2E (by simp) ha
    simp only[EZ,ag,Nat.reduceAdd,Nat.reduceBEq,jY,fC,fH,fF,fM,Ac,r0E,aA.c,L0]
    refine bI (fun hlt=>?_) (fun hge=>?_)
    · have hlt:k<v.entities.length:=by simpa using hlt
      have i0:=dy (β:=β) (sz:=12) (ex:=false) (ce:=aE.c β) hlt
      have he:=hv2 _ (List.getElem_mem hlt)
      generalize hxe:v.entities[k]=x at *
      simp only[EZ,ag,Nat.reduceAdd,Nat.reduceBEq,jY,fC,fH,fF,fM,i0,aE.c,aF,r0E,aA.c,r2E,k1E,k2E,k3E]
      refine ah.ref (by simp only[EO]) (Mt β x he _) ?_
      rintro _ Hc fr
      replace fr:aS HE _ _ _:=fr
      obtain⟨aw,fw,rfl,ow,nw,bw,ew⟩:=fr.a1
      have hdis:(fpE++fw).Nodup:=eI ndE nw (fun c hc=>hoE.lt c hc) bw
      replace hoE:=hoE.ext ew
      have hx1:=hxE.trans ew
      have oo:=ow
      simp only[aE.cd,gI,gD,hU,jP,jm]at oo
      obtain⟨_,_,_,_,rfl,_,⟨rfl,rfl⟩,⟨_,_,_,_,rfl,_,⟨rfl,rfl⟩,⟨az2,_,_,_,rfl,_,uz2,⟨_,_,_,_,rfl,_,⟨rfl,rfl⟩,⟨_,_,_,_,rfl,_,⟨rfl,rfl⟩,⟨_,_,_,_,rfl,_,⟨rfl,rfl⟩,⟨az6,_,_,_,rfl,_,uz6,⟨az7,_,_,_,rfl,_,uz7,⟨_,_,_,_,rfl,_,⟨rfl,rfl⟩,⟨_,_,_,_,rfl,_,⟨rfl,rfl⟩,⟨_,_,_,_,rfl,_,⟨rfl,rfl⟩,⟨_,_,_,_,rfl,_,⟨rfl,rfl⟩,⟨rfl,_⟩⟩⟩⟩⟩⟩⟩⟩⟩⟩⟩⟩⟩:=oo
      obtain⟨cz2a,cz2b,cz2c,cz2d⟩:=uz2.cell
      obtain⟨cz6a,cz6b,cz6c,cz6d⟩:=uz6.cell
      obtain⟨cz7a,cz7b,cz7c,cz7d⟩:=uz7.cell
      obtain⟨v',H',fp',ea,o',nd',hf',hl',hm'⟩:=dw (bytes:=144) hoE hdis (by omega) rfl ow (by simp only[List.length_map,List.length_take,aU];omega)
      obtain⟨j1,j2,j3,j4⟩:=o'.cell
      simp only[EZ,ag,Nat.reduceAdd,Nat.reduceBEq,jY,fC,fH,fF,fM,EA,aF,ER,cz2a,cz2b,cz2c,cz6a,cz6b,cz6c,cz7a,cz7b,cz7c,r2E,k1E,k2E,k3E,ea,j1,j2,j3,s2E _ _ _ j2]
      have hl9:=hxE.len
      have hl8:=hx1.len
      have hb':∀c∈fp',H1.length≤c:=fun c hc=>by
        rcases hm' c hc with g|g|g
        · exact hfpE c g
        · have:=bw c g;omega
        · omega
      refine⟨(by first|exact ew.mem _ _ _|exact cW (ew.mem _ _ _)),?_⟩
      exact⟨(k+1,v',H',fp',_),⟨hlt,by simp only;rw[List.take_succ_eq_append_getElem hlt,List.map_append,hxe];exact o',nd',hb',hx1.vF hl' hf' hfpE,jh hM0E (by simp),⟨zzE,jh hM1E (by simp),hzzE⟩,jc hM2E⟩,by simp only;omega,⟨by rw[wN (by omega)];simp[Ac,eP,eM],rfl,rfl⟩⟩
    have hge:k=v.entities.length:=by simp at hge;omega
    subst hge
    rw[List.take_length]at hoE
    simp only[EZ,ag,Nat.reduceAdd,Nat.reduceBEq,jY,fC,fH,fF,fM,ER,aF]
    refine dD aJ aK [] (fun y:Nat×AV×AH×List Nat×List (List AV)=>y.1≤v.aq.length∧bN y.2.2.1 y.2.1 (.sl 7 ((v.aq.take y.1).map aC.cd)) y.2.2.2.1∧y.2.2.2.1.Nodup∧(∀c∈y.2.2.2.1,HE.length≤c)∧bQ HE y.2.2.1∧y.2.2.2.2[([]:List (List AV)).length]? = some (v.c β)∧(∃zzL,y.2.2.2.2[([]:List (List AV)).length+1]? = some zzL∧zzL.length=5)∧y.2.2.2.2[([]:List (List AV)).length+2]? = some [AV.int .i64 v.id,wE,w1,y.2.1,.nils]) (fun y=>v.aq.length-y.1)
      (fun y=>Ap (.lp ([]:List (List AV)).length 0) (.lp (([]:List (List AV)).length+1) 0) (.lp (([]:List (List AV)).length+2) 0) (.int .i64 y.1) y.2.2.2.2 y.2.2.1) (0,.nils,HE,[],_) ⟨by simp,.nil _,by simp,by simp,bQ.refl _,hM0E,⟨zzE,hM1E,hzzE⟩,hM2E⟩ ⟨by simp[Ap,eP,eM],rfl,rfl⟩ ?_
    rintro⟨k,wL,HL,fpL,ML⟩ ⟨hk,hoL,ndL,hfpL,hxL,hM0L,⟨zzL,hM1L,hzzL⟩,hM2L⟩
    simp only at hk hoL ndL hfpL hxL hM0L hM1L hM2L
    obtain⟨k1L,k2L,k3L,k4L⟩:=hoL.cell
    have r0L:∀(e:List AV) (h:AH) (off n:Nat),(St.mk e ML h).cells (.lp ([]:List (List AV)).length off) n=sub (v.c β) off n:=fun e h off n=>cC hM0L
    have r2L:∀(e:List AV) (h:AH) (off n:Nat),(St.mk e ML h).cells (.lp (([]:List (List AV)).length+2) off) n=sub [AV.int .i64 v.id,wE,w1,wL,.nils] off n:=fun e h off n=>cC hM2L
    have s2L:∀(e:List AV) (h:AH) (a:AV),bK a=true→(St.mk e ML h).store (.lp (([]:List (List AV)).length+2) 3) [a]=some ⟨e,ML.set (([]:List (List AV)).length+2) (cB [AV.int .i64 v.id,wE,w1,wL,.nils] 3 [a]),h⟩:=fun e h a ha=>lI hM2L (by simp) ha
    simp only[EZ,ag,Nat.reduceAdd,Nat.reduceBEq,jY,fC,fH,fF,fM,Ap,r0L,aA.c,L1]
    refine bI (fun hlt=>?_) (fun hge=>?_)
    · have hlt:k<v.aq.length:=by simpa using hlt
      have i0:=dy (β:=β) (sz:=7) (ex:=false) (ce:=aC.c β) hlt
      have he:=hv6 _ (List.getElem_mem hlt)
      generalize hxe:v.aq[k]=x at *
      simp only[EZ,ag,Nat.reduceAdd,Nat.reduceBEq,jY,fC,fH,fF,fM,i0,aC.c,aF,r0L,aA.c,r2L,k1L,k2L,k3L]
      refine ah.ref (by simp only[EO]) (FB β x he _) ?_
      rintro _ Hc fr
      replace fr:aS HL _ _ _:=fr
      obtain⟨aw,fw,rfl,ow,nw,bw,ew⟩:=fr.a1
      have hdis:(fpL++fw).Nodup:=eI ndL nw (fun c hc=>hoL.lt c hc) bw
      replace hoL:=hoL.ext ew
      have hx1:=hxL.trans ew
      have oo:=ow
      simp only[aC.cd,gI,gD,hU,jP,jm]at oo
      obtain⟨_,_,_,_,rfl,_,⟨rfl,rfl⟩,⟨_,_,_,_,rfl,_,⟨rfl,rfl⟩,⟨az2,_,_,_,rfl,_,uz2,⟨_,_,_,_,rfl,_,⟨rfl,rfl⟩,⟨az4,_,_,_,rfl,_,uz4,⟨_,_,_,_,rfl,_,⟨rfl,rfl⟩,⟨az6,_,_,_,rfl,_,uz6,⟨rfl,_⟩⟩⟩⟩⟩⟩⟩⟩:=oo
      obtain⟨cz2a,cz2b,cz2c,cz2d⟩:=uz2.cell
      obtain⟨cz4a,cz4b,cz4c,cz4d⟩:=uz4.cell
      obtain⟨cz6a,cz6b,cz6c,cz6d⟩:=uz6.cell
      obtain⟨v',H',fp',ea,o',nd',hf',hl',hm'⟩:=dw (bytes:=104) hoL hdis (by omega) rfl ow (by simp only[List.length_map,List.length_take,aU];omega)
      obtain⟨j1,j2,j3,j4⟩:=o'.cell
      simp only[EZ,ag,Nat.reduceAdd,Nat.reduceBEq,jY,fC,fH,fF,fM,EA,aF,ER,cz2a,cz2b,cz2c,cz4a,cz4b,cz4c,cz6a,cz6b,cz6c,r2L,k1L,k2L,k3L,ea,j1,j2,j3,s2L _ _ _ j2]
      have hl9:=hxL.len
      have hl8:=hx1.len
      have hb':∀c∈fp',HE.length≤c:=fun c hc=>by
        rcases hm' c hc with g|g|g
        · exact hfpL c g
        · have:=bw c g;omega
        · omega
      refine⟨(by first|exact ew.mem _ _ _|exact cW (ew.mem _ _ _)),?_⟩
      exact⟨(k+1,v',H',fp',_),⟨hlt,by simp only;rw[List.take_succ_eq_append_getElem hlt,List.map_append,hxe];exact o',nd',hb',hx1.vF hl' hf' hfpL,jh hM0L (by simp),⟨zzL,jh hM1L (by simp),hzzL⟩,jc hM2L⟩,by simp only;omega,⟨by rw[wN (by omega)];simp[Ap,eP,eM],rfl,rfl⟩⟩
    have hge:k=v.aq.length:=by simp at hge;omega
    subst hge
    rw[List.take_length]at hoL
    simp only[EZ,ag,Nat.reduceAdd,Nat.reduceBEq,jY,fC,fH,fF,fM,ER,aF]
    refine dD aJ aK [] (fun y:Nat×AV×AH×List Nat×List (List AV)=>y.1≤v.out.length∧bN y.2.2.1 y.2.1 (.sl 13 ((v.out.take y.1).map bc.cd)) y.2.2.2.1∧y.2.2.2.1.Nodup∧(∀c∈y.2.2.2.1,HL.length≤c)∧bQ HL y.2.2.1∧y.2.2.2.2[([]:List (List AV)).length]? = some (v.c β)∧(∃zzO,y.2.2.2.2[([]:List (List AV)).length+1]? = some zzO∧zzO.length=5)∧y.2.2.2.2[([]:List (List AV)).length+2]? = some [AV.int .i64 v.id,wE,w1,wL,y.2.1]) (fun y=>v.out.length-y.1)
      (fun y=>AI (.lp ([]:List (List AV)).length 0) (.lp (([]:List (List AV)).length+1) 0) (.lp (([]:List (List AV)).length+2) 0) (.int .i64 y.1) y.2.2.2.2 y.2.2.1) (0,.nils,HL,[],_) ⟨by simp,.nil _,by simp,by simp,bQ.refl _,hM0L,⟨zzL,hM1L,hzzL⟩,hM2L⟩ ⟨by simp[AI,eP,eM],rfl,rfl⟩ ?_
    rintro⟨k,wO,HO,fpO,MO⟩ ⟨hk,hoO,ndO,hfpO,hxO,hM0O,⟨zzO,hM1O,hzzO⟩,hM2O⟩
    simp only at hk hoO ndO hfpO hxO hM0O hM1O hM2O
    obtain⟨k1O,k2O,k3O,k4O⟩:=hoO.cell
    have r0O:∀(e:List AV) (h:AH) (off n:Nat),(St.mk e MO h).cells (.lp ([]:List (List AV)).length off) n=sub (v.c β) off n:=fun e h off n=>cC hM0O
    have r2O:∀(e:List AV) (h:AH) (off n:Nat),(St.mk e MO h).cells (.lp (([]:List (List AV)).length+2) off) n=sub [AV.int .i64 v.id,wE,w1,wL,wO] off n:=fun e h off n=>cC hM2O
    have s2O:∀(e:List AV) (h:AH) (a:AV),bK a=true→(St.mk e MO h).store (.lp (([]:List (List AV)).length+2) 4) [a]=some ⟨e,MO.set (([]:List (List AV)).length+2) (cB [AV.int .i64 v.id,wE,w1,wL,wO] 4 [a]),h⟩:=fun e h a ha=>lI hM2O (by simp) ha
    simp only[EZ,ag,Nat.reduceAdd,Nat.reduceBEq,jY,fC,fH,fF,fM,AI,r0O,aA.c,L2]
    refine bI (fun hlt=>?_) (fun hge=>?_)
    · have hlt:k<v.out.length:=by simpa using hlt
      have i0:=dy (β:=β) (sz:=13) (ex:=false) (ce:=bc.c β) hlt
      have he:=hv8 _ (List.getElem_mem hlt)
      generalize hxe:v.out[k]=x at *
      simp only[EZ,ag,Nat.reduceAdd,Nat.reduceBEq,jY,fC,fH,fF,fM,i0,bc.c,aF,r0O,aA.c,r2O,k1O,k2O,k3O]
      refine ah.ref (by simp only[EO]) (Tc β x.message he _) ?_
      rintro _ Hc fr
      replace fr:aS HO _ _ _:=fr
      obtain⟨aw,fw,rfl,ow,nw,bw,ew⟩:=fr.a1
      have hdis:(fpO++fw).Nodup:=eI ndO nw (fun c hc=>hoO.lt c hc) bw
      replace hoO:=hoO.ext ew
      have hx1:=hxO.trans ew
      have oo:=ow
      simp only[aB.cd,gI,gD,hU,jP,jm]at oo
      obtain⟨_,_,_,_,rfl,_,⟨rfl,rfl⟩,⟨_,_,_,_,rfl,_,⟨rfl,rfl⟩,⟨_,_,_,_,rfl,_,⟨rfl,rfl⟩,⟨_,_,_,_,rfl,_,⟨rfl,rfl⟩,⟨_,_,_,_,rfl,_,⟨rfl,rfl⟩,⟨az5,_,_,_,rfl,_,uz5,⟨_,_,_,_,rfl,_,⟨rfl,rfl⟩,⟨_,_,_,_,rfl,_,⟨rfl,rfl⟩,⟨_,_,_,_,rfl,_,⟨rfl,rfl⟩,⟨_,_,_,_,rfl,_,⟨rfl,rfl⟩,⟨_,_,_,_,rfl,_,⟨rfl,rfl⟩,⟨_,_,_,_,rfl,_,⟨rfl,rfl⟩,⟨rfl,_⟩⟩⟩⟩⟩⟩⟩⟩⟩⟩⟩⟩⟩:=oo
      obtain⟨cz5a,cz5b,cz5c,cz5d⟩:=uz5.cell
      obtain⟨v',H',fp',ea,o',nd',hf',hl',hm'⟩:=dw (bytes:=128) hoO hdis (by omega) rfl (aO.i (k:=.i64) (n:=x.to_) ow) (by simp only[List.length_map,List.length_take,aU];omega)
      obtain⟨j1,j2,j3,j4⟩:=o'.cell
      simp only[EZ,ag,Nat.reduceAdd,Nat.reduceBEq,jY,fC,fH,fF,fM,EA,aF,ER,cz5a,cz5b,cz5c,r2O,k1O,k2O,k3O,ea,j1,j2,j3,s2O _ _ _ j2]
      have hl9:=hxO.len
      have hl8:=hx1.len
      have hb':∀c∈fp',HL.length≤c:=fun c hc=>by
        rcases hm' c hc with g|g|g
        · exact hfpO c g
        · have:=bw c g;omega
        · omega
      refine⟨(by first|exact ew.mem _ _ _|exact cW (ew.mem _ _ _)),?_⟩
      exact⟨(k+1,v',H',fp',_),⟨hlt,by simp only;rw[List.take_succ_eq_append_getElem hlt,List.map_append,hxe];exact o',nd',hb',hx1.vF hl' hf' hfpO,jh hM0O (by simp),⟨zzO,jh hM1O (by simp),hzzO⟩,jc hM2O⟩,by simp only;omega,⟨by rw[wN (by omega)];simp[AI,eP,eM],rfl,rfl⟩⟩
    have hge:k=v.out.length:=by simp at hge;omega
    subst hge
    rw[List.take_length]at hoO
    simp only[EZ,ag,Nat.reduceAdd,Nat.reduceBEq,jY,fC,fH,fF,fM,show ∀(e:List AV) (h:AH) (off n:Nat),(St.mk e MO h).cells (.lp (([]:List (List AV)).length+2) off) n=sub [AV.int .i64 v.id,wE,w1,wL,wO] off n from fun e h off n=>cC hM2O,show ∀(e:List AV) (h:AH),(St.mk e MO h).store (.lp (([]:List (List AV)).length+1) 0) [AV.int .i64 v.id,wE,w1,wL,wO]=some ⟨e,MO.set (([]:List (List AV)).length+1) [AV.int .i64 v.id,wE,w1,wL,wO],h⟩ from fun e h=>lN hM1O (by rw[hzzO];rfl) (by simp[I6,k2E,a2,k2L,k2O]),show ∀(e:List AV) (h:AH) (off n:Nat),(St.mk e (MO.set (([]:List (List AV)).length+1) [AV.int .i64 v.id,wE,w1,wL,wO]) h).cells (.lp (([]:List (List AV)).length+1) off) n=sub [AV.int .i64 v.id,wE,w1,wL,wO] off n from fun e h off n=>cC (jc hM1O),ER,aF]
    have z1:=((o1.ext hxE).ext hxL).ext hxO
    have zE:=(hoE.ext hxL).ext hxO
    have zL:=hoL.ext hxO
    have y1:=e1.len
    have yE:=hxE.len
    have yL:=hxL.len
    have hE2:∀c∈fpE,c<HE.length:=fun c hc=>hoE.lt c hc
    have hL2:∀c∈fpL,c<HL.length:=fun c hc=>hoL.lt c hc
    have h12:∀c∈f1,c<H1.length:=fun c hc=>o1.lt c hc
    obtain⟨N,hN⟩:=(((e1.trans hxE).trans hxL).trans hxO).out
    refine⟨by simp[c7,eH,a2,a3,a4,k2E,k3E,k4E,k2L,k3L,k4L,k2O,k3O,k4O,mP,nM,p0],_,N,fpE++(f1++(fpL++(fpO++[]))),rfl,hN,.i (.o zE (.o z1 (.o zL (.o hoO .nil)))),?_,fun c hc=>?_⟩
    · rw[List.append_nil]
      refine List.nodup_append.2 ⟨ndE,List.nodup_append.2 ⟨n1,List.nodup_append.2 ⟨ndL,ndO,fun x hx y hy=>?_⟩,fun x hx y hy=>?_⟩,fun x hx y hy=>?_⟩
      · have:=hL2 x hx;have:=hfpO y hy;omega
      · have:=h12 x hx
        rcases List.mem_append.1 hy with g|g
        · have:=hfpL y g;omega
        · have:=hfpO y g;omega
      · have:=hE2 x hx;have:=hfpE x hx
        rcases List.mem_append.1 hy with g|g
        · have:=h12 y g;omega
        · rcases List.mem_append.1 g with g|g
          · have:=hfpL y g;omega
          · have:=hfpO y g;omega
    · simp only[List.append_nil,List.mem_append]at hc
      rcases hc with g|g|g|g
      · have:=hfpE c g;omega
      · have:=b1 c g;omega
      · have:=hfpL c g;omega
      · have:=hfpO c g;omega)
end Go.Proofs.YtccjhmhkfnnmaaaGreat
