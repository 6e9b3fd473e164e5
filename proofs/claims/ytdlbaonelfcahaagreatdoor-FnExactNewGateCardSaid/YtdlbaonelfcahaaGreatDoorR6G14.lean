import Derived.Test.YtdlbaonelfcahaaGreatDoorCodeNewGate
import Derived.Test.YtdlbaonelfcahaaGreatDoorAmG10
import Derived.Test.YtdlbaonelfcahaaGreatDoorAmG9
import Derived.Lib.ItoaLen
import Derived.Lib.Atoi
import Derived.Test.YtdlbaonelfcahaaGreatDoorAmG11
set_option linter.unusedVariables false
set_option linter.unusedSimpArgs false
namespace Go.Proofs.YtdlbaonelfcahaaGreatDoor
open Go.AM
variable {Γ:bG}
def ku(n lo hi:Int):Bool:=decide (lo≤n) && decide (n≤hi)
theorem ni(n lo hi:Int)(h:AH):T Tryz.prog Γ Fn.xq [.int .i64 n,.int .i64 lo,.int .i64 hi] h fun v h'=>v=.bool (ku n lo hi)∧h'=h:=by
  refine QR (au aF mixed [] _ _ _ ?_)
  unfold HM
  simp only[EZ,ah,Nat.reduceAdd,Nat.reduceBEq,C9]
  refine js (fun h1=>?_) (fun h1=>?_)<;>simp only[EZ,ah,Nat.reduceAdd,Nat.reduceBEq,C9,h1]
  · exact⟨rfl,by simp only[ku,h1,Bool.true_and]⟩
  · exact⟨rfl,by simp only[ku,h1,Bool.false_and]⟩
abbrev i64(n:Int):Prop:=-9223372036854775808≤n∧n≤9223372036854775807
theorem jt(n:Int)(hn:i64 n)(h:AH):T Tryz.prog Γ Fn.EW [.int .i64 n] h fun v h'=>v=.str (bp n)∧h'=h:=by
  refine T.text ?_
  refine OG (au aF mixed [] _ _ _ ?_)
  unfold Iq
  simp only[EZ,ah,Nat.reduceAdd,Nat.reduceBEq,jT]
  refine ba (fun h0=>?_) (fun h0=>?_)
  · have:n=0:=by simpa using h0
    subst this
    simp only[EZ,ah,Nat.reduceAdd,Nat.reduceBEq,jT]
    exact⟨rfl,by rw[show bp 0=⟨#[48]⟩by simp[bp,Lib.itoa,dX]],[],by simp⟩
  have h0:n≠0:=by simpa using h0
  simp only[EZ,ah,Nat.reduceAdd,Nat.reduceBEq,jT]
  refine bD aF mixed [] (fun y:Int×List UInt8×AH=>i64 y.1∧y.2.1.length≤30∧qL y.1.natAbs++y.2.1=Lib.decDigits n.natAbs∧∃N,y.2.2=h++N) (fun y=>y.1.natAbs)
    (fun y=>pJ (.int .i64 n) (.str ⟨y.2.1.toArray⟩) (.int .i64 y.1) [] y.2.2) (n,[],h) ⟨hn,by simp,by simp[qL];omega,[],by simp⟩ ⟨by simp[pJ,cj,ck],rfl,rfl⟩ ?_
  rintro⟨x,l,H⟩ ⟨hx,hl,hd,N,rfl⟩
  simp only at hx hl hd
  simp only[EZ,ah,Nat.reduceAdd,Nat.reduceBEq,jT,pJ,EA,zz,oH,oe]
  refine ba (fun hx0=>?_) (fun hx0=>?_)
  · have hx0:x≠0:=by simpa using hx0
    have e:=Dz x (by omega)
    have e2:=DR x
    have e3:i64 (x.tdiv 10):=by
      have:(x.tdiv 10).natAbs≤x.natAbs:=by rw[e2];omega
      omega
    have hs:=qQ (u:=x.natAbs) (by omega)
    have fin:∀H',(∃N,H'=h++N)→∃y:Int×List UInt8×AH,(i64 y.1∧y.2.1.length≤30∧qL y.1.natAbs++y.2.1=Lib.decDigits n.natAbs∧∃N,y.2.2=h++N)∧y.1.natAbs<x.natAbs∧y=(x.tdiv 10,UInt8.ofNat (48+x.natAbs % 10)::l,H'):=fun H' hH=>
      ⟨_,⟨e3,by
        have:((qL x.natAbs)++l).length≤20:=by rw[hd];exact iQ (k:=20) (by omega) (by omega)
        rw[hs]at this
        simp at this ⊢;omega,by simp only;rw[e2,←hd,hs];simp,hH⟩,by simp only;rw[e2];omega,rfl⟩
    have w3:IntKind.i64.wrap (48+((x.natAbs % 10:Nat):Int))=((48+x.natAbs % 10:Nat):Int):=by rw[aI (by omega) (by omega)];omega
    have w4:IntKind.u8.wrap ((48+x.natAbs % 10:Nat):Int)=((48+x.natAbs % 10:Nat):Int):=by rw[Cs];omega
    have w5:IntKind.i64.wrap (x.tdiv 10)=x.tdiv 10:=aI e3.1 (by omega)
    have sa:bU .add .num (.str ⟨#[UInt8.ofNat (48+x.natAbs % 10)]⟩) (.str ⟨l.toArray⟩)=some (.str ⟨(UInt8.ofNat (48+x.natAbs % 10)::l).toArray⟩):=by
      have:=xW (a:=⟨[UInt8.ofNat (48+x.natAbs % 10)].toArray⟩) (b:=⟨l.toArray⟩) (by rw[gy,gy];simp;omega)
      rw[FP]at this
      exact this
    have cv:∀(e:List AV) (L:List (List AV)) (H:AH),((St.mk e L (H++[some (0,[.int .u8 ((48+x.natAbs % 10:Nat):Int)])])).bl 1 (.gs H.length 0 0 1 1 1 true)).bind cn=some [UInt8.ofNat (48+x.natAbs % 10)]:=fun e L H=>by
      rw[D4];rfl
    simp only[EZ,ah,Nat.reduceAdd,Nat.reduceBEq,jT,EA,zz,oH,oe]
    refine ba (fun hn0=>?_) (fun hn0=>?_)
    · have hn0:x.tmod 10<0:=by simpa using hn0
      have w1:IntKind.i64.wrap (0-x.tmod 10)=((x.natAbs % 10:Nat):Int):=by rw[aI (by omega) (by omega)];omega
      simp only[EZ,ah,Nat.reduceAdd,Nat.reduceBEq,jT,EA,zz,oH,oe,w1,w3,pz,w4,w5,yB,cv,Option.map_some,sa]
      obtain⟨y,y1,y2,rfl⟩:=fin (h++N++[some (0,[.int .u8 ((48+x.natAbs % 10:Nat):Int)])]) ⟨N++[some (0,[.int .u8 ((48+x.natAbs % 10:Nat):Int)])],by simp⟩
      exact⟨_,y1,y2,⟨by simp[pJ,cj,ck],rfl,rfl⟩⟩
    · have hn0:¬x.tmod 10<0:=by simpa using hn0
      have w1:x.tmod 10=((x.natAbs % 10:Nat):Int):=by omega
      simp only[EZ,ah,Nat.reduceAdd,Nat.reduceBEq,jT,EA,zz,oH,oe,w1,w3,pz,w4,w5,yB,cv,Option.map_some,sa]
      obtain⟨y,y1,y2,rfl⟩:=fin (h++N++[some (0,[.int .u8 ((48+x.natAbs % 10:Nat):Int)])]) ⟨N++[some (0,[.int .u8 ((48+x.natAbs % 10:Nat):Int)])],by simp⟩
      exact⟨_,y1,y2,⟨by simp[pJ,cj,ck],rfl,rfl⟩⟩
  have hx0:x=0:=by simpa using hx0
  subst hx0
  have hd:l=Lib.decDigits n.natAbs:=by simpa[qL]using hd
  subst hd
  simp only[EZ,ah,Nat.reduceAdd,Nat.reduceBEq,jT]
  refine ba (fun hn0=>?_) (fun hn0=>?_)
  · have hn0:n<0:=by simpa using hn0
    have sa:bU .add .num (.str ⟨#[45]⟩) (.str ⟨(Lib.decDigits n.natAbs).toArray⟩)=some (.str (bp n)):=by
      have:=xW (a:=⟨[45].toArray⟩) (b:=⟨(Lib.decDigits n.natAbs).toArray⟩) (by rw[gy,gy];simp;omega)
      rw[FP]at this
      rw[this,bp,Lib.itoa,if_pos hn0];rfl
    simp only[EZ,ah,Nat.reduceAdd,Nat.reduceBEq,jT,sa]
    exact⟨rfl,N,rfl⟩
  · have hn0:¬n<0:=by simpa using hn0
    simp only[EZ,ah,Nat.reduceAdd,Nat.reduceBEq,jT]
    refine⟨rfl,?_,N,rfl⟩
    rw[bp,Lib.itoa,if_neg hn0,show n.toNat=n.natAbs by omega]
theorem fH(n:Int)(hn:i64 n):(bp n).size≤21:=by
  rw[bp,gy];exact Lib.itoa_length_le n hn.1 hn.2
noncomputable def KK(s:ByteArray):AV:=.tup [.int .i64 (((jR s).getD 0:Nat):Int),.bool (jR s).isSome]
theorem A2{n:Nat}(h:n≤1000000000000):KK (bp n)=.tup [.int .i64 n,.bool true]:=by rw[KK,nV h];rfl
theorem lV{s:ByteArray}(h:∀n:Nat,n≤1000000000000→s≠bp n):KK s=.tup [.int .i64 0,.bool false]:=by rw[KK,nu h];rfl
theorem byteAt_mk(l:List UInt8)(k:Nat)(hk:k<l.length):cQ ⟨l.toArray⟩ k=l[k].toNat:=by
  simp[cQ,List.getD_eq_getElem?_getD,hk]
theorem iy{l:List UInt8}{n:Nat}(hl:(⟨l.toArray⟩:ByteArray)=bp n):l=Lib.decDigits n:=by
  have:=congrArg (fun b:ByteArray=>b.data.toList) hl
  simpa[eK]using this
theorem RB(l:List UInt8)(h:AH):T Tryz.prog Γ Fn.Xe [.str ⟨l.toArray⟩] h fun v h'=>v=KK ⟨l.toArray⟩∧h'=h:=by
  have LS:fu true (.str ⟨l.toArray⟩)=some (.int .i64 l.length):=by rw[fT,gy]
  refine Pd (au aF mixed [] _ _ _ ?_)
  unfold IP
  simp only[EZ,ah,Nat.reduceAdd,Nat.reduceBEq,ja,ER,LS]
  refine aq.val (by simp only[EO]) (ni _ _ _ _) ?_
  cases e1:ku (l.length:Int) 1 13
  · simp only[EZ,ah,Nat.reduceAdd,Nat.reduceBEq,ja,ER]
    rw[lV (fun m hm e=>by
      have e:=iy e
      have h1:=iQ (u:=m) (k:=13) (by omega) (by omega)
      obtain⟨c,r,e2,_⟩:=j6 m
      rw[←e]at h1 e2
      rw[e2]at e1 h1
      simp[ku]at e1 h1
      omega)]
    first|exact⟨rfl,rfl⟩|exact rfl
  have hl:1≤l.length∧l.length≤13:=by simp[ku]at e1;omega
  simp only[EZ,ah,Nat.reduceAdd,Nat.reduceBEq,ja,ER]
  refine bD aF mixed [] (fun y:Nat×Nat=>y.1≤l.length∧Lib.decFrom 0 (l.take y.1)=some y.2∧y.2<10 ^ y.1) (fun y=>l.length-y.1)
    (fun y=>jO (.str ⟨l.toArray⟩) (.int .i64 y.2) (.int .i64 y.1) [] h) (0,0) ⟨by simp,rfl,by simp⟩ ⟨by simp[jO,cj,ck],rfl,rfl⟩ ?_
  rintro⟨k,m⟩ ⟨hk,hd,hm⟩
  simp only at hk hd hm
  have hm13:m<10000000000000:=Nat.lt_of_lt_of_le hm (by
    have:=Nat.pow_le_pow_right (n:=10) (by omega) (show k≤13 by omega)
    omega)
  simp only[EZ,ah,Nat.reduceAdd,Nat.reduceBEq,ja,ER,jO,LS]
  refine ba (fun hlt=>?_) (fun hge=>?_)
  · have hlt:k<l.length:=by simpa using hlt
    have ib:=fun s:St=>ko s (v:=⟨l.toArray⟩) (k:=k) (by rw[gy];exact hlt)
    rw[byteAt_mk l k hlt]at ib
    obtain⟨c,hc⟩:∃c,c=l[k]:=⟨_,rfl⟩
    have hck:l[k]? = some c:=by rw[hc];exact List.getElem?_eq_getElem hlt
    rw[←hc]at ib
    have hc256:=c.toNat_lt
    have w1:IntKind.i64.wrap (c.toNat:Int)=c.toNat:=aI (by omega) (by omega)
    simp only[EZ,ah,Nat.reduceAdd,Nat.reduceBEq,ja,ER,jO,LS,fN,ib,pz,w1]
    refine aq.val (by simp only[EO]) (ni _ _ _ _) ?_
    cases e2:ku (c.toNat:Int) 48 57
    · simp only[EZ,ah,Nat.reduceAdd,Nat.reduceBEq,ja,ER,jO,LS,fN,ib,pz,w1]
      rw[lV (fun n hn e=>by
        have e:=iy e
        obtain⟨d,hd⟩:=Lib.digit_of_decFrom l 0 n (by rw[e];exact eH n) k c hck
        unfold Lib.digitVal at hd
        split at hd
        · rename_i hh
          simp[ku]at e2;omega
        · cases hd)]
      first|exact⟨rfl,rfl⟩|exact rfl
    · have hdg:48≤c.toNat∧c.toNat≤57:=by simp[ku]at e2;omega
      have w2:IntKind.u8.wrap ((c.toNat:Int)-48)=((c.toNat-48:Nat):Int):=by
        rw[show((c.toNat:Int)-48)=((c.toNat-48:Nat):Int)by omega,Cs,Nat.mod_eq_of_lt (by omega)]
      have w3:IntKind.i64.wrap ((c.toNat-48:Nat):Int)=((c.toNat-48:Nat):Int):=aI (by omega) (by omega)
      have w4:IntKind.i64.wrap (10*(m:Int))=((m*10:Nat):Int):=by rw[aI (by omega) (by omega)];omega
      have w5:IntKind.i64.wrap (((m*10:Nat):Int)+((c.toNat-48:Nat):Int))=((m*10+(c.toNat-48):Nat):Int):=by rw[aI (by omega) (by omega)];omega
      simp only[EZ,ah,Nat.reduceAdd,Nat.reduceBEq,ja,ER,jO,LS,fN,ib,pz,w1,w2,w3,w4,w5]
      exact⟨(k+1,m*10+(c.toNat-48)),⟨hlt,Lib.decFrom_take l k 0 m c _ hd hck (by rw[Lib.digitVal,if_pos hdg]),by
        simp only;rw[Nat.pow_succ];omega⟩,by simp only;omega,⟨by rw[wN (by omega)];simp[jO,cj,ck],rfl,rfl⟩⟩
  have hge:k=l.length:=by simp at hge;omega
  subst hge
  rw[List.take_length]at hd
  have no:∀n:Nat,n≤1000000000000→¬(m≤1000000000000∧bp m=⟨l.toArray⟩)→(⟨l.toArray⟩:ByteArray)≠bp n:=fun n hn hx e=>by
    have e':=iy e
    rw[e',eH]at hd
    obtain rfl:=Option.some.inj hd
    exact hx ⟨hn,e.symm⟩
  simp only[EZ,ah,Nat.reduceAdd,Nat.reduceBEq,ja,ER,jO,LS]
  by_cases h1:(m:Int)>1000000000000
  · simp only[EZ,ah,Nat.reduceAdd,Nat.reduceBEq,ja,ER,decide_eq_true h1]
    rw[lV (fun n hn=>no n hn (fun h=>by omega))]
    first|exact⟨rfl,rfl⟩|exact rfl
  simp only[EZ,ah,Nat.reduceAdd,Nat.reduceBEq,ja,ER,decide_eq_false h1]
  refine aq.val (by simp only[EO]) (jt m ⟨by omega,by omega⟩ _) ?_
  by_cases h2:bp m=⟨l.toArray⟩
  · simp only[EZ,ah,Nat.reduceAdd,Nat.reduceBEq,ja,ER,decide_eq_false h1,bB,decide_eq_true h2]
    rw[←h2,A2 (by omega)]
    first|exact⟨rfl,rfl⟩|exact rfl
  · simp only[EZ,ah,Nat.reduceAdd,Nat.reduceBEq,ja,ER,decide_eq_false h1,bB,decide_eq_false h2]
    rw[lV (fun n hn=>no n hn (fun h=>h2 h.2))]
    first|exact⟨rfl,rfl⟩|exact rfl
end Go.Proofs.YtdlbaonelfcahaaGreatDoor
namespace Go.Proofs.YtdlbaonelfcahaaGreatDoor
open Go.AM
variable {Γ:bG}
theorem AI(b:Bool):cR (.bool b)=true:=rfl
def sK(v:ByteArray):Bool:=ku v.size 1 6 && (List.range v.size).all fun k=>decide (97≤(cQ v k:Int)) && decide ((cQ v k:Int)≤122)
theorem rE{v:ByteArray}{k:Nat}(hk:k<v.size)(h:(decide (97≤(cQ v k:Int)) && decide ((cQ v k:Int)≤122))=false):sK v=false:=by
  have:(List.range v.size).all (fun k=>decide (97≤(cQ v k:Int)) && decide ((cQ v k:Int)≤122))=false:=by
    rw[Bool.eq_false_iff];intro hh
    have:=List.all_eq_true.1 hh k (List.mem_range.2 hk)
    rw[h]at this;cases this
  rw[sK,this,Bool.and_false]
theorem Ai{v:ByteArray}(h:∀k,k<v.size→(decide (97≤(cQ v k:Int)) && decide ((cQ v k:Int)≤122))=true):sK v=ku v.size 1 6:=by
  have:(List.range v.size).all (fun k=>decide (97≤(cQ v k:Int)) && decide ((cQ v k:Int)≤122))=true:=List.all_eq_true.2 fun k hk=>h k (List.mem_range.1 hk)
  rw[sK,this,Bool.and_true]
theorem Ba(v:ByteArray)(hv:v.size≤1048576)(h:AH):T Tryz.prog Γ Fn.Kd [.str v] h fun r h'=>r=.bool (sK v)∧h'=h:=by
  refine Nk (au aF mixed [] _ _ _ ?_)
  unfold IB
  simp only[EZ,ah,Nat.reduceAdd,Nat.reduceBEq,mP]
  refine bD aF mixed [] (fun k:Nat=>k≤v.size∧∀i,i<k→(decide (97≤(cQ v i:Int)) && decide ((cQ v i:Int)≤122))=true) (fun k=>v.size-k)
    (fun k=>vG (.str v) (.int .i64 k) ([]:List (List AV)) h) 0 ⟨by omega,fun i h=>by omega⟩ ⟨by simp[vG,cj,ck],rfl,rfl⟩ ?_
  rintro k ⟨hk,ht⟩
  simp only[EZ,ah,Nat.reduceAdd,Nat.reduceBEq,mP,vG,fT]
  refine ba (fun hlt=>?_) (fun hge=>?_)
  rotate_left
  · have hge:k=v.size:=by simp at hge;omega
    subst hge
    simp only[EZ,ah,Nat.reduceAdd,Nat.reduceBEq,mP,fT]
    refine aq.val (by simp only[EO]) (ni _ _ _ _) ?_
    simp only[EZ,ah,Nat.reduceAdd,Nat.reduceBEq,mP]
    have:=Ai ht
    first|exact⟨rfl,by rw[this],rfl⟩|exact⟨rfl,by rw[this]⟩|rw[this]
  have hlt:k<v.size:=by simpa using hlt
  have ix:=fun s:St=>ko s hlt
  by_cases b1:(cQ v k:Int)<97
  · simp only[EZ,ah,Nat.reduceAdd,Nat.reduceBEq,mP,fN,ix,decide_eq_true b1]
    have:=rE hlt (by rw[decide_eq_false (show ¬97≤(cQ v k:Int)by omega),Bool.false_and])
    first|exact⟨rfl,by rw[this],rfl⟩|exact⟨rfl,by rw[this]⟩|rw[this]
  by_cases b2:122<(cQ v k:Int)
  · simp only[EZ,ah,Nat.reduceAdd,Nat.reduceBEq,mP,fN,ix,decide_eq_false b1,decide_eq_true b2]
    have:=rE hlt (by rw[decide_eq_false (show ¬(cQ v k:Int)≤122 by omega),Bool.and_false])
    first|exact⟨rfl,by rw[this],rfl⟩|exact⟨rfl,by rw[this]⟩|rw[this]
  simp only[EZ,ah,Nat.reduceAdd,Nat.reduceBEq,mP,fN,ix,decide_eq_false b1,decide_eq_false b2]
  exact⟨k+1,⟨hlt,fun i hik=>by
    rcases Nat.lt_or_ge i k with g|g
    · exact ht i g
    · have:i=k:=by omega
      subst this
      rw[decide_eq_true (show 97≤(cQ v i:Int)by omega),decide_eq_true (show(cQ v i:Int)≤122 by omega)];rfl⟩,by omega,⟨by rw[wN (by omega)];simp[vG,cj,ck],rfl,rfl⟩⟩
theorem vh(v:ByteArray):sK v=Ky v:=rfl
theorem Hk(n:Int)(h:AH):T Tryz.prog Γ Fn.vJ [.int .i64 n] h fun v h'=>v=.bool (iH n)∧h'=h:=by
  refine Rf (au aF mixed [] _ _ _ ?_)
  unfold Gy
  simp only[EZ,ah,Nat.reduceAdd,Nat.reduceBEq,AT]
  refine aq.val (by simp only[EO]) (ni n 0 7 h) ?_
  simp only[EZ,ah,Nat.reduceAdd,Nat.reduceBEq,AT]
  first|exact⟨rfl,rfl⟩|exact rfl|trivial
theorem Ub(x:aN)(h:AH):T Tryz.prog Γ Fn.P5 [.agg (x.c false)] h fun v h'=>v=.bool (vo x)∧h'=h:=by
  refine QT (au aF mixed [] _ _ _ ?_)
  unfold FH
  simp only[EZ,ah,Nat.reduceAdd,Nat.reduceBEq,r8,aN.c,bo,aE,ay]
  repeat' (first
    | (guard_target =~ aq _ _ Fn.vJ _ _ _;refine aq.val (by simp only[EO]) (Hk _ _) ?_;simp only[EZ,ah,Nat.reduceAdd,Nat.reduceBEq,r8,aN.c,bo,aE,ay])
    | (refine jU (fun hh=>?_) (fun hh=>?_)<;>simp only[EZ,ah,Nat.reduceAdd,Nat.reduceBEq,r8,hh,aN.c,bo,aE,ay])
    | (refine js (fun hh=>?_) (fun hh=>?_)<;>simp only[EZ,ah,Nat.reduceAdd,Nat.reduceBEq,r8,hh,aN.c,bo,aE,ay])
    | (refine ba (fun hh=>?_) (fun hh=>?_)<;>simp only[EZ,ah,Nat.reduceAdd,Nat.reduceBEq,r8,hh,aN.c,bo,aE,ay])
    | (first|(simp_all [vo,AI];done)|(simp_all [vo,AI];omega)))
end Go.Proofs.YtdlbaonelfcahaaGreatDoor
namespace Go.Proofs.YtdlbaonelfcahaaGreatDoor
open Go.AM
variable {Γ:bG}
set_option maxHeartbeats 16000000 in
set_option maxRecDepth 100000 in
theorem BO(x:aN)(hx:x.name.size≤1048576)(h:AH):T Tryz.prog Γ Fn.Rg [.agg (x.c false)] h fun v h'=>v=.bool (fM x)∧h'=h:=by
  have hn:=fun h=>Ba (Γ:=Γ) x.name hx h
  simp only[vh]at hn
  have h2:=fun h=>Ub (Γ:=Γ) x h
  simp only[aN.c]at h2
  refine PC (au aF mixed [] _ _ _ ?_)
  unfold JL
  simp only[EZ,ah,Nat.reduceAdd,Nat.reduceBEq,lF,aN.c,bo,aE,ay,bB]
  repeat' (first
    | (guard_target =~ aq _ _ Fn.vJ _ _ _;refine aq.val (by simp only[EO]) (Hk _ _) ?_;simp only[EZ,ah,Nat.reduceAdd,Nat.reduceBEq,lF,aN.c,bo,aE,ay,bB])
    | (guard_target =~ aq _ _ Fn.xq _ _ _;refine aq.val (by simp only[EO]) (ni _ _ _ _) ?_;simp only[EZ,ah,Nat.reduceAdd,Nat.reduceBEq,lF,aN.c,bo,aE,ay,bB])
    | (guard_target =~ aq _ _ Fn.Kd _ _ _;refine aq.val (by simp only[EO]) (hn _) ?_;simp only[EZ,ah,Nat.reduceAdd,Nat.reduceBEq,lF,aN.c,bo,aE,ay,bB])
    | (guard_target =~ aq _ _ Fn.P5 _ _ _;refine aq.val (by simp only[EO]) (h2 _) ?_;simp only[EZ,ah,Nat.reduceAdd,Nat.reduceBEq,lF,aN.c,bo,aE,ay,bB])
    | (refine jU (fun hh=>?_) (fun hh=>?_)<;>simp only[EZ,ah,Nat.reduceAdd,Nat.reduceBEq,lF,aN.c,bo,aE,ay,bB,hh])
    | (refine js (fun hh=>?_) (fun hh=>?_)<;>simp only[EZ,ah,Nat.reduceAdd,Nat.reduceBEq,lF,aN.c,bo,aE,ay,bB,hh])
    | (refine ba (fun hh=>?_) (fun hh=>?_)<;>simp only[EZ,ah,Nat.reduceAdd,Nat.reduceBEq,lF,aN.c,bo,aE,ay,bB,hh])
    | fail)
  all_goals first|(simp_all [fM,hZ,iH,wR,ku,AI,tb];done)|(simp_all [fM,hZ,iH,wR,ku,AI,tb];omega)|(simp_all [fM,hZ,iH,wR,ku,AI,tb];exact decide_eq_decide.2 Iff.rfl)
theorem pa(h:AH)(l:List ByteArray){n:Nat}(hn:l.length=n):bO (h++[some (0,(l.map fun n=>[AV.str n]).flatten)]) (.gs h.length 0 0 n n 1 true) (.sl 1 (l.map fun n=>[.s n])) [h.length]:=by
  subst hn
  have hl:∀(H:AH) (l:List ByteArray),aV H (l.map fun n=>[AV.str n]).flatten (l.map fun n=>[CD.s n]).flatten []:=fun H l=>by
    induction l with
    | nil=>exact .nil
    | cons a l ih=>exact .s ih
  have:=bO.sl_mk (h:=h++[some (0,(l.map fun n=>[AV.str n]).flatten)]) (b:=h.length) (g:=0) (cap:=l.length) (sz:=1) (ex:=true) (zas:=(l.map fun n=>[AV.str n]).flatten) (tail:=[]) (xs:=l.map fun n=>[CD.s n]) (fp:=[])
    (by rw[List.append_nil];exact bC _ _) (fun y hy=>by obtain⟨x,_,rfl⟩:=List.mem_map.1 hy;rfl) (by simp) (by simp) (hl _ l)
  simpa using this
theorem DG{H:AH}{w:AV}{fp:List Nat}{l:List ByteArray}(o:bO H w (.sl 1 (l.map fun n=>[.s n])) fp)(nd:fp.Nodup){k:Nat}(hk:k<l.length):∃p,cm 1 w (k:Int)=some p∧∀(e:List AV) (L:List (List AV)),(St.mk e L H).cells p 1=some [.str l[k]]:=by
  obtain⟨qb,g,pre,row,post,f,i1,m,lr,oR,_⟩:=o.DK nd (k:=k) (by simpa using hk)
  rw[List.getElem_map]at oR
  simp only[cT,cO,dM]at oR
  obtain⟨_,_,_,_,rfl,_,⟨rfl,_⟩,⟨rfl,_⟩⟩:=oR
  exact⟨_,i1,fun e L=>by rw[m.xt e L 1 (by simp)];rfl⟩
def wT(n:Int):ByteArray:=if 1≤n∧n≤10 then tb (iT n.toNat)else tb []
def opsL:List ByteArray:=(List.range 11).map fun k=>tb (iT k)
theorem Hb(n:Int)(h:AH):T Tryz.prog Γ Fn.Vp [.int .i64 n] h fun v h'=>v=.str (wT n)∧h'=h:=by
  refine T.text ?_
  have rp_11:∀z:AV,(List.replicate 11 [z]).flatten=[z,z,z,z,z,z,z,z,z,z,z]:=fun z=>rfl
  refine M6 (au aF mixed [] _ _ _ ?_)
  unfold Ju
  simp only[EZ,ah,Nat.reduceAdd,Nat.reduceBEq,we,EA]
  refine aq.val (by simp only[EO]) (ni n 1 10 _) ?_
  cases hr:ku n 1 10
  · simp only[EZ,ah,Nat.reduceAdd,Nat.reduceBEq,we,EA]
    have e:wT n=tb []:=by
      simp only[ku,Bool.and_eq_false_iff,decide_eq_false_iff_not]at hr
      unfold wT;rw[if_neg (by omega)]
    rw[e]
    first|exact⟨rfl,rfl,[],by simp⟩|exact⟨rfl,[],by simp⟩|exact⟨[],by simp⟩
  simp only[ku,Bool.and_eq_true,decide_eq_true_eq]at hr
  obtain⟨k,rfl⟩:∃k:Nat,n=k:=⟨n.toNat,by omega⟩
  have os:=pa h opsL (n:=11) rfl
  obtain⟨p,e1,e2⟩:=DG os (by simp) (k:=k) (by show k<11;omega)
  have eo:opsL[k]'(by show k<11;omega)=wT k:=by
    unfold wT;rw[if_pos (by omega)]
    simp[opsL]
  rw[eo]at e2
  simp only[EZ,ah,Nat.reduceAdd,Nat.reduceBEq,we,EA,rp_11]
  have e1':cm 1 (.gs h.length 0 0 11 11 1 true) (k:Int)=some p:=e1
  have e2':∀(e:List AV) (L:List (List AV)),(St.mk e L (h++[some (0,[.str ⟨#[]⟩,.str ⟨#[99,111,110,115,116]⟩,.str ⟨#[97,114,103]⟩,.str ⟨#[115,108,111,116]⟩,.str ⟨#[115,101,108,102]⟩,.str ⟨#[97,100,100]⟩,.str ⟨#[115,101,110,100]⟩,.str ⟨#[110,101,119]⟩,.str ⟨#[115,101,116]⟩,.str ⟨#[115,107,105,112]⟩,.str ⟨#[114,101,116,117,114,110]⟩])])).cells p 1=some [.str (wT k)]:=e2
  simp only[EZ,ah,Nat.reduceAdd,Nat.reduceBEq,we,EA,e1',e2']
  first|exact⟨rfl,rfl,_,rfl⟩|exact⟨rfl,_,rfl⟩|exact⟨_,rfl⟩
end Go.Proofs.YtdlbaonelfcahaaGreatDoor
namespace Go.Proofs.YtdlbaonelfcahaaGreatDoor
open Go.AM
variable {Γ:bG}
theorem il{a b:ByteArray}(ha:a.size≤4000000)(hb:b.size≤4000000):bU .add .num (.str a) (.str b)=some (.str (a++b)):=xW (by omega)
def eu:ByteArray:=⟨#[32]⟩
def cK(x:aN):ByteArray:=wT x.op++(eu++bp x.a)
def fY(x:aN)(s:ByteArray):ByteArray:=if x.c_ = -1 then s else s++eu++bp x.c_
def tailD(x:aN)(s:ByteArray):ByteArray:=if x.d = -1 then s else s++eu++bp x.d
def ig(x:aN):ByteArray:=
  if fM x=false then tb []
  else if x.op=4∨x.op=10 then cK x
  else if x.op=5 then cK x++(eu++bp x.b)++eu++bp x.c_
  else if x.op=6 then tailD x (fY x (cK x++(eu++bp x.b)++eu++x.name))
  else if x.op=7 then tailD x (fY x (cK x++eu++x.name))
  else cK x++(eu++bp x.b)
theorem wD(n:Int):(wT n).size≤6:=by
  unfold wT
  split
  · rename_i h
    obtain⟨k,rfl⟩:∃k:Nat,n=k:=⟨n.toNat,by omega⟩
    have hk:k<11:=by omega
    have:∀k,k<11→(tb (iT k)).size≤6:=by decide +kernel
    exact this k hk
  · exact Nat.zero_le _
set_option maxHeartbeats 16000000 in
set_option maxRecDepth 100000 in
theorem Gv(x:aN)(hx:x.name.size≤1000000)(ha:i64 x.a)(hb:i64 x.b)(hc:i64 x.c_)(hd:i64 x.d)(h:AH):T Tryz.prog Γ Fn.UW [.agg (x.c false)] h fun v h'=>v=.str (ig x)∧h'=h:=by
  have hi:=fun h=>BO (Γ:=Γ) x (by omega) h
  simp only[aN.c]at hi
  have zo:=wD x.op
  have za:=fH x.a ha
  have zb:=fH x.b hb
  have zc:=fH x.c_ hc
  have zd:=fH x.d hd
  have zs:eu.size=1:=rfl
  have q0:(⟨#[32]⟩:ByteArray)=eu:=rfl
  have f1:bU .add .num (.str eu) (.str (bp x.a))=some (.str (eu++bp x.a)):=il (by omega) (by omega)
  have f2:bU .add .num (.str eu) (.str (bp x.b))=some (.str (eu++bp x.b)):=il (by omega) (by omega)
  have s1:(eu++bp x.a).size≤30:=by rw[ByteArray.size_append];omega
  have s2:(eu++bp x.b).size≤30:=by rw[ByteArray.size_append];omega
  have f3:bU .add .num (.str (wT x.op)) (.str (eu++bp x.a))=some (.str (cK x)):=il (by omega) (by omega)
  have sh:(cK x).size≤40:=by unfold cK;rw[ByteArray.size_append];omega
  have f4:bU .add .num (.str (cK x)) (.str (eu++bp x.b))=some (.str (cK x++(eu++bp x.b))):=il (by omega) (by omega)
  have s4:(cK x++(eu++bp x.b)).size≤70:=by rw[ByteArray.size_append];omega
  have f5:bU .add .num (.str (cK x++(eu++bp x.b))) (.str eu)=some (.str (cK x++(eu++bp x.b)++eu)):=il (by omega) (by omega)
  have s5:(cK x++(eu++bp x.b)++eu).size≤71:=by rw[ByteArray.size_append];omega
  have f6:bU .add .num (.str (cK x++(eu++bp x.b)++eu)) (.str (bp x.c_))=some (.str (cK x++(eu++bp x.b)++eu++bp x.c_)):=il (by omega) (by omega)
  have f7:bU .add .num (.str (cK x++(eu++bp x.b)++eu)) (.str x.name)=some (.str (cK x++(eu++bp x.b)++eu++x.name)):=il (by omega) (by omega)
  have s7:(cK x++(eu++bp x.b)++eu++x.name).size≤1000100:=by rw[ByteArray.size_append];omega
  have g1:bU .add .num (.str (cK x)) (.str eu)=some (.str (cK x++eu)):=il (by omega) (by omega)
  have t1:(cK x++eu).size≤50:=by rw[ByteArray.size_append];omega
  have g2:bU .add .num (.str (cK x++eu)) (.str x.name)=some (.str (cK x++eu++x.name)):=il (by omega) (by omega)
  have t2:(cK x++eu++x.name).size≤1000100:=by rw[ByteArray.size_append];omega
  have T1:∀P:ByteArray,P.size≤1000100→bU .add .num (.str P) (.str eu)=some (.str (P++eu))∧bU .add .num (.str (P++eu)) (.str (bp x.c_))=some (.str (P++eu++bp x.c_))∧bU .add .num (.str (P++eu)) (.str (bp x.d))=some (.str (P++eu++bp x.d)):=fun P hP=>by
    have:(P++eu).size≤1000101:=by rw[ByteArray.size_append];omega
    exact⟨il (by omega) (by omega),il (by omega) (by omega),il (by omega) (by omega)⟩
  have T2:∀P:ByteArray,P.size≤1000100→bU .add .num (.str (P++eu++bp x.c_)) (.str eu)=some (.str (P++eu++bp x.c_++eu))∧bU .add .num (.str (P++eu++bp x.c_++eu)) (.str (bp x.d))=some (.str (P++eu++bp x.c_++eu++bp x.d)):=fun P hP=>by
    have a1:(P++eu++bp x.c_).size≤1000200:=by rw[ByteArray.size_append,ByteArray.size_append];omega
    have a2:(P++eu++bp x.c_++eu).size≤1000201:=by rw[ByteArray.size_append];omega
    exact⟨il (by omega) (by omega),il (by omega) (by omega)⟩
  obtain⟨u1,u2,u3⟩:=T1 _ s7
  obtain⟨u4,u5⟩:=T2 _ s7
  obtain⟨v1,v2,v3⟩:=T1 _ t2
  obtain⟨v4,v5⟩:=T2 _ t2
  refine T5 (au aF mixed [] _ _ _ ?_)
  unfold Fo
  simp only[EZ,ah,Nat.reduceAdd,Nat.reduceBEq,dN,aN.c,bo,aE,ay]
  refine aq.val (by simp only[EO]) (hi _) ?_
  cases hI:fM x
  · have e:ig x=tb []:=by unfold ig;rw[if_pos hI]
    rw[e]
    simp only[EZ,ah,Nat.reduceAdd,Nat.reduceBEq,dN,aN.c,bo,aE,ay]
    first|exact⟨rfl,rfl⟩|exact rfl|trivial
  have nI:¬fM x=false:=by rw[hI];simp
  simp only[EZ,ah,Nat.reduceAdd,Nat.reduceBEq,dN,aN.c,bo,aE,ay]
  refine aq.val (by simp only[EO]) (Hb _ _) ?_
  simp only[EZ,ah,Nat.reduceAdd,Nat.reduceBEq,dN,aN.c,bo,aE,ay]
  refine aq.val (by simp only[EO]) (jt _ ha _) ?_
  simp only[EZ,ah,Nat.reduceAdd,Nat.reduceBEq,dN,aN.c,bo,aE,ay,q0,f1]
  refine aq.val (by simp only[EO]) (jt _ hb _) ?_
  simp only[EZ,ah,Nat.reduceAdd,Nat.reduceBEq,dN,aN.c,bo,aE,ay,q0,f1,f2]
  have E0:ig x=if x.op=4∨x.op=10 then cK x
    else if x.op=5 then cK x++(eu++bp x.b)++eu++bp x.c_
    else if x.op=6 then tailD x (fY x (cK x++(eu++bp x.b)++eu++x.name))
    else if x.op=7 then tailD x (fY x (cK x++eu++x.name))
    else cK x++(eu++bp x.b):=by unfold ig;rw[if_neg nI]
  by_cases e4:x.op=4
  · rw[if_pos (Or.inl e4)]at E0
    rw[E0]
    simp only[EZ,ah,Nat.reduceAdd,Nat.reduceBEq,dN,aN.c,bo,aE,ay,decide_eq_true e4,f3]
    first|exact⟨rfl,rfl⟩|exact rfl|trivial
  by_cases e10:x.op=10
  · rw[if_pos (Or.inr e10)]at E0
    rw[E0]
    simp only[EZ,ah,Nat.reduceAdd,Nat.reduceBEq,dN,aN.c,bo,aE,ay,decide_eq_false e4,decide_eq_true e10,f3]
    first|exact⟨rfl,rfl⟩|exact rfl|trivial
  rw[if_neg (by omega)]at E0
  by_cases e5:x.op=5
  · rw[if_pos e5]at E0
    rw[E0]
    simp only[EZ,ah,Nat.reduceAdd,Nat.reduceBEq,dN,aN.c,bo,aE,ay,decide_eq_false e4,decide_eq_false e10,decide_eq_true e5,f3,f4,q0,f5]
    refine aq.val (by simp only[EO]) (jt _ hc _) ?_
    simp only[EZ,ah,Nat.reduceAdd,Nat.reduceBEq,dN,aN.c,bo,aE,ay,f6]
    first|exact⟨rfl,rfl⟩|exact rfl|trivial
  rw[if_neg e5]at E0
  by_cases e6:x.op=6
  · rw[if_pos e6]at E0
    rw[E0]
    by_cases ec:x.c_ = -1<;>by_cases ed:x.d = -1
    · unfold fY tailD
      rw[if_pos ec,if_pos ed]
      simp only[EZ,ah,Nat.reduceAdd,Nat.reduceBEq,dN,aN.c,bo,aE,ay,decide_eq_false e4,decide_eq_false e10,decide_eq_false e5,decide_eq_true e6,decide_eq_true ec,decide_eq_true ed,f3,f4,q0,f5,f7]
      first|exact⟨rfl,rfl⟩|exact rfl|trivial
    · unfold fY tailD
      rw[if_pos ec,if_neg ed]
      simp only[EZ,ah,Nat.reduceAdd,Nat.reduceBEq,dN,aN.c,bo,aE,ay,decide_eq_false e4,decide_eq_false e10,decide_eq_false e5,decide_eq_true e6,decide_eq_true ec,decide_eq_false ed,f3,f4,q0,f5,f7,u1]
      refine aq.val (by simp only[EO]) (jt _ hd _) ?_
      simp only[EZ,ah,Nat.reduceAdd,Nat.reduceBEq,dN,aN.c,bo,aE,ay,u3]
      first|exact⟨rfl,rfl⟩|exact rfl|trivial
    · unfold fY tailD
      rw[if_neg ec,if_pos ed]
      simp only[EZ,ah,Nat.reduceAdd,Nat.reduceBEq,dN,aN.c,bo,aE,ay,decide_eq_false e4,decide_eq_false e10,decide_eq_false e5,decide_eq_true e6,decide_eq_false ec,decide_eq_true ed,f3,f4,q0,f5,f7,u1]
      refine aq.val (by simp only[EO]) (jt _ hc _) ?_
      simp only[EZ,ah,Nat.reduceAdd,Nat.reduceBEq,dN,aN.c,bo,aE,ay,u2,decide_eq_true ed]
      first|exact⟨rfl,rfl⟩|exact rfl|trivial
    · unfold fY tailD
      rw[if_neg ec,if_neg ed]
      simp only[EZ,ah,Nat.reduceAdd,Nat.reduceBEq,dN,aN.c,bo,aE,ay,decide_eq_false e4,decide_eq_false e10,decide_eq_false e5,decide_eq_true e6,decide_eq_false ec,decide_eq_false ed,f3,f4,q0,f5,f7,u1]
      refine aq.val (by simp only[EO]) (jt _ hc _) ?_
      simp only[EZ,ah,Nat.reduceAdd,Nat.reduceBEq,dN,aN.c,bo,aE,ay,u2,decide_eq_false ed,q0,u4]
      refine aq.val (by simp only[EO]) (jt _ hd _) ?_
      simp only[EZ,ah,Nat.reduceAdd,Nat.reduceBEq,dN,aN.c,bo,aE,ay,u5]
      first|exact⟨rfl,rfl⟩|exact rfl|trivial
  rw[if_neg e6]at E0
  by_cases e7:x.op=7
  · rw[if_pos e7]at E0
    rw[E0]
    by_cases ec:x.c_ = -1<;>by_cases ed:x.d = -1
    · unfold fY tailD
      rw[if_pos ec,if_pos ed]
      simp only[EZ,ah,Nat.reduceAdd,Nat.reduceBEq,dN,aN.c,bo,aE,ay,decide_eq_false e4,decide_eq_false e10,decide_eq_false e5,decide_eq_false e6,decide_eq_true e7,decide_eq_true ec,decide_eq_true ed,f3,q0,g1,g2]
      first|exact⟨rfl,rfl⟩|exact rfl|trivial
    · unfold fY tailD
      rw[if_pos ec,if_neg ed]
      simp only[EZ,ah,Nat.reduceAdd,Nat.reduceBEq,dN,aN.c,bo,aE,ay,decide_eq_false e4,decide_eq_false e10,decide_eq_false e5,decide_eq_false e6,decide_eq_true e7,decide_eq_true ec,decide_eq_false ed,f3,q0,g1,g2,v1]
      refine aq.val (by simp only[EO]) (jt _ hd _) ?_
      simp only[EZ,ah,Nat.reduceAdd,Nat.reduceBEq,dN,aN.c,bo,aE,ay,v3]
      first|exact⟨rfl,rfl⟩|exact rfl|trivial
    · unfold fY tailD
      rw[if_neg ec,if_pos ed]
      simp only[EZ,ah,Nat.reduceAdd,Nat.reduceBEq,dN,aN.c,bo,aE,ay,decide_eq_false e4,decide_eq_false e10,decide_eq_false e5,decide_eq_false e6,decide_eq_true e7,decide_eq_false ec,decide_eq_true ed,f3,q0,g1,g2,v1]
      refine aq.val (by simp only[EO]) (jt _ hc _) ?_
      simp only[EZ,ah,Nat.reduceAdd,Nat.reduceBEq,dN,aN.c,bo,aE,ay,v2,decide_eq_true ed]
      first|exact⟨rfl,rfl⟩|exact rfl|trivial
    · unfold fY tailD
      rw[if_neg ec,if_neg ed]
      simp only[EZ,ah,Nat.reduceAdd,Nat.reduceBEq,dN,aN.c,bo,aE,ay,decide_eq_false e4,decide_eq_false e10,decide_eq_false e5,decide_eq_false e6,decide_eq_true e7,decide_eq_false ec,decide_eq_false ed,f3,q0,g1,g2,v1]
      refine aq.val (by simp only[EO]) (jt _ hc _) ?_
      simp only[EZ,ah,Nat.reduceAdd,Nat.reduceBEq,dN,aN.c,bo,aE,ay,v2,decide_eq_false ed,q0,v4]
      refine aq.val (by simp only[EO]) (jt _ hd _) ?_
      simp only[EZ,ah,Nat.reduceAdd,Nat.reduceBEq,dN,aN.c,bo,aE,ay,v5]
      first|exact⟨rfl,rfl⟩|exact rfl|trivial
  rw[if_neg e7]at E0
  rw[E0]
  simp only[EZ,ah,Nat.reduceAdd,Nat.reduceBEq,dN,aN.c,bo,aE,ay,decide_eq_false e4,decide_eq_false e10,decide_eq_false e5,decide_eq_false e6,decide_eq_false e7,f3,f4]
  first|exact⟨rfl,rfl⟩|exact rfl|trivial
end Go.Proofs.YtdlbaonelfcahaaGreatDoor
namespace Go.Proofs.YtdlbaonelfcahaaGreatDoor
open Go.AM
variable {Γ:bG}
def iw(l:List ByteArray):CD:=.sl 1 (l.map fun n=>[.s n])
theorem KI(s:St)(v:ByteArray){l h:Nat}(h1:l≤h)(h2:h≤v.size):oY .str s (.str v) (.int .i64 (l:Int)) (.int .i64 (h:Int))=.val (.str (v.extract l h)) s:=by
  simp[oY,jd,xA,eL,AR.eI,h1,h2]
def FO(b:UInt8)(l:Tx)(i:Nat)(done:List Tx)(fr:Nat):Prop:=
  i≤l.length+1∧(i≤l.length→fr≤i∧aU b (l.take i)=done++[(l.take i).drop fr])∧(i=l.length+1→done=aU b l)∧done.length≤i
theorem LL(b:UInt8)(l:Tx):FO b l 0 [] 0:=⟨by omega,fun _=>⟨by omega,by simp[aU]⟩,fun h=>by omega,by simp⟩
theorem D6{b:UInt8}{l:Tx}{i:Nat}{done:List Tx}{fr:Nat}(h:FO b l i done fr)(hi:i<l.length)(hb:l[i]=b):FO b l (i+1) (done++[(l.take i).drop fr]) (i+1):=by
  obtain⟨h1,h2,h3,h4⟩:=h
  obtain⟨g1,g2⟩:=h2 (by omega)
  refine⟨by omega,fun _=>⟨by omega,?_⟩,fun e=>by omega,by simp;omega⟩
  rw[mQ hi,g2,lN,if_pos hb]
  congr 2
  rw[List.drop_eq_nil_of_le (by simp;omega)]
theorem KA{b:UInt8}{l:Tx}{i:Nat}{done:List Tx}{fr:Nat}(h:FO b l i done fr)(hi:i<l.length)(hb:¬l[i]=b):FO b l (i+1) done fr:=by
  obtain⟨h1,h2,h3,h4⟩:=h
  obtain⟨g1,g2⟩:=h2 (by omega)
  refine⟨by omega,fun _=>⟨by omega,?_⟩,fun e=>by omega,by omega⟩
  rw[mQ hi,g2,lN,if_neg hb]
  rw[List.take_succ_eq_append_getElem hi,List.drop_append_of_le_length (by simp;omega)]
  simp
theorem Ej{b:UInt8}{l:Tx}{done:List Tx}{fr:Nat}(h:FO b l l.length done fr):FO b l (l.length+1) (done++[(l.take l.length).drop fr]) (l.length+1):=by
  obtain⟨h1,h2,h3,h4⟩:=h
  obtain⟨g1,g2⟩:=h2 (by omega)
  refine⟨by omega,fun e=>by omega,fun _=>?_,by simp;omega⟩
  rw[List.take_length]at g2 ⊢
  exact g2.symm
theorem Kt(l:Tx){i fr:Nat}:(tb l).extract fr i=tb ((l.take i).drop fr):=by
  apply ByteArray.ext
  simp[tb,ByteArray.data_extract,List.extract_eq_take_drop,List.drop_take]
theorem dV(l:Tx):(tb l).size=l.length:=gy l
theorem DA{l:Tx}{i:Nat}(hi:i<l.length):cQ (tb l) i=l[i].toNat:=byteAt_mk l i hi
theorem GO{a b:UInt8}:decide (((a.toNat:Nat):Int)=((b.toNat:Nat):Int))=decide (a=b):=by
  by_cases h:a=b
  · subst h;simp
  · rw[decide_eq_false h,decide_eq_false]
    intro e;exact h (UInt8.toNat_inj.1 (by omega))
set_option maxHeartbeats 16000000 in
theorem Gc(l:Tx)(hl:l.length≤4000)(b:UInt8)(h:AH):T Tryz.prog Γ Fn.UE [.str (tb l),.int .u8 (b.toNat:Nat)] h (bc h [.c (iw ((aU b l).map tb))]):=by
  have LS:fu true (.str (tb l))=some (.int .i64 l.length):=by rw[fT,dV]
  refine T.iI ?_
  refine No (au aF mixed [] _ _ _ ?_)
  unfold JA
  simp only[EZ,ah,Nat.reduceAdd,Nat.reduceBEq,o9,EA,LS]
  refine bD aF mixed [] (fun x:Nat×List Tx×Nat×AV×AH×List Nat=>FO b l x.1 x.2.1 x.2.2.1∧bO x.2.2.2.2.1 x.2.2.2.1 (iw (x.2.1.map tb)) x.2.2.2.2.2∧x.2.2.2.2.2.Nodup∧(∀c∈x.2.2.2.2.2,h.length≤c)∧∃N,x.2.2.2.2.1=h++N) (fun x=>l.length+1-x.1)
    (fun x=>mw (.str (tb l)) (.int .u8 (b.toNat:Nat)) x.2.2.2.1 (.int .i64 x.2.2.1) (.int .i64 x.1) [] x.2.2.2.2.1) (0,[],0,.gs h.length 0 0 0 0 1 true,h++[some (0,[])],[h.length]) ⟨LL b l,dQ h 1,by simp,by simp,_,rfl⟩ ⟨by simp[mw,cj,ck],rfl,rfl⟩ ?_
  rintro⟨k,done,fr,v,H,fp⟩ ⟨sI,ho,nd,hfp,N,hN⟩
  simp only at sI ho nd hfp hN
  subst hN
  simp only[EZ,ah,Nat.reduceAdd,Nat.reduceBEq,o9,mw,LS]
  refine ba (fun hlt=>?_) (fun hge=>?_)
  rotate_left
  · have hk:k=l.length+1:=by have:=sI.1;simp at hge;omega
    have:=sI.2.2.1 hk
    subst this
    simp only[EZ,ah,Nat.reduceAdd,Nat.reduceBEq,o9]
    exact⟨ho.cR,N,fp,rfl,ho,nd,hfp⟩
  have hlt:k≤l.length:=by simpa using hlt
  have hfr:=(sI.2.1 hlt).1
  have hdl:=sI.2.2.2
  have cs:=fun s=>KI s (tb l) hfr (by rw[dV];exact hlt)
  rw[Kt]at cs
  have app:=dz (bytes:=16) ho (ys:=[.str (tb ((l.take k).drop fr))]) (row:=[.s (tb ((l.take k).drop fr))]) (f2:=[]) (by simpa using nd) (by omega) rfl (.s .nil) (by simp only[List.length_map,aX];omega)
  obtain⟨v',H',fp',ea,o',nd',hf',hl',hm'⟩:=app
  obtain⟨N',rfl⟩:=vb hl' hf' hfp
  have hfp':∀c∈fp',h.length≤c:=fun c hc=>by
    rcases hm' c hc with g|g|g
    · exact hfp c g
    · simp at g
    · simp at g;omega
  by_cases hk:k=l.length
  · subst hk
    simp only[EZ,ah,Nat.reduceAdd,Nat.reduceBEq,o9,LS,aE,ay,decide_true,EA,EB,cs,ea]
    exact⟨(l.length+1,done++[(l.take l.length).drop fr],l.length+1,v',h++N',fp'),⟨Ej sI,by simpa[iw]using o',nd',hfp',N',rfl⟩,by simp only;omega,⟨by rw[wN (by omega)];simp[mw,cj,ck],rfl,rfl⟩⟩
  have hk':k<l.length:=by omega
  have nk:¬((k:Int)=(l.length:Int)):=by omega
  have ix:=fun s:St=>ko s (v:=tb l) (k:=k) (by rw[dV];exact hk')
  rw[DA hk']at ix
  by_cases hb:l[k]=b
  · simp only[EZ,ah,Nat.reduceAdd,Nat.reduceBEq,o9,LS,aE,ay,decide_eq_false nk,fN,ix,GO,decide_eq_true hb,EA,EB,cs,ea]
    exact⟨(k+1,done++[(l.take k).drop fr],k+1,v',h++N',fp'),⟨D6 sI hk' hb,by simpa[iw]using o',nd',hfp',N',rfl⟩,by simp only;omega,⟨by rw[wN (by omega)];simp[mw,cj,ck],rfl,rfl⟩⟩
  · simp only[EZ,ah,Nat.reduceAdd,Nat.reduceBEq,o9,LS,aE,ay,decide_eq_false nk,fN,ix,GO,decide_eq_false hb]
    exact⟨(k+1,done,fr,v,h++N,fp),⟨KA sI hk' hb,ho,nd,hfp,N,rfl⟩,by simp only;omega,⟨by rw[wN (by omega)];simp[mw,cj,ck],rfl,rfl⟩⟩
end Go.Proofs.YtdlbaonelfcahaaGreatDoor
namespace Go.Proofs.YtdlbaonelfcahaaGreatDoor
open Go.AM
variable {Γ:bG}
theorem Ew:∀k,k<10→mg [UInt8.ofNat (48+k)]=some k:=by decide +kernel
theorem BB{w:Tx}(h:wh w=true):jR (tb w)=mg w:=by
  match w,h with
  | [],h=>cases h
  | c::r,h=>
    simp only[wh,Bool.or_eq_true,Bool.and_eq_true,decide_eq_true_eq]at h
    rcases h with⟨⟨rfl,h1⟩,h2⟩|h
    · obtain⟨k,hk,rfl⟩:∃k,k<10∧c=UInt8.ofNat (48+k):=⟨c.toNat-48,by omega,by rw[show 48+(c.toNat-48)=c.toNat by omega];simp⟩
      rw[Ew k hk]
      have e:tb [UInt8.ofNat (48+k)]=bp (k:Int):=by
        apply ByteArray.ext;apply Array.ext'
        rw[eK,dX hk];rfl
      rw[e,nV (by omega)]
    · rw[show jR (tb (c::r))=none from nu (fun n hn e=>by
        have e:=iy (l:=c::r) e
        obtain⟨d,r',e2,h1,h2⟩:=j6 n
        rw[e2]at e
        injection e with e3 e4
        subst e3;omega)]
      have hf:(c::r).all (fun c=>decide (48≤c.toNat) && decide (c.toNat≤57))=false:=by
        rw[List.all_cons,decide_eq_false (show ¬c.toNat≤57 by omega),Bool.and_false,Bool.false_and]
      unfold mg
      simp only[hf,Bool.false_and,Bool.false_eq_true,if_false]
theorem M3(w:Tx)(hw:w.length≤1000)(h:AH):T Tryz.prog Γ Fn.VF [.str (tb w)] h fun v h'=>v=.int .i64 (kt w)∧h'=h:=by
  refine Mq (au aF mixed [] _ _ _ ?_)
  unfold EE
  simp only[EZ,ah,Nat.reduceAdd,Nat.reduceBEq,pF]
  refine bD aF mixed [] (fun k:Nat=>1≤k∧k≤11∧∀j,1≤j→j<k→iT j≠w) (fun k=>11-k)
    (fun k=>uk (.str (tb w)) (.int .i64 k) ([]:List (List AV)) h) 1 ⟨by omega,by omega,fun j h1 h2=>by omega⟩ ⟨by simp[uk,cj,ck],rfl,rfl⟩ ?_
  rintro k ⟨h1,h2,hb⟩
  simp only[EZ,ah,Nat.reduceAdd,Nat.reduceBEq,pF,uk]
  refine ba (fun hlt=>?_) (fun hge=>?_)
  rotate_left
  · have:k=11:=by simp at hge;omega
    subst this
    have e:=zY hb
    simp only[EZ,ah,Nat.reduceAdd,Nat.reduceBEq,pF]
    rw[e]
    first|exact⟨rfl,rfl⟩|exact rfl
  have hlt:k≤10:=by simp at hlt;omega
  simp only[EZ,ah,Nat.reduceAdd,Nat.reduceBEq,pF]
  refine aq.val (by simp only[EO]) (Hb _ _) ?_
  have eo:wT (k:Int)=tb (iT k):=by unfold wT;rw[if_pos (by omega)];simp
  by_cases hk:iT k=w
  · have e:=Er h1 hlt hb hk
    simp only[EZ,ah,Nat.reduceAdd,Nat.reduceBEq,pF,bo,bB,eo,wz,decide_eq_true hk]
    rw[e]
    first|exact⟨rfl,rfl⟩|exact rfl
  · simp only[EZ,ah,Nat.reduceAdd,Nat.reduceBEq,pF,bo,bB,eo,wz,decide_eq_false hk]
    exact⟨k+1,⟨by omega,by omega,fun j a b=>by
      rcases Nat.lt_or_ge j k with g|g
      · exact hb j a g
      · have:j=k:=by omega
        subst this;exact hk⟩,by omega,⟨by rw[wN (by omega)];simp[uk,cj,ck],rfl,rfl⟩⟩
theorem R6(ws:List Tx)(hws:∀w∈ws,wh w=true)(hl:ws.length≤1000)(i:Nat)(hi:i≤1000)(h:AH):T Tryz.prog Γ Fn.Da [.vs false 1 false (ws.map fun w=>[.str (tb w)]),.int .i64 i] h fun v h'=>v=.int .i64 (dA ws i)∧h'=h:=by
  have L0:=bH false 1 false ws fun w=>[AV.str (tb w)]
  have i0:=fun hk=>bW (β:=false) (sz:=1) (ex:=false) (l:=ws) (ce:=fun w=>[AV.str (tb w)]) (k:=i) hk
  generalize e0:AV.vs false 1 false (ws.map fun w=>[AV.str (tb w)])=a0 at *
  refine Oy (au aF mixed [] _ _ _ ?_)
  unfold JR
  simp only[EZ,ah,Nat.reduceAdd,Nat.reduceBEq,ta,L0]
  refine ba (fun hge=>?_) (fun hlt=>?_)
  · have hge:ws.length≤i:=by simp at hge;omega
    have e:=Cy hge
    simp only[EZ,ah,Nat.reduceAdd,Nat.reduceBEq,ta]
    rw[e]
    first|exact⟨rfl,rfl⟩|exact rfl
  have hlt:i<ws.length:=by simp at hlt;omega
  have i1:=i0 hlt
  have ew:ws[i]? = some ws[i]:=List.getElem?_eq_getElem hlt
  have pw:=BB (hws ws[i] (List.getElem_mem hlt))
  simp only[EZ,ah,Nat.reduceAdd,Nat.reduceBEq,ta,i1]
  refine aq.val (by simp only[EO]) (RB ws[i] _) ?_
  have ep:KK ⟨ws[i].toArray⟩=.tup [.int .i64 (((mg ws[i]).getD 0:Nat):Int),.bool (mg ws[i]).isSome]:=by rw[KK,show(⟨ws[i].toArray⟩:ByteArray)=tb ws[i] from rfl,pw]
  rw[ep]
  cases en:mg ws[i]with
  | none=>
    have e:dA ws i = -1:=by unfold dA;rw[ew];simp only[en]
    simp only[EZ,ah,Nat.reduceAdd,Nat.reduceBEq,ta,ER,Option.isSome_none,Option.getD_none]
    rw[e]
    first|exact⟨rfl,rfl⟩|exact rfl
  | some n=>
    have e:dA ws i=n:=by unfold dA;rw[ew];simp only[en]
    simp only[EZ,ah,Nat.reduceAdd,Nat.reduceBEq,ta,ER,Option.isSome_some,Option.getD_some]
    rw[e]
    first|exact⟨rfl,rfl⟩|exact rfl
theorem iz{s:Tx}(hs:s∈bZ):s.length≤40∧my (bM s)=true∧fM (bM s).D=true∧jq (bM s)=s∧jQ (bM s).a=true∧jQ (bM s).b=true∧((bM s).c = -1∨jQ (bM s).c=true)∧((bM s).d = -1∨jQ (bM s).d=true)∧1≤(bM s).op∧(bM s).op≤10∧(bM s).name.length≤6∧∀w∈aU 32 s,wh w=true:=by
  have:=List.all_eq_true.1 B1 s hs
  simpa only[Bool.and_eq_true,Bool.or_eq_true,decide_eq_true_eq,List.all_eq_true]using this
theorem qK{n:Int}(h:jQ n=true):bp n=tb (iO n):=by
  simp only[jQ,Bool.and_eq_true,decide_eq_true_eq]at h
  obtain⟨k,rfl⟩:∃k:Nat,n=k:=⟨n.toNat,by omega⟩
  have hk:k<10:=by omega
  apply ByteArray.ext;apply Array.ext'
  rw[eK,dX hk]
  unfold iO
  rw[if_neg (by omega)]
  unfold CZ
  rw[show(k:Int).natAbs=k by omega,if_pos hk];rfl
theorem BM{n:Int}(h0:1≤n)(h1:n≤10):wT n=tb (iT n.toNat):=by unfold wT;rw[if_pos ⟨h0,h1⟩]
theorem xe{s:Tx}(hs:s∈bZ):ig (bM s).D=tb s:=by
  obtain⟨_,h1,h2,h3,h4,h5,h6,h7,h8,h9,_,_⟩:=iz hs
  generalize bM s=x at *
  have n2:¬fM x.D=false:=by rw[h2];simp
  have n1:¬my x=false:=by rw[h1];simp
  have e1:eu=tb [32]:=rfl
  have eh:cK x.D=tb (iT x.op.toNat++sp (iO x.a)):=by
    unfold cK;rw[show x.D.op=x.op from rfl,show x.D.a=x.a from rfl,BM h8 h9,qK h4,e1,db,db];rfl
  have eb:eu++bp x.D.b=tb (sp (iO x.b)):=by rw[show x.D.b=x.b from rfl,qK h5,e1,db];rfl
  have tc:∀u:Tx,fY x.D (tb u)=tb (if x.c = -1 then u else u++sp (iO x.c)):=fun u=>by
    unfold fY;rw[show x.D.c_=x.c from rfl]
    by_cases hc:x.c = -1
    · rw[if_pos hc,if_pos hc]
    · rw[if_neg hc,if_neg hc,qK (h6.resolve_left hc),e1,db,db,List.append_assoc];rfl
  have td:∀u:Tx,tailD x.D (tb u)=tb (if x.d = -1 then u else u++sp (iO x.d)):=fun u=>by
    unfold tailD;rw[show x.D.d=x.d from rfl]
    by_cases hc:x.d = -1
    · rw[if_pos hc,if_pos hc]
    · rw[if_neg hc,if_neg hc,qK (h7.resolve_left hc),e1,db,db,List.append_assoc];rfl
  have h6':x.op=5→jQ x.c=true:=fun e5=>by
    rcases h6 with q|q
    · exfalso
      have:=h1
      unfold my at this
      rw[if_neg (by omega),if_neg (by omega),if_neg (by omega),if_neg (by omega),if_pos e5]at this
      simp[kH,q]at this
    · exact q
  rw[←h3]
  unfold ig jq
  rw[if_neg n2,if_neg n1,show x.D.op=x.op from rfl,show x.D.name=tb x.name from rfl,eh,eb]
  by_cases c1:x.op=4∨x.op=10
  · rw[if_pos c1,if_pos c1]
  rw[if_neg c1,if_neg c1]
  by_cases c2:x.op=5
  · rw[if_pos c2,if_pos c2,show x.D.c_=x.c from rfl,qK (h6' c2),e1,db,db,db];congr 1;simp[sp]
  rw[if_neg c2,if_neg c2]
  by_cases c3:x.op=6
  · rw[if_pos c3,if_pos c3,e1,db,db,db,tc,td];congr 1;simp[sp]
  rw[if_neg c3,if_neg c3]
  by_cases c4:x.op=7
  · rw[if_pos c4,if_pos c4,e1,db,db,tc,td];congr 1;simp[sp]
  rw[if_neg c4,if_neg c4,db]
end Go.Proofs.YtdlbaonelfcahaaGreatDoor
namespace Go.Proofs.YtdlbaonelfcahaaGreatDoor
open Go.AM
variable {Γ:bG}
def bI(x:bJ):List AV:=[.int .i64 x.op,.int .i64 x.a,.int .i64 x.b,.int .i64 x.c,.int .i64 x.d,.str (tb x.name)]
theorem VN{s:Tx}{ws:List Tx}(e:aU 32 s=ws){op:Int}(eo:(kt (ws.headD []):Int)=op):bM s =
  if op=4∨op=10 then ⟨op,dA ws 1,0,0,0,[]⟩
  else if op=5 then ⟨op,dA ws 1,dA ws 2,dA ws 3,0,[]⟩
  else if op=6 then ⟨op,dA ws 1,dA ws 2,dA ws 4,dA ws 5,ws.getD 3 []⟩
  else if op=7 then ⟨op,dA ws 1,0,dA ws 3,dA ws 4,ws.getD 2 []⟩
  else ⟨op,dA ws 1,dA ws 2,0,0,[]⟩:=by
  subst e;subst eo
  unfold bM J2
  simp only[]
  generalize kt ((aU 32 s).headD [])=n
  simp only[show((n:Int)=4)=(n=4) from propext (by omega),show((n:Int)=10)=(n=10) from propext (by omega),show((n:Int)=5)=(n=5) from propext (by omega),show((n:Int)=6)=(n=6) from propext (by omega),show((n:Int)=7)=(n=7) from propext (by omega)]
set_option maxHeartbeats 32000000 in
set_option maxRecDepth 100000 in
theorem Qh{s:Tx}(hs:s∈bZ)(h:AH):T Tryz.prog Γ Fn.Wt [.str (tb s)] h fun v h'=>v=.tup [.agg (bI (bM s)),.bool true]∧h'=h:=by
  obtain⟨k1,k2,k3,k4,k5,k6,k7,k8,k9,k10,k11,k12⟩:=iz hs
  have hf:=xe hs
  have d64:∀n:Int,(n = -1∨jQ n=true)→i64 n:=fun n h=>by
    rcases h with rfl|h
    · exact⟨by omega,by omega⟩
    · simp only[jQ,Bool.and_eq_true,decide_eq_true_eq]at h;exact⟨by omega,by omega⟩
  have nl6:(bM s).D.name.size≤6:=by rw[show(bM s).D.name=tb (bM s).name from rfl,dV];exact k11
  have hi:=fun h=>BO (Γ:=Γ) (bM s).D (by omega) h
  have hfm:=fun h=>Gv (Γ:=Γ) (bM s).D (by omega) (d64 _ (.inr k5)) (d64 _ (.inr k6)) (d64 _ k7) (d64 _ k8) h
  rw[k3]at hi
  rw[hf]at hfm
  simp only[aN.c,bJ.D]at hi hfm
  have hsp:=fun h=>T.J4 (Gc (Γ:=Γ) s (by omega) 32 h)
  simp only[iw,uE]at hsp
  have wsl:(aU 32 s).length≤1000:=by
    have:bZ.all (fun s=>decide ((aU 32 s).length≤10) && decide (((aU 32 s).headD []).length≤10))=true:=by decide +kernel
    have:=List.all_eq_true.1 this s hs
    simp only[Bool.and_eq_true,decide_eq_true_eq]at this;omega
  have w0l:((aU 32 s).headD []).length≤1000:=by
    have:bZ.all (fun s=>decide ((aU 32 s).length≤10) && decide (((aU 32 s).headD []).length≤10))=true:=by decide +kernel
    have:=List.all_eq_true.1 this s hs
    simp only[Bool.and_eq_true,decide_eq_true_eq]at this;omega
  have hne:=kf 32 s
  have hr:=@VN s _ rfl _ rfl
  generalize aU 32 s=ws at *
  have hnum:=fun i hi h=>R6 (Γ:=Γ) ws k12 wsl i hi h
  have hn1:=fun h=>hnum 1 (by omega) h
  have hn2:=fun h=>hnum 2 (by omega) h
  have hn3:=fun h=>hnum 3 (by omega) h
  have hn4:=fun h=>hnum 4 (by omega) h
  have hn5:=fun h=>hnum 5 (by omega) h
  simp only[show((1:Nat):Int)=1 from rfl,show((2:Nat):Int)=2 from rfl,show((3:Nat):Int)=3 from rfl,show((4:Nat):Int)=4 from rfl,show((5:Nat):Int)=5 from rfl]at hn1 hn2 hn3 hn4 hn5
  have L0:=bH false 1 false ws fun w=>[AV.str (tb w)]
  have i0:=fun(k:Nat) hk=>bW (β:=false) (sz:=1) (ex:=false) (l:=ws) (ce:=fun w=>[AV.str (tb w)]) (k:=k) hk
  have hop:=fun h=>M3 (Γ:=Γ) (ws.headD []) w0l h
  have i00:cm 1 (.vs false 1 false (ws.map fun w=>[.str (tb w)])) 0=some (.ip false [.str (tb (ws.headD []))]):=by
    cases ws with
    | nil=>exact absurd rfl hne
    | cons a l=>rfl
  have i3:3<ws.length→cm 1 (.vs false 1 false (ws.map fun w=>[.str (tb w)])) 3=some (.ip false [.str (tb (ws.getD 3 []))]):=fun hl=>by
    rw[List.getD_eq_getElem?_getD,List.getElem?_eq_getElem hl,Option.getD_some];exact i0 3 hl
  have i2:2<ws.length→cm 1 (.vs false 1 false (ws.map fun w=>[.str (tb w)])) 2=some (.ip false [.str (tb (ws.getD 2 []))]):=fun hl=>by
    rw[List.getD_eq_getElem?_getD,List.getElem?_eq_getElem hl,Option.getD_some];exact i0 2 hl
  have g3:¬3<ws.length→ws.getD 3 []=[]:=fun hl=>by rw[List.getD_eq_getElem?_getD,List.getElem?_eq_none (by omega)];rfl
  have g2:¬2<ws.length→ws.getD 2 []=[]:=fun hl=>by rw[List.getD_eq_getElem?_getD,List.getElem?_eq_none (by omega)];rfl
  have ot:bX (AV.vs false 1 false (ws.map fun w=>[AV.str (tb w)]))=true:=rfl
  generalize e0:AV.vs false 1 false (ws.map fun w=>[AV.str (tb w)])=a0 at *
  have tn:(⟨#[]⟩:ByteArray)=tb []:=rfl
  refine Lv (au aF mixed [] _ _ _ ?_)
  unfold Gi
  simp only[EZ,ah,Nat.reduceAdd,Nat.reduceBEq,cI]
  refine aq.val (by simp only[EO]) (hsp _) ?_
  simp only[EZ,ah,Nat.reduceAdd,Nat.reduceBEq,cI,i00]
  refine aq.val (by simp only[EO]) (hop _) ?_
  simp only[EZ,ah,Nat.reduceAdd,Nat.reduceBEq,cI]
  refine aq.val (by simp only[EO,ot]) (hn1 _) ?_
  generalize (kt (ws.headD []):Int)=op at *
  simp only[EZ,ah,Nat.reduceAdd,Nat.reduceBEq,cI,bo,aE,ay]
  by_cases e4:op=4
  · rw[if_pos (Or.inl e4)]at hr
    rw[hr]at hi hfm ⊢
    simp only[bI]at hi hfm ⊢
    simp only[EZ,ah,Nat.reduceAdd,Nat.reduceBEq,cI,EB,bo,aE,ay,decide_eq_true e4,tn]
    refine aq.val (by simp only[EO]) (hi _) ?_
    simp only[EZ,ah,Nat.reduceAdd,Nat.reduceBEq,cI,EB,bo,aE,ay]
    refine aq.val (by simp only[EO]) (hfm _) ?_
    simp only[EZ,ah,Nat.reduceAdd,Nat.reduceBEq,cI,ER,EB,bo,aE,ay,bB,decide_true]
    first|exact⟨rfl,rfl⟩|exact rfl
  by_cases e10:op=10
  · rw[if_pos (Or.inr e10)]at hr
    rw[hr]at hi hfm ⊢
    simp only[bI]at hi hfm ⊢
    simp only[EZ,ah,Nat.reduceAdd,Nat.reduceBEq,cI,EB,bo,aE,ay,decide_eq_false e4,decide_eq_true e10,tn]
    refine aq.val (by simp only[EO]) (hi _) ?_
    simp only[EZ,ah,Nat.reduceAdd,Nat.reduceBEq,cI,EB,bo,aE,ay]
    refine aq.val (by simp only[EO]) (hfm _) ?_
    simp only[EZ,ah,Nat.reduceAdd,Nat.reduceBEq,cI,ER,EB,bo,aE,ay,bB,decide_true]
    first|exact⟨rfl,rfl⟩|exact rfl
  rw[if_neg (by omega)]at hr
  by_cases e5:op=5
  · rw[if_pos e5]at hr
    rw[hr]at hi hfm ⊢
    simp only[bI]at hi hfm ⊢
    simp only[EZ,ah,Nat.reduceAdd,Nat.reduceBEq,cI,EB,bo,aE,ay,decide_eq_false e4,decide_eq_false e10,decide_eq_true e5,tn]
    refine aq.val (by simp only[EO,ot]) (hn2 _) ?_
    simp only[EZ,ah,Nat.reduceAdd,Nat.reduceBEq,cI,EB,bo,aE,ay,tn,decide_eq_false e4,decide_eq_false e10,decide_eq_true e5,L0]
    refine aq.val (by simp only[EO,ot]) (hn3 _) ?_
    simp only[EZ,ah,Nat.reduceAdd,Nat.reduceBEq,cI,EB,bo,aE,ay,tn,decide_eq_false e4,decide_eq_false e10,decide_eq_true e5,L0]
    refine aq.val (by simp only[EO]) (hi _) ?_
    simp only[EZ,ah,Nat.reduceAdd,Nat.reduceBEq,cI,EB,bo,aE,ay]
    refine aq.val (by simp only[EO]) (hfm _) ?_
    simp only[EZ,ah,Nat.reduceAdd,Nat.reduceBEq,cI,ER,EB,bo,aE,ay,bB,decide_true]
    first|exact⟨rfl,rfl⟩|exact rfl
  rw[if_neg e5]at hr
  by_cases e6:op=6
  · rw[if_pos e6]at hr
    rw[hr]at hi hfm ⊢
    simp only[bI]at hi hfm ⊢
    simp only[EZ,ah,Nat.reduceAdd,Nat.reduceBEq,cI,EB,bo,aE,ay,decide_eq_false e4,decide_eq_false e10,decide_eq_false e5,decide_eq_true e6,tn]
    refine aq.val (by simp only[EO,ot]) (hn2 _) ?_
    simp only[EZ,ah,Nat.reduceAdd,Nat.reduceBEq,cI,EB,bo,aE,ay,tn,decide_eq_false e4,decide_eq_false e10,decide_eq_false e5,decide_eq_true e6,L0]
    refine aq.val (by simp only[EO,ot]) (hn4 _) ?_
    simp only[EZ,ah,Nat.reduceAdd,Nat.reduceBEq,cI,EB,bo,aE,ay,tn,decide_eq_false e4,decide_eq_false e10,decide_eq_false e5,decide_eq_true e6,L0]
    refine aq.val (by simp only[EO,ot]) (hn5 _) ?_
    simp only[EZ,ah,Nat.reduceAdd,Nat.reduceBEq,cI,EB,bo,aE,ay,tn,decide_eq_false e4,decide_eq_false e10,decide_eq_false e5,decide_eq_true e6,L0]
    by_cases hl:3<ws.length
    · have hl':((ws.length:Nat):Int)>3:=by omega
      simp only[EZ,ah,Nat.reduceAdd,Nat.reduceBEq,cI,EB,bo,aE,ay,tn,decide_eq_false e4,decide_eq_false e10,decide_eq_false e5,decide_eq_true e6,L0,decide_eq_true hl',i3 hl]
      refine aq.val (by simp only[EO]) (hi _) ?_
      simp only[EZ,ah,Nat.reduceAdd,Nat.reduceBEq,cI,EB,bo,aE,ay]
      refine aq.val (by simp only[EO]) (hfm _) ?_
      simp only[EZ,ah,Nat.reduceAdd,Nat.reduceBEq,cI,ER,EB,bo,aE,ay,bB,decide_true]
      first|exact⟨rfl,rfl⟩|exact rfl
    · have hl':¬((ws.length:Nat):Int)>3:=by omega
      rw[g3 hl]at hi hfm ⊢
      simp only[EZ,ah,Nat.reduceAdd,Nat.reduceBEq,cI,EB,bo,aE,ay,tn,decide_eq_false e4,decide_eq_false e10,decide_eq_false e5,decide_eq_true e6,L0,decide_eq_false hl']
      refine aq.val (by simp only[EO]) (hi _) ?_
      simp only[EZ,ah,Nat.reduceAdd,Nat.reduceBEq,cI,EB,bo,aE,ay]
      refine aq.val (by simp only[EO]) (hfm _) ?_
      simp only[EZ,ah,Nat.reduceAdd,Nat.reduceBEq,cI,ER,EB,bo,aE,ay,bB,decide_true]
      first|exact⟨rfl,rfl⟩|exact rfl
  rw[if_neg e6]at hr
  by_cases e7:op=7
  · rw[if_pos e7]at hr
    rw[hr]at hi hfm ⊢
    simp only[bI]at hi hfm ⊢
    simp only[EZ,ah,Nat.reduceAdd,Nat.reduceBEq,cI,EB,bo,aE,ay,decide_eq_false e4,decide_eq_false e10,decide_eq_false e5,decide_eq_false e6,decide_eq_true e7,tn]
    refine aq.val (by simp only[EO,ot]) (hn3 _) ?_
    simp only[EZ,ah,Nat.reduceAdd,Nat.reduceBEq,cI,EB,bo,aE,ay,tn,decide_eq_false e4,decide_eq_false e10,decide_eq_false e5,decide_eq_false e6,decide_eq_true e7,L0]
    refine aq.val (by simp only[EO,ot]) (hn4 _) ?_
    simp only[EZ,ah,Nat.reduceAdd,Nat.reduceBEq,cI,EB,bo,aE,ay,tn,decide_eq_false e4,decide_eq_false e10,decide_eq_false e5,decide_eq_false e6,decide_eq_true e7,L0]
    by_cases hl:2<ws.length
    · have hl':((ws.length:Nat):Int)>2:=by omega
      simp only[EZ,ah,Nat.reduceAdd,Nat.reduceBEq,cI,EB,bo,aE,ay,tn,decide_eq_false e4,decide_eq_false e10,decide_eq_false e5,decide_eq_false e6,decide_eq_true e7,L0,decide_eq_true hl',i2 hl]
      refine aq.val (by simp only[EO]) (hi _) ?_
      simp only[EZ,ah,Nat.reduceAdd,Nat.reduceBEq,cI,EB,bo,aE,ay]
      refine aq.val (by simp only[EO]) (hfm _) ?_
      simp only[EZ,ah,Nat.reduceAdd,Nat.reduceBEq,cI,ER,EB,bo,aE,ay,bB,decide_true]
      first|exact⟨rfl,rfl⟩|exact rfl
    · have hl':¬((ws.length:Nat):Int)>2:=by omega
      rw[g2 hl]at hi hfm ⊢
      simp only[EZ,ah,Nat.reduceAdd,Nat.reduceBEq,cI,EB,bo,aE,ay,tn,decide_eq_false e4,decide_eq_false e10,decide_eq_false e5,decide_eq_false e6,decide_eq_true e7,L0,decide_eq_false hl']
      refine aq.val (by simp only[EO]) (hi _) ?_
      simp only[EZ,ah,Nat.reduceAdd,Nat.reduceBEq,cI,EB,bo,aE,ay]
      refine aq.val (by simp only[EO]) (hfm _) ?_
      simp only[EZ,ah,Nat.reduceAdd,Nat.reduceBEq,cI,ER,EB,bo,aE,ay,bB,decide_true]
      first|exact⟨rfl,rfl⟩|exact rfl
  rw[if_neg e7]at hr
  rw[hr]at hi hfm ⊢
  simp only[bI]at hi hfm ⊢
  simp only[EZ,ah,Nat.reduceAdd,Nat.reduceBEq,cI,EB,bo,aE,ay,decide_eq_false e4,decide_eq_false e10,decide_eq_false e5,decide_eq_false e6,decide_eq_false e7,tn]
  refine aq.val (by simp only[EO,ot]) (hn2 _) ?_
  simp only[EZ,ah,Nat.reduceAdd,Nat.reduceBEq,cI,EB,bo,aE,ay,tn,decide_eq_false e4,decide_eq_false e10,decide_eq_false e5,decide_eq_false e6,decide_eq_false e7,L0]
  refine aq.val (by simp only[EO]) (hi _) ?_
  simp only[EZ,ah,Nat.reduceAdd,Nat.reduceBEq,cI,EB,bo,aE,ay]
  refine aq.val (by simp only[EO]) (hfm _) ?_
  simp only[EZ,ah,Nat.reduceAdd,Nat.reduceBEq,cI,ER,EB,bo,aE,ay,bB,decide_true]
  first|exact⟨rfl,rfl⟩|exact rfl
end Go.Proofs.YtdlbaonelfcahaaGreatDoor
