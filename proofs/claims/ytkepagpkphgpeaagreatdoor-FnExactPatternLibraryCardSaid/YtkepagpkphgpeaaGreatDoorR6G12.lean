import Derived.Test.YtkepagpkphgpeaaGreatDoorCodePatternLibrary
import Derived.Test.YtkepagpkphgpeaaGreatDoorAmG8
import Derived.Test.YtkepagpkphgpeaaGreatDoorAmG9
import Derived.Lib.ItoaLen
import Derived.Lib.Atoi
set_option linter.unusedVariables false
set_option linter.unusedSimpArgs false
namespace Go.Proofs.YtkepagpkphgpeaaGreatDoor
open Go.AM
variable {Γ:aZ}
def iS(n lo hi:Int):Bool:=decide (lo≤n) && decide (n≤hi)
theorem oJ(n lo hi:Int)(h:AH):T Tryz.prog Γ Fn.uF [.int .i64 n,.int .i64 lo,.int .i64 hi] h fun v h'=>v=.bool (iS n lo hi)∧h'=h:=by
  refine Gw (ax aB mixed [] _ _ _ ?_)
  unfold zh
  simp only[EZ,ag,Nat.reduceAdd,Nat.reduceBEq,u7]
  refine jb (fun h1=>?_) (fun h1=>?_)<;>simp only[EZ,ag,Nat.reduceAdd,Nat.reduceBEq,u7,h1]
  · exact⟨rfl,by simp only[iS,h1,Bool.true_and]⟩
  · exact⟨rfl,by simp only[iS,h1,Bool.false_and]⟩
abbrev i64(n:Int):Prop:=-9223372036854775808≤n∧n≤9223372036854775807
theorem gv(n:Int)(hn:i64 n)(h:AH):T Tryz.prog Γ Fn.ze [.int .i64 n] h fun v h'=>v=.str (aF n)∧h'=h:=by
  refine T.text ?_
  refine Ia (ax aB mixed [] _ _ _ ?_)
  unfold Ai
  simp only[EZ,ag,Nat.reduceAdd,Nat.reduceBEq,gL]
  refine aR (fun h0=>?_) (fun h0=>?_)
  · have:n=0:=by simpa using h0
    subst this
    simp only[EZ,ag,Nat.reduceAdd,Nat.reduceBEq,gL]
    exact⟨rfl,by rw[show aF 0=⟨#[48]⟩by simp[aF,Lib.itoa,cM]],[],by simp⟩
  have h0:n≠0:=by simpa using h0
  simp only[EZ,ag,Nat.reduceAdd,Nat.reduceBEq,gL]
  refine bU aB mixed [] (fun y:Int×List UInt8×AH=>i64 y.1∧y.2.1.length≤30∧mH y.1.natAbs++y.2.1=Lib.decDigits n.natAbs∧∃N,y.2.2=h++N) (fun y=>y.1.natAbs)
    (fun y=>lF (.int .i64 n) (.str ⟨y.2.1.toArray⟩) (.int .i64 y.1) [] y.2.2) (n,[],h) ⟨hn,by simp,by simp[mH];omega,[],by simp⟩ ⟨by simp[lF,cG,cI],rfl,rfl⟩ ?_
  rintro⟨x,l,H⟩ ⟨hx,hl,hd,N,rfl⟩
  simp only at hx hl hd
  simp only[EZ,ag,Nat.reduceAdd,Nat.reduceBEq,gL,lF,EA,tu,kh,kz]
  refine aR (fun hx0=>?_) (fun hx0=>?_)
  · have hx0:x≠0:=by simpa using hx0
    have e:=xL x (by omega)
    have e2:=xO x
    have e3:i64 (x.tdiv 10):=by
      have:(x.tdiv 10).natAbs≤x.natAbs:=by rw[e2];omega
      omega
    have hs:=oZ (u:=x.natAbs) (by omega)
    have fin:∀H',(∃N,H'=h++N)→∃y:Int×List UInt8×AH,(i64 y.1∧y.2.1.length≤30∧mH y.1.natAbs++y.2.1=Lib.decDigits n.natAbs∧∃N,y.2.2=h++N)∧y.1.natAbs<x.natAbs∧y=(x.tdiv 10,UInt8.ofNat (48+x.natAbs % 10)::l,H'):=fun H' hH=>
      ⟨_,⟨e3,by
        have:((mH x.natAbs)++l).length≤20:=by rw[hd];exact fR (k:=20) (by omega) (by omega)
        rw[hs]at this
        simp at this ⊢;omega,by simp only;rw[e2,←hd,hs];simp,hH⟩,by simp only;rw[e2];omega,rfl⟩
    have w3:IntKind.i64.wrap (48+((x.natAbs % 10:Nat):Int))=((48+x.natAbs % 10:Nat):Int):=by rw[aY (by omega) (by omega)];omega
    have w4:IntKind.u8.wrap ((48+x.natAbs % 10:Nat):Int)=((48+x.natAbs % 10:Nat):Int):=by rw[wq];omega
    have w5:IntKind.i64.wrap (x.tdiv 10)=x.tdiv 10:=aY e3.1 (by omega)
    have sa:bg .add .num (.str ⟨#[UInt8.ofNat (48+x.natAbs % 10)]⟩) (.str ⟨l.toArray⟩)=some (.str ⟨(UInt8.ofNat (48+x.natAbs % 10)::l).toArray⟩):=by
      have:=sG (a:=⟨[UInt8.ofNat (48+x.natAbs % 10)].toArray⟩) (b:=⟨l.toArray⟩) (by rw[dR,dR];simp;omega)
      rw[By]at this
      exact this
    have cv:∀(e:List AV) (L:List (List AV)) (H:AH),((St.mk e L (H++[some (0,[.int .u8 ((48+x.natAbs % 10:Nat):Int)])])).aE 1 (.gs H.length 0 0 1 1 1 true)).bind bz=some [UInt8.ofNat (48+x.natAbs % 10)]:=fun e L H=>by
      rw[yg];rfl
    simp only[EZ,ag,Nat.reduceAdd,Nat.reduceBEq,gL,EA,tu,kh,kz]
    refine aR (fun hn0=>?_) (fun hn0=>?_)
    · have hn0:x.tmod 10<0:=by simpa using hn0
      have w1:IntKind.i64.wrap (0-x.tmod 10)=((x.natAbs % 10:Nat):Int):=by rw[aY (by omega) (by omega)];omega
      simp only[EZ,ag,Nat.reduceAdd,Nat.reduceBEq,gL,EA,tu,kh,kz,w1,w3,l9,w4,w5,tD,cv,Option.map_some,sa]
      obtain⟨y,y1,y2,rfl⟩:=fin (h++N++[some (0,[.int .u8 ((48+x.natAbs % 10:Nat):Int)])]) ⟨N++[some (0,[.int .u8 ((48+x.natAbs % 10:Nat):Int)])],by simp⟩
      exact⟨_,y1,y2,⟨by simp[lF,cG,cI],rfl,rfl⟩⟩
    · have hn0:¬x.tmod 10<0:=by simpa using hn0
      have w1:x.tmod 10=((x.natAbs % 10:Nat):Int):=by omega
      simp only[EZ,ag,Nat.reduceAdd,Nat.reduceBEq,gL,EA,tu,kh,kz,w1,w3,l9,w4,w5,tD,cv,Option.map_some,sa]
      obtain⟨y,y1,y2,rfl⟩:=fin (h++N++[some (0,[.int .u8 ((48+x.natAbs % 10:Nat):Int)])]) ⟨N++[some (0,[.int .u8 ((48+x.natAbs % 10:Nat):Int)])],by simp⟩
      exact⟨_,y1,y2,⟨by simp[lF,cG,cI],rfl,rfl⟩⟩
  have hx0:x=0:=by simpa using hx0
  subst hx0
  have hd:l=Lib.decDigits n.natAbs:=by simpa[mH]using hd
  subst hd
  simp only[EZ,ag,Nat.reduceAdd,Nat.reduceBEq,gL]
  refine aR (fun hn0=>?_) (fun hn0=>?_)
  · have hn0:n<0:=by simpa using hn0
    have sa:bg .add .num (.str ⟨#[45]⟩) (.str ⟨(Lib.decDigits n.natAbs).toArray⟩)=some (.str (aF n)):=by
      have:=sG (a:=⟨[45].toArray⟩) (b:=⟨(Lib.decDigits n.natAbs).toArray⟩) (by rw[dR,dR];simp;omega)
      rw[By]at this
      rw[this,aF,Lib.itoa,if_pos hn0];rfl
    simp only[EZ,ag,Nat.reduceAdd,Nat.reduceBEq,gL,sa]
    exact⟨rfl,N,rfl⟩
  · have hn0:¬n<0:=by simpa using hn0
    simp only[EZ,ag,Nat.reduceAdd,Nat.reduceBEq,gL]
    refine⟨rfl,?_,N,rfl⟩
    rw[aF,Lib.itoa,if_neg hn0,show n.toNat=n.natAbs by omega]
theorem dt(n:Int)(hn:i64 n):(aF n).size≤21:=by
  rw[aF,dR];exact Lib.itoa_length_le n hn.1 hn.2
noncomputable def Dp(s:ByteArray):AV:=.tup [.int .i64 (((gx s).getD 0:Nat):Int),.bool (gx s).isSome]
theorem u0{n:Nat}(h:n≤1000000000000):Dp (aF n)=.tup [.int .i64 n,.bool true]:=by rw[Dp,j6 h];rfl
theorem jc{s:ByteArray}(h:∀n:Nat,n≤1000000000000→s≠aF n):Dp s=.tup [.int .i64 0,.bool false]:=by rw[Dp,jW h];rfl
theorem byteAt_mk(l:List UInt8)(k:Nat)(hk:k<l.length):bP ⟨l.toArray⟩ k=l[k].toNat:=by
  simp[bP,List.getD_eq_getElem?_getD,hk]
theorem fo{l:List UInt8}{n:Nat}(hl:(⟨l.toArray⟩:ByteArray)=aF n):l=Lib.decDigits n:=by
  have:=congrArg (fun b:ByteArray=>b.data.toList) hl
  simpa[dd]using this
theorem FI(l:List UInt8)(h:AH):T Tryz.prog Γ Fn.Jd [.str ⟨l.toArray⟩] h fun v h'=>v=Dp ⟨l.toArray⟩∧h'=h:=by
  have LS:gq true (.str ⟨l.toArray⟩)=some (.int .i64 l.length):=by rw[dA,dR]
  refine FN (ax aB mixed [] _ _ _ ?_)
  unfold zn
  simp only[EZ,ag,Nat.reduceAdd,Nat.reduceBEq,fI,ER,LS]
  refine an.val (by simp only[EO]) (oJ _ _ _ _) ?_
  cases e1:iS (l.length:Int) 1 13
  · simp only[EZ,ag,Nat.reduceAdd,Nat.reduceBEq,fI,ER]
    rw[jc (fun m hm e=>by
      have e:=fo e
      have h1:=fR (u:=m) (k:=13) (by omega) (by omega)
      obtain⟨c,r,e2,_⟩:=gJ m
      rw[←e]at h1 e2
      rw[e2]at e1 h1
      simp[iS]at e1 h1
      omega)]
    first|exact⟨rfl,rfl⟩|exact rfl
  have hl:1≤l.length∧l.length≤13:=by simp[iS]at e1;omega
  simp only[EZ,ag,Nat.reduceAdd,Nat.reduceBEq,fI,ER]
  refine bU aB mixed [] (fun y:Nat×Nat=>y.1≤l.length∧Lib.decFrom 0 (l.take y.1)=some y.2∧y.2<10 ^ y.1) (fun y=>l.length-y.1)
    (fun y=>gF (.str ⟨l.toArray⟩) (.int .i64 y.2) (.int .i64 y.1) [] h) (0,0) ⟨by simp,rfl,by simp⟩ ⟨by simp[gF,cG,cI],rfl,rfl⟩ ?_
  rintro⟨k,m⟩ ⟨hk,hd,hm⟩
  simp only at hk hd hm
  have hm13:m<10000000000000:=Nat.lt_of_lt_of_le hm (by
    have:=Nat.pow_le_pow_right (n:=10) (by omega) (show k≤13 by omega)
    omega)
  simp only[EZ,ag,Nat.reduceAdd,Nat.reduceBEq,fI,ER,gF,LS]
  refine aR (fun hlt=>?_) (fun hge=>?_)
  · have hlt:k<l.length:=by simpa using hlt
    have ib:=fun s:St=>gU s (v:=⟨l.toArray⟩) (k:=k) (by rw[dR];exact hlt)
    rw[byteAt_mk l k hlt]at ib
    obtain⟨c,hc⟩:∃c,c=l[k]:=⟨_,rfl⟩
    have hck:l[k]? = some c:=by rw[hc];exact List.getElem?_eq_getElem hlt
    rw[←hc]at ib
    have hc256:=c.toNat_lt
    have w1:IntKind.i64.wrap (c.toNat:Int)=c.toNat:=aY (by omega) (by omega)
    simp only[EZ,ag,Nat.reduceAdd,Nat.reduceBEq,fI,ER,gF,LS,dx,ib,l9,w1]
    refine an.val (by simp only[EO]) (oJ _ _ _ _) ?_
    cases e2:iS (c.toNat:Int) 48 57
    · simp only[EZ,ag,Nat.reduceAdd,Nat.reduceBEq,fI,ER,gF,LS,dx,ib,l9,w1]
      rw[jc (fun n hn e=>by
        have e:=fo e
        obtain⟨d,hd⟩:=Lib.digit_of_decFrom l 0 n (by rw[e];exact cW n) k c hck
        unfold Lib.digitVal at hd
        split at hd
        · rename_i hh
          simp[iS]at e2;omega
        · cases hd)]
      first|exact⟨rfl,rfl⟩|exact rfl
    · have hdg:48≤c.toNat∧c.toNat≤57:=by simp[iS]at e2;omega
      have w2:IntKind.u8.wrap ((c.toNat:Int)-48)=((c.toNat-48:Nat):Int):=by
        rw[show((c.toNat:Int)-48)=((c.toNat-48:Nat):Int)by omega,wq,Nat.mod_eq_of_lt (by omega)]
      have w3:IntKind.i64.wrap ((c.toNat-48:Nat):Int)=((c.toNat-48:Nat):Int):=aY (by omega) (by omega)
      have w4:IntKind.i64.wrap (10*(m:Int))=((m*10:Nat):Int):=by rw[aY (by omega) (by omega)];omega
      have w5:IntKind.i64.wrap (((m*10:Nat):Int)+((c.toNat-48:Nat):Int))=((m*10+(c.toNat-48):Nat):Int):=by rw[aY (by omega) (by omega)];omega
      simp only[EZ,ag,Nat.reduceAdd,Nat.reduceBEq,fI,ER,gF,LS,dx,ib,l9,w1,w2,w3,w4,w5]
      exact⟨(k+1,m*10+(c.toNat-48)),⟨hlt,Lib.decFrom_take l k 0 m c _ hd hck (by rw[Lib.digitVal,if_pos hdg]),by
        simp only;rw[Nat.pow_succ];omega⟩,by simp only;omega,⟨by rw[wN (by omega)];simp[gF,cG,cI],rfl,rfl⟩⟩
  have hge:k=l.length:=by simp at hge;omega
  subst hge
  rw[List.take_length]at hd
  have no:∀n:Nat,n≤1000000000000→¬(m≤1000000000000∧aF m=⟨l.toArray⟩)→(⟨l.toArray⟩:ByteArray)≠aF n:=fun n hn hx e=>by
    have e':=fo e
    rw[e',cW]at hd
    obtain rfl:=Option.some.inj hd
    exact hx ⟨hn,e.symm⟩
  simp only[EZ,ag,Nat.reduceAdd,Nat.reduceBEq,fI,ER,gF,LS]
  by_cases h1:(m:Int)>1000000000000
  · simp only[EZ,ag,Nat.reduceAdd,Nat.reduceBEq,fI,ER,decide_eq_true h1]
    rw[jc (fun n hn=>no n hn (fun h=>by omega))]
    first|exact⟨rfl,rfl⟩|exact rfl
  simp only[EZ,ag,Nat.reduceAdd,Nat.reduceBEq,fI,ER,decide_eq_false h1]
  refine an.val (by simp only[EO]) (gv m ⟨by omega,by omega⟩ _) ?_
  by_cases h2:aF m=⟨l.toArray⟩
  · simp only[EZ,ag,Nat.reduceAdd,Nat.reduceBEq,fI,ER,decide_eq_false h1,aQ,decide_eq_true h2]
    rw[←h2,u0 (by omega)]
    first|exact⟨rfl,rfl⟩|exact rfl
  · simp only[EZ,ag,Nat.reduceAdd,Nat.reduceBEq,fI,ER,decide_eq_false h1,aQ,decide_eq_false h2]
    rw[jc (fun n hn=>no n hn (fun h=>h2 h.2))]
    first|exact⟨rfl,rfl⟩|exact rfl
end Go.Proofs.YtkepagpkphgpeaaGreatDoor
namespace Go.Proofs.YtkepagpkphgpeaaGreatDoor
open Go.AM
variable {Γ:aZ}
theorem zH(b:Bool):fO (.bool b)=true:=rfl
def na(v:ByteArray):Bool:=iS v.size 1 6 && (List.range v.size).all fun k=>decide (97≤(bP v k:Int)) && decide ((bP v k:Int)≤122)
theorem mZ{v:ByteArray}{k:Nat}(hk:k<v.size)(h:(decide (97≤(bP v k:Int)) && decide ((bP v k:Int)≤122))=false):na v=false:=by
  have:(List.range v.size).all (fun k=>decide (97≤(bP v k:Int)) && decide ((bP v k:Int)≤122))=false:=by
    rw[Bool.eq_false_iff];intro hh
    have:=List.all_eq_true.1 hh k (List.mem_range.2 hk)
    rw[h]at this;cases this
  rw[na,this,Bool.and_false]
theorem um{v:ByteArray}(h:∀k,k<v.size→(decide (97≤(bP v k:Int)) && decide ((bP v k:Int)≤122))=true):na v=iS v.size 1 6:=by
  have:(List.range v.size).all (fun k=>decide (97≤(bP v k:Int)) && decide ((bP v k:Int)≤122))=true:=List.all_eq_true.2 fun k hk=>h k (List.mem_range.1 hk)
  rw[na,this,Bool.and_true]
theorem wS(v:ByteArray)(hv:v.size≤1048576)(h:AH):T Tryz.prog Γ Fn.Dm [.str v] h fun r h'=>r=.bool (na v)∧h'=h:=by
  refine DV (ax aB mixed [] _ _ _ ?_)
  unfold AI
  simp only[EZ,ag,Nat.reduceAdd,Nat.reduceBEq,jU]
  refine bU aB mixed [] (fun k:Nat=>k≤v.size∧∀i,i<k→(decide (97≤(bP v i:Int)) && decide ((bP v i:Int)≤122))=true) (fun k=>v.size-k)
    (fun k=>qs (.str v) (.int .i64 k) ([]:List (List AV)) h) 0 ⟨by omega,fun i h=>by omega⟩ ⟨by simp[qs,cG,cI],rfl,rfl⟩ ?_
  rintro k ⟨hk,ht⟩
  simp only[EZ,ag,Nat.reduceAdd,Nat.reduceBEq,jU,qs,dA]
  refine aR (fun hlt=>?_) (fun hge=>?_)
  rotate_left
  · have hge:k=v.size:=by simp at hge;omega
    subst hge
    simp only[EZ,ag,Nat.reduceAdd,Nat.reduceBEq,jU,dA]
    refine an.val (by simp only[EO]) (oJ _ _ _ _) ?_
    simp only[EZ,ag,Nat.reduceAdd,Nat.reduceBEq,jU]
    have:=um ht
    first|exact⟨rfl,by rw[this],rfl⟩|exact⟨rfl,by rw[this]⟩|rw[this]
  have hlt:k<v.size:=by simpa using hlt
  have ix:=fun s:St=>gU s hlt
  by_cases b1:(bP v k:Int)<97
  · simp only[EZ,ag,Nat.reduceAdd,Nat.reduceBEq,jU,dx,ix,decide_eq_true b1]
    have:=mZ hlt (by rw[decide_eq_false (show ¬97≤(bP v k:Int)by omega),Bool.false_and])
    first|exact⟨rfl,by rw[this],rfl⟩|exact⟨rfl,by rw[this]⟩|rw[this]
  by_cases b2:122<(bP v k:Int)
  · simp only[EZ,ag,Nat.reduceAdd,Nat.reduceBEq,jU,dx,ix,decide_eq_false b1,decide_eq_true b2]
    have:=mZ hlt (by rw[decide_eq_false (show ¬(bP v k:Int)≤122 by omega),Bool.and_false])
    first|exact⟨rfl,by rw[this],rfl⟩|exact⟨rfl,by rw[this]⟩|rw[this]
  simp only[EZ,ag,Nat.reduceAdd,Nat.reduceBEq,jU,dx,ix,decide_eq_false b1,decide_eq_false b2]
  exact⟨k+1,⟨hlt,fun i hik=>by
    rcases Nat.lt_or_ge i k with g|g
    · exact ht i g
    · have:i=k:=by omega
      subst this
      rw[decide_eq_true (show 97≤(bP v i:Int)by omega),decide_eq_true (show(bP v i:Int)≤122 by omega)];rfl⟩,by omega,⟨by rw[wN (by omega)];simp[qs,cG,cI],rfl,rfl⟩⟩
theorem qc(v:ByteArray):na v=Cq v:=rfl
theorem BY(n:Int)(h:AH):T Tryz.prog Γ Fn.qv [.int .i64 n] h fun v h'=>v=.bool (fB n)∧h'=h:=by
  refine Hr (ax aB mixed [] _ _ _ ?_)
  unfold BS
  simp only[EZ,ag,Nat.reduceAdd,Nat.reduceBEq,wJ]
  refine an.val (by simp only[EO]) (oJ n 0 7 h) ?_
  simp only[EZ,ag,Nat.reduceAdd,Nat.reduceBEq,wJ]
  first|exact⟨rfl,rfl⟩|exact rfl|trivial
theorem GQ(x:aj)(h:AH):T Tryz.prog Γ Fn.Dy [.agg (x.c false)] h fun v h'=>v=.bool (pU x)∧h'=h:=by
  refine FO (ax aB mixed [] _ _ _ ?_)
  unfold AT
  simp only[EZ,ag,Nat.reduceAdd,Nat.reduceBEq,oX,aj.c,aT,ak,aq]
  repeat' (first
    | (guard_target =~ an _ _ Fn.qv _ _ _;refine an.val (by simp only[EO]) (BY _ _) ?_;simp only[EZ,ag,Nat.reduceAdd,Nat.reduceBEq,oX,aj.c,aT,ak,aq])
    | (refine kZ (fun hh=>?_) (fun hh=>?_)<;>simp only[EZ,ag,Nat.reduceAdd,Nat.reduceBEq,oX,hh,aj.c,aT,ak,aq])
    | (refine jb (fun hh=>?_) (fun hh=>?_)<;>simp only[EZ,ag,Nat.reduceAdd,Nat.reduceBEq,oX,hh,aj.c,aT,ak,aq])
    | (refine aR (fun hh=>?_) (fun hh=>?_)<;>simp only[EZ,ag,Nat.reduceAdd,Nat.reduceBEq,oX,hh,aj.c,aT,ak,aq])
    | (first|(simp_all [pU,zH];done)|(simp_all [pU,zH];omega)))
end Go.Proofs.YtkepagpkphgpeaaGreatDoor
namespace Go.Proofs.YtkepagpkphgpeaaGreatDoor
open Go.AM
variable {Γ:aZ}
set_option maxHeartbeats 16000000 in
set_option maxRecDepth 100000 in
theorem vE(x:aj)(hx:x.name.size≤1048576)(h:AH):T Tryz.prog Γ Fn.EN [.agg (x.c false)] h fun v h'=>v=.bool (dz x)∧h'=h:=by
  have hn:=fun h=>wS (Γ:=Γ) x.name hx h
  simp only[qc]at hn
  have h2:=fun h=>GQ (Γ:=Γ) x h
  simp only[aj.c]at h2
  refine Hz (ax aB mixed [] _ _ _ ?_)
  unfold BT
  simp only[EZ,ag,Nat.reduceAdd,Nat.reduceBEq,iY,aj.c,aT,ak,aq,aQ]
  repeat' (first
    | (guard_target =~ an _ _ Fn.qv _ _ _;refine an.val (by simp only[EO]) (BY _ _) ?_;simp only[EZ,ag,Nat.reduceAdd,Nat.reduceBEq,iY,aj.c,aT,ak,aq,aQ])
    | (guard_target =~ an _ _ Fn.uF _ _ _;refine an.val (by simp only[EO]) (oJ _ _ _ _) ?_;simp only[EZ,ag,Nat.reduceAdd,Nat.reduceBEq,iY,aj.c,aT,ak,aq,aQ])
    | (guard_target =~ an _ _ Fn.Dm _ _ _;refine an.val (by simp only[EO]) (hn _) ?_;simp only[EZ,ag,Nat.reduceAdd,Nat.reduceBEq,iY,aj.c,aT,ak,aq,aQ])
    | (guard_target =~ an _ _ Fn.Dy _ _ _;refine an.val (by simp only[EO]) (h2 _) ?_;simp only[EZ,ag,Nat.reduceAdd,Nat.reduceBEq,iY,aj.c,aT,ak,aq,aQ])
    | (refine kZ (fun hh=>?_) (fun hh=>?_)<;>simp only[EZ,ag,Nat.reduceAdd,Nat.reduceBEq,iY,aj.c,aT,ak,aq,aQ,hh])
    | (refine jb (fun hh=>?_) (fun hh=>?_)<;>simp only[EZ,ag,Nat.reduceAdd,Nat.reduceBEq,iY,aj.c,aT,ak,aq,aQ,hh])
    | (refine aR (fun hh=>?_) (fun hh=>?_)<;>simp only[EZ,ag,Nat.reduceAdd,Nat.reduceBEq,iY,aj.c,aT,ak,aq,aQ,hh])
    | fail)
  all_goals first|(simp_all [dz,eH,fB,qx,iS,zH,tb];done)|(simp_all [dz,eH,fB,qx,iS,zH,tb];omega)|(simp_all [dz,eH,fB,qx,iS,zH,tb];exact decide_eq_decide.2 Iff.rfl)
theorem lv(h:AH)(l:List ByteArray){n:Nat}(hn:l.length=n):bM (h++[some (0,(l.map fun n=>[AV.str n]).flatten)]) (.gs h.length 0 0 n n 1 true) (.sl 1 (l.map fun n=>[.s n])) [h.length]:=by
  subst hn
  have hl:∀(H:AH) (l:List ByteArray),aJ H (l.map fun n=>[AV.str n]).flatten (l.map fun n=>[CD.s n]).flatten []:=fun H l=>by
    induction l with
    | nil=>exact .nil
    | cons a l ih=>exact .s ih
  have:=bM.sl_mk (h:=h++[some (0,(l.map fun n=>[AV.str n]).flatten)]) (b:=h.length) (g:=0) (cap:=l.length) (sz:=1) (ex:=true) («as»:=(l.map fun n=>[AV.str n]).flatten) (tail:=[]) (xs:=l.map fun n=>[CD.s n]) (fp:=[])
    (by rw[List.append_nil];exact bx _ _) (fun y hy=>by obtain⟨x,_,rfl⟩:=List.mem_map.1 hy;rfl) (by simp) (by simp) (hl _ l)
  simpa using this
theorem yP{H:AH}{w:AV}{fp:List Nat}{l:List ByteArray}(o:bM H w (.sl 1 (l.map fun n=>[.s n])) fp)(nd:fp.Nodup){k:Nat}(hk:k<l.length):∃p,bN 1 w (k:Int)=some p∧∀(e:List AV) (L:List (List AV)),(St.mk e L H).cells p 1=some [.str l[k]]:=by
  obtain⟨qb,g,pre,row,post,f,i1,m,lr,oR,_⟩:=o.yI nd (k:=k) (by simpa using hk)
  rw[List.getElem_map]at oR
  simp only[l7,jA,mb]at oR
  obtain⟨_,_,_,_,rfl,_,⟨rfl,_⟩,⟨rfl,_⟩⟩:=oR
  exact⟨_,i1,fun e L=>by rw[m.sH e L 1 (by simp)];rfl⟩
def qG(n:Int):ByteArray:=if 1≤n∧n≤10 then tb (fU n.toNat)else tb []
def opsL:List ByteArray:=(List.range 11).map fun k=>tb (fU k)
theorem BA(n:Int)(h:AH):T Tryz.prog Γ Fn.Is [.int .i64 n] h fun v h'=>v=.str (qG n)∧h'=h:=by
  refine T.text ?_
  have rp_11:∀z:AV,(List.replicate 11 [z]).flatten=[z,z,z,z,z,z,z,z,z,z,z]:=fun z=>rfl
  refine Fe (ax aB mixed [] _ _ _ ?_)
  unfold A3
  simp only[EZ,ag,Nat.reduceAdd,Nat.reduceBEq,qK,EA]
  refine an.val (by simp only[EO]) (oJ n 1 10 _) ?_
  cases hr:iS n 1 10
  · simp only[EZ,ag,Nat.reduceAdd,Nat.reduceBEq,qK,EA]
    have e:qG n=tb []:=by
      simp only[iS,Bool.and_eq_false_iff,decide_eq_false_iff_not]at hr
      unfold qG;rw[if_neg (by omega)]
    rw[e]
    first|exact⟨rfl,rfl,[],by simp⟩|exact⟨rfl,[],by simp⟩|exact⟨[],by simp⟩
  simp only[iS,Bool.and_eq_true,decide_eq_true_eq]at hr
  obtain⟨k,rfl⟩:∃k:Nat,n=k:=⟨n.toNat,by omega⟩
  have os:=lv h opsL (n:=11) rfl
  obtain⟨p,e1,e2⟩:=yP os (by simp) (k:=k) (by show k<11;omega)
  have eo:opsL[k]'(by show k<11;omega)=qG k:=by
    unfold qG;rw[if_pos (by omega)]
    simp[opsL]
  rw[eo]at e2
  simp only[EZ,ag,Nat.reduceAdd,Nat.reduceBEq,qK,EA,rp_11]
  have e1':bN 1 (.gs h.length 0 0 11 11 1 true) (k:Int)=some p:=e1
  have e2':∀(e:List AV) (L:List (List AV)),(St.mk e L (h++[some (0,[.str ⟨#[]⟩,.str ⟨#[99,111,110,115,116]⟩,.str ⟨#[97,114,103]⟩,.str ⟨#[115,108,111,116]⟩,.str ⟨#[115,101,108,102]⟩,.str ⟨#[97,100,100]⟩,.str ⟨#[115,101,110,100]⟩,.str ⟨#[110,101,119]⟩,.str ⟨#[115,101,116]⟩,.str ⟨#[115,107,105,112]⟩,.str ⟨#[114,101,116,117,114,110]⟩])])).cells p 1=some [.str (qG k)]:=e2
  simp only[EZ,ag,Nat.reduceAdd,Nat.reduceBEq,qK,EA,e1',e2']
  first|exact⟨rfl,rfl,_,rfl⟩|exact⟨rfl,_,rfl⟩|exact⟨_,rfl⟩
end Go.Proofs.YtkepagpkphgpeaaGreatDoor
namespace Go.Proofs.YtkepagpkphgpeaaGreatDoor
open Go.AM
variable {Γ:aZ}
theorem eY{a b:ByteArray}(ha:a.size≤4000000)(hb:b.size≤4000000):bg .add .num (.str a) (.str b)=some (.str (a++b)):=sG (by omega)
def cQ:ByteArray:=⟨#[32]⟩
def bJ(x:aj):ByteArray:=qG x.op++(cQ++aF x.a)
def dG(x:aj)(s:ByteArray):ByteArray:=if x.c_ = -1 then s else s++cQ++aF x.c_
def tailD(x:aj)(s:ByteArray):ByteArray:=if x.d = -1 then s else s++cQ++aF x.d
def eE(x:aj):ByteArray:=
  if dz x=false then tb []
  else if x.op=4∨x.op=10 then bJ x
  else if x.op=5 then bJ x++(cQ++aF x.b)++cQ++aF x.c_
  else if x.op=6 then tailD x (dG x (bJ x++(cQ++aF x.b)++cQ++x.name))
  else if x.op=7 then tailD x (dG x (bJ x++cQ++x.name))
  else bJ x++(cQ++aF x.b)
theorem rn(n:Int):(qG n).size≤6:=by
  unfold qG
  split
  · rename_i h
    obtain⟨k,rfl⟩:∃k:Nat,n=k:=⟨n.toNat,by omega⟩
    have hk:k<11:=by omega
    have:∀k,k<11→(tb (fU k)).size≤6:=by decide +kernel
    exact this k hk
  · exact Nat.zero_le _
set_option maxHeartbeats 16000000 in
set_option maxRecDepth 100000 in
theorem Ch(x:aj)(hx:x.name.size≤1000000)(ha:i64 x.a)(hb:i64 x.b)(hc:i64 x.c_)(hd:i64 x.d)(h:AH):T Tryz.prog Γ Fn.IG [.agg (x.c false)] h fun v h'=>v=.str (eE x)∧h'=h:=by
  have hi:=fun h=>vE (Γ:=Γ) x (by omega) h
  simp only[aj.c]at hi
  have zo:=rn x.op
  have za:=dt x.a ha
  have zb:=dt x.b hb
  have zc:=dt x.c_ hc
  have zd:=dt x.d hd
  have zs:cQ.size=1:=rfl
  have q0:(⟨#[32]⟩:ByteArray)=cQ:=rfl
  have f1:bg .add .num (.str cQ) (.str (aF x.a))=some (.str (cQ++aF x.a)):=eY (by omega) (by omega)
  have f2:bg .add .num (.str cQ) (.str (aF x.b))=some (.str (cQ++aF x.b)):=eY (by omega) (by omega)
  have s1:(cQ++aF x.a).size≤30:=by rw[ByteArray.size_append];omega
  have s2:(cQ++aF x.b).size≤30:=by rw[ByteArray.size_append];omega
  have f3:bg .add .num (.str (qG x.op)) (.str (cQ++aF x.a))=some (.str (bJ x)):=eY (by omega) (by omega)
  have sh:(bJ x).size≤40:=by unfold bJ;rw[ByteArray.size_append];omega
  have f4:bg .add .num (.str (bJ x)) (.str (cQ++aF x.b))=some (.str (bJ x++(cQ++aF x.b))):=eY (by omega) (by omega)
  have s4:(bJ x++(cQ++aF x.b)).size≤70:=by rw[ByteArray.size_append];omega
  have f5:bg .add .num (.str (bJ x++(cQ++aF x.b))) (.str cQ)=some (.str (bJ x++(cQ++aF x.b)++cQ)):=eY (by omega) (by omega)
  have s5:(bJ x++(cQ++aF x.b)++cQ).size≤71:=by rw[ByteArray.size_append];omega
  have f6:bg .add .num (.str (bJ x++(cQ++aF x.b)++cQ)) (.str (aF x.c_))=some (.str (bJ x++(cQ++aF x.b)++cQ++aF x.c_)):=eY (by omega) (by omega)
  have f7:bg .add .num (.str (bJ x++(cQ++aF x.b)++cQ)) (.str x.name)=some (.str (bJ x++(cQ++aF x.b)++cQ++x.name)):=eY (by omega) (by omega)
  have s7:(bJ x++(cQ++aF x.b)++cQ++x.name).size≤1000100:=by rw[ByteArray.size_append];omega
  have g1:bg .add .num (.str (bJ x)) (.str cQ)=some (.str (bJ x++cQ)):=eY (by omega) (by omega)
  have t1:(bJ x++cQ).size≤50:=by rw[ByteArray.size_append];omega
  have g2:bg .add .num (.str (bJ x++cQ)) (.str x.name)=some (.str (bJ x++cQ++x.name)):=eY (by omega) (by omega)
  have t2:(bJ x++cQ++x.name).size≤1000100:=by rw[ByteArray.size_append];omega
  have T1:∀P:ByteArray,P.size≤1000100→bg .add .num (.str P) (.str cQ)=some (.str (P++cQ))∧bg .add .num (.str (P++cQ)) (.str (aF x.c_))=some (.str (P++cQ++aF x.c_))∧bg .add .num (.str (P++cQ)) (.str (aF x.d))=some (.str (P++cQ++aF x.d)):=fun P hP=>by
    have:(P++cQ).size≤1000101:=by rw[ByteArray.size_append];omega
    exact⟨eY (by omega) (by omega),eY (by omega) (by omega),eY (by omega) (by omega)⟩
  have T2:∀P:ByteArray,P.size≤1000100→bg .add .num (.str (P++cQ++aF x.c_)) (.str cQ)=some (.str (P++cQ++aF x.c_++cQ))∧bg .add .num (.str (P++cQ++aF x.c_++cQ)) (.str (aF x.d))=some (.str (P++cQ++aF x.c_++cQ++aF x.d)):=fun P hP=>by
    have a1:(P++cQ++aF x.c_).size≤1000200:=by rw[ByteArray.size_append,ByteArray.size_append];omega
    have a2:(P++cQ++aF x.c_++cQ).size≤1000201:=by rw[ByteArray.size_append];omega
    exact⟨eY (by omega) (by omega),eY (by omega) (by omega)⟩
  obtain⟨u1,u2,u3⟩:=T1 _ s7
  obtain⟨u4,u5⟩:=T2 _ s7
  obtain⟨v1,v2,v3⟩:=T1 _ t2
  obtain⟨v4,v5⟩:=T2 _ t2
  refine GK (ax aB mixed [] _ _ _ ?_)
  unfold Cb
  simp only[EZ,ag,Nat.reduceAdd,Nat.reduceBEq,cE,aj.c,aT,ak,aq]
  refine an.val (by simp only[EO]) (hi _) ?_
  cases hI:dz x
  · have e:eE x=tb []:=by unfold eE;rw[if_pos hI]
    rw[e]
    simp only[EZ,ag,Nat.reduceAdd,Nat.reduceBEq,cE,aj.c,aT,ak,aq]
    first|exact⟨rfl,rfl⟩|exact rfl|trivial
  have nI:¬dz x=false:=by rw[hI];simp
  simp only[EZ,ag,Nat.reduceAdd,Nat.reduceBEq,cE,aj.c,aT,ak,aq]
  refine an.val (by simp only[EO]) (BA _ _) ?_
  simp only[EZ,ag,Nat.reduceAdd,Nat.reduceBEq,cE,aj.c,aT,ak,aq]
  refine an.val (by simp only[EO]) (gv _ ha _) ?_
  simp only[EZ,ag,Nat.reduceAdd,Nat.reduceBEq,cE,aj.c,aT,ak,aq,q0,f1]
  refine an.val (by simp only[EO]) (gv _ hb _) ?_
  simp only[EZ,ag,Nat.reduceAdd,Nat.reduceBEq,cE,aj.c,aT,ak,aq,q0,f1,f2]
  have E0:eE x=if x.op=4∨x.op=10 then bJ x
    else if x.op=5 then bJ x++(cQ++aF x.b)++cQ++aF x.c_
    else if x.op=6 then tailD x (dG x (bJ x++(cQ++aF x.b)++cQ++x.name))
    else if x.op=7 then tailD x (dG x (bJ x++cQ++x.name))
    else bJ x++(cQ++aF x.b):=by unfold eE;rw[if_neg nI]
  by_cases e4:x.op=4
  · rw[if_pos (Or.inl e4)]at E0
    rw[E0]
    simp only[EZ,ag,Nat.reduceAdd,Nat.reduceBEq,cE,aj.c,aT,ak,aq,decide_eq_true e4,f3]
    first|exact⟨rfl,rfl⟩|exact rfl|trivial
  by_cases e10:x.op=10
  · rw[if_pos (Or.inr e10)]at E0
    rw[E0]
    simp only[EZ,ag,Nat.reduceAdd,Nat.reduceBEq,cE,aj.c,aT,ak,aq,decide_eq_false e4,decide_eq_true e10,f3]
    first|exact⟨rfl,rfl⟩|exact rfl|trivial
  rw[if_neg (by omega)]at E0
  by_cases e5:x.op=5
  · rw[if_pos e5]at E0
    rw[E0]
    simp only[EZ,ag,Nat.reduceAdd,Nat.reduceBEq,cE,aj.c,aT,ak,aq,decide_eq_false e4,decide_eq_false e10,decide_eq_true e5,f3,f4,q0,f5]
    refine an.val (by simp only[EO]) (gv _ hc _) ?_
    simp only[EZ,ag,Nat.reduceAdd,Nat.reduceBEq,cE,aj.c,aT,ak,aq,f6]
    first|exact⟨rfl,rfl⟩|exact rfl|trivial
  rw[if_neg e5]at E0
  by_cases e6:x.op=6
  · rw[if_pos e6]at E0
    rw[E0]
    by_cases ec:x.c_ = -1<;>by_cases ed:x.d = -1
    · unfold dG tailD
      rw[if_pos ec,if_pos ed]
      simp only[EZ,ag,Nat.reduceAdd,Nat.reduceBEq,cE,aj.c,aT,ak,aq,decide_eq_false e4,decide_eq_false e10,decide_eq_false e5,decide_eq_true e6,decide_eq_true ec,decide_eq_true ed,f3,f4,q0,f5,f7]
      first|exact⟨rfl,rfl⟩|exact rfl|trivial
    · unfold dG tailD
      rw[if_pos ec,if_neg ed]
      simp only[EZ,ag,Nat.reduceAdd,Nat.reduceBEq,cE,aj.c,aT,ak,aq,decide_eq_false e4,decide_eq_false e10,decide_eq_false e5,decide_eq_true e6,decide_eq_true ec,decide_eq_false ed,f3,f4,q0,f5,f7,u1]
      refine an.val (by simp only[EO]) (gv _ hd _) ?_
      simp only[EZ,ag,Nat.reduceAdd,Nat.reduceBEq,cE,aj.c,aT,ak,aq,u3]
      first|exact⟨rfl,rfl⟩|exact rfl|trivial
    · unfold dG tailD
      rw[if_neg ec,if_pos ed]
      simp only[EZ,ag,Nat.reduceAdd,Nat.reduceBEq,cE,aj.c,aT,ak,aq,decide_eq_false e4,decide_eq_false e10,decide_eq_false e5,decide_eq_true e6,decide_eq_false ec,decide_eq_true ed,f3,f4,q0,f5,f7,u1]
      refine an.val (by simp only[EO]) (gv _ hc _) ?_
      simp only[EZ,ag,Nat.reduceAdd,Nat.reduceBEq,cE,aj.c,aT,ak,aq,u2,decide_eq_true ed]
      first|exact⟨rfl,rfl⟩|exact rfl|trivial
    · unfold dG tailD
      rw[if_neg ec,if_neg ed]
      simp only[EZ,ag,Nat.reduceAdd,Nat.reduceBEq,cE,aj.c,aT,ak,aq,decide_eq_false e4,decide_eq_false e10,decide_eq_false e5,decide_eq_true e6,decide_eq_false ec,decide_eq_false ed,f3,f4,q0,f5,f7,u1]
      refine an.val (by simp only[EO]) (gv _ hc _) ?_
      simp only[EZ,ag,Nat.reduceAdd,Nat.reduceBEq,cE,aj.c,aT,ak,aq,u2,decide_eq_false ed,q0,u4]
      refine an.val (by simp only[EO]) (gv _ hd _) ?_
      simp only[EZ,ag,Nat.reduceAdd,Nat.reduceBEq,cE,aj.c,aT,ak,aq,u5]
      first|exact⟨rfl,rfl⟩|exact rfl|trivial
  rw[if_neg e6]at E0
  by_cases e7:x.op=7
  · rw[if_pos e7]at E0
    rw[E0]
    by_cases ec:x.c_ = -1<;>by_cases ed:x.d = -1
    · unfold dG tailD
      rw[if_pos ec,if_pos ed]
      simp only[EZ,ag,Nat.reduceAdd,Nat.reduceBEq,cE,aj.c,aT,ak,aq,decide_eq_false e4,decide_eq_false e10,decide_eq_false e5,decide_eq_false e6,decide_eq_true e7,decide_eq_true ec,decide_eq_true ed,f3,q0,g1,g2]
      first|exact⟨rfl,rfl⟩|exact rfl|trivial
    · unfold dG tailD
      rw[if_pos ec,if_neg ed]
      simp only[EZ,ag,Nat.reduceAdd,Nat.reduceBEq,cE,aj.c,aT,ak,aq,decide_eq_false e4,decide_eq_false e10,decide_eq_false e5,decide_eq_false e6,decide_eq_true e7,decide_eq_true ec,decide_eq_false ed,f3,q0,g1,g2,v1]
      refine an.val (by simp only[EO]) (gv _ hd _) ?_
      simp only[EZ,ag,Nat.reduceAdd,Nat.reduceBEq,cE,aj.c,aT,ak,aq,v3]
      first|exact⟨rfl,rfl⟩|exact rfl|trivial
    · unfold dG tailD
      rw[if_neg ec,if_pos ed]
      simp only[EZ,ag,Nat.reduceAdd,Nat.reduceBEq,cE,aj.c,aT,ak,aq,decide_eq_false e4,decide_eq_false e10,decide_eq_false e5,decide_eq_false e6,decide_eq_true e7,decide_eq_false ec,decide_eq_true ed,f3,q0,g1,g2,v1]
      refine an.val (by simp only[EO]) (gv _ hc _) ?_
      simp only[EZ,ag,Nat.reduceAdd,Nat.reduceBEq,cE,aj.c,aT,ak,aq,v2,decide_eq_true ed]
      first|exact⟨rfl,rfl⟩|exact rfl|trivial
    · unfold dG tailD
      rw[if_neg ec,if_neg ed]
      simp only[EZ,ag,Nat.reduceAdd,Nat.reduceBEq,cE,aj.c,aT,ak,aq,decide_eq_false e4,decide_eq_false e10,decide_eq_false e5,decide_eq_false e6,decide_eq_true e7,decide_eq_false ec,decide_eq_false ed,f3,q0,g1,g2,v1]
      refine an.val (by simp only[EO]) (gv _ hc _) ?_
      simp only[EZ,ag,Nat.reduceAdd,Nat.reduceBEq,cE,aj.c,aT,ak,aq,v2,decide_eq_false ed,q0,v4]
      refine an.val (by simp only[EO]) (gv _ hd _) ?_
      simp only[EZ,ag,Nat.reduceAdd,Nat.reduceBEq,cE,aj.c,aT,ak,aq,v5]
      first|exact⟨rfl,rfl⟩|exact rfl|trivial
  rw[if_neg e7]at E0
  rw[E0]
  simp only[EZ,ag,Nat.reduceAdd,Nat.reduceBEq,cE,aj.c,aT,ak,aq,decide_eq_false e4,decide_eq_false e10,decide_eq_false e5,decide_eq_false e6,decide_eq_false e7,f3,f4]
  first|exact⟨rfl,rfl⟩|exact rfl|trivial
end Go.Proofs.YtkepagpkphgpeaaGreatDoor
namespace Go.Proofs.YtkepagpkphgpeaaGreatDoor
open Go.AM
variable {Γ:aZ}
def fa(l:List ByteArray):CD:=.sl 1 (l.map fun n=>[.s n])
theorem C6(s:St)(v:ByteArray){l h:Nat}(h1:l≤h)(h2:h≤v.size):kg .str s (.str v) (.int .i64 (l:Int)) (.int .i64 (h:Int))=.val (.str (v.extract l h)) s:=by
  simp[kg,fG,rQ,db,AR.cZ,h1,h2]
def Ar(b:UInt8)(l:Tx)(i:Nat)(done:List Tx)(fr:Nat):Prop:=
  i≤l.length+1∧(i≤l.length→fr≤i∧ay b (l.take i)=done++[(l.take i).drop fr])∧(i=l.length+1→done=ay b l)∧done.length≤i
theorem HT(b:UInt8)(l:Tx):Ar b l 0 [] 0:=⟨by omega,fun _=>⟨by omega,by simp[ay]⟩,fun h=>by omega,by simp⟩
theorem xN{b:UInt8}{l:Tx}{i:Nat}{done:List Tx}{fr:Nat}(h:Ar b l i done fr)(hi:i<l.length)(hb:l[i]=b):Ar b l (i+1) (done++[(l.take i).drop fr]) (i+1):=by
  obtain⟨h1,h2,h3,h4⟩:=h
  obtain⟨g1,g2⟩:=h2 (by omega)
  refine⟨by omega,fun _=>⟨by omega,?_⟩,fun e=>by omega,by simp;omega⟩
  rw[jY hi,g2,jh,if_pos hb]
  congr 2
  rw[List.drop_eq_nil_of_le (by simp;omega)]
theorem C3{b:UInt8}{l:Tx}{i:Nat}{done:List Tx}{fr:Nat}(h:Ar b l i done fr)(hi:i<l.length)(hb:¬l[i]=b):Ar b l (i+1) done fr:=by
  obtain⟨h1,h2,h3,h4⟩:=h
  obtain⟨g1,g2⟩:=h2 (by omega)
  refine⟨by omega,fun _=>⟨by omega,?_⟩,fun e=>by omega,by omega⟩
  rw[jY hi,g2,jh,if_neg hb]
  rw[List.take_succ_eq_append_getElem hi,List.drop_append_of_le_length (by simp;omega)]
  simp
theorem yx{b:UInt8}{l:Tx}{done:List Tx}{fr:Nat}(h:Ar b l l.length done fr):Ar b l (l.length+1) (done++[(l.take l.length).drop fr]) (l.length+1):=by
  obtain⟨h1,h2,h3,h4⟩:=h
  obtain⟨g1,g2⟩:=h2 (by omega)
  refine⟨by omega,fun e=>by omega,fun _=>?_,by simp;omega⟩
  rw[List.take_length]at g2 ⊢
  exact g2.symm
theorem CK(l:Tx){i fr:Nat}:(tb l).extract fr i=tb ((l.take i).drop fr):=by
  apply ByteArray.ext
  simp[tb,ByteArray.data_extract,List.extract_eq_take_drop,List.drop_take]
theorem cK(l:Tx):(tb l).size=l.length:=dR l
theorem y8{l:Tx}{i:Nat}(hi:i<l.length):bP (tb l) i=l[i].toNat:=byteAt_mk l i hi
theorem Bc{a b:UInt8}:decide (((a.toNat:Nat):Int)=((b.toNat:Nat):Int))=decide (a=b):=by
  by_cases h:a=b
  · subst h;simp
  · rw[decide_eq_false h,decide_eq_false]
    intro e;exact h (UInt8.toNat_inj.1 (by omega))
set_option maxHeartbeats 16000000 in
theorem B5(l:Tx)(hl:l.length≤4000)(b:UInt8)(h:AH):T Tryz.prog Γ Fn.Ir [.str (tb l),.int .u8 (b.toNat:Nat)] h (ca h [.c (fa ((ay b l).map tb))]):=by
  have LS:gq true (.str (tb l))=some (.int .i64 l.length):=by rw[dA,cK]
  refine T.qp ?_
  refine En (ax aB mixed [] _ _ _ ?_)
  unfold zG
  simp only[EZ,ag,Nat.reduceAdd,Nat.reduceBEq,mh,EA,LS]
  refine bU aB mixed [] (fun x:Nat×List Tx×Nat×AV×AH×List Nat=>Ar b l x.1 x.2.1 x.2.2.1∧bM x.2.2.2.2.1 x.2.2.2.1 (fa (x.2.1.map tb)) x.2.2.2.2.2∧x.2.2.2.2.2.Nodup∧(∀c∈x.2.2.2.2.2,h.length≤c)∧∃N,x.2.2.2.2.1=h++N) (fun x=>l.length+1-x.1)
    (fun x=>jE (.str (tb l)) (.int .u8 (b.toNat:Nat)) x.2.2.2.1 (.int .i64 x.2.2.1) (.int .i64 x.1) [] x.2.2.2.2.1) (0,[],0,.gs h.length 0 0 0 0 1 true,h++[some (0,[])],[h.length]) ⟨HT b l,lj h 1,by simp,by simp,_,rfl⟩ ⟨by simp[jE,cG,cI],rfl,rfl⟩ ?_
  rintro⟨k,done,fr,v,H,fp⟩ ⟨sI,ho,nd,hfp,N,hN⟩
  simp only at sI ho nd hfp hN
  subst hN
  simp only[EZ,ag,Nat.reduceAdd,Nat.reduceBEq,mh,jE,LS]
  refine aR (fun hlt=>?_) (fun hge=>?_)
  rotate_left
  · have hk:k=l.length+1:=by have:=sI.1;simp at hge;omega
    have:=sI.2.2.1 hk
    subst this
    simp only[EZ,ag,Nat.reduceAdd,Nat.reduceBEq,mh]
    exact⟨ho.fO,N,fp,rfl,ho,nd,hfp⟩
  have hlt:k≤l.length:=by simpa using hlt
  have hfr:=(sI.2.1 hlt).1
  have hdl:=sI.2.2.2
  have cs:=fun s=>C6 s (tb l) hfr (by rw[cK];exact hlt)
  rw[CK]at cs
  have app:=fk (bytes:=16) ho (ys:=[.str (tb ((l.take k).drop fr))]) (row:=[.s (tb ((l.take k).drop fr))]) (f2:=[]) (by simpa using nd) (by omega) rfl (.s .nil) (by simp only[List.length_map,bk];omega)
  obtain⟨v',H',fp',ea,o',nd',hf',hl',hm'⟩:=app
  obtain⟨N',rfl⟩:=pS hl' hf' hfp
  have hfp':∀c∈fp',h.length≤c:=fun c hc=>by
    rcases hm' c hc with g|g|g
    · exact hfp c g
    · simp at g
    · simp at g;omega
  by_cases hk:k=l.length
  · subst hk
    simp only[EZ,ag,Nat.reduceAdd,Nat.reduceBEq,mh,LS,ak,aq,decide_true,EA,EB,cs,ea]
    exact⟨(l.length+1,done++[(l.take l.length).drop fr],l.length+1,v',h++N',fp'),⟨yx sI,by simpa[fa]using o',nd',hfp',N',rfl⟩,by simp only;omega,⟨by rw[wN (by omega)];simp[jE,cG,cI],rfl,rfl⟩⟩
  have hk':k<l.length:=by omega
  have nk:¬((k:Int)=(l.length:Int)):=by omega
  have ix:=fun s:St=>gU s (v:=tb l) (k:=k) (by rw[cK];exact hk')
  rw[y8 hk']at ix
  by_cases hb:l[k]=b
  · simp only[EZ,ag,Nat.reduceAdd,Nat.reduceBEq,mh,LS,ak,aq,decide_eq_false nk,dx,ix,Bc,decide_eq_true hb,EA,EB,cs,ea]
    exact⟨(k+1,done++[(l.take k).drop fr],k+1,v',h++N',fp'),⟨xN sI hk' hb,by simpa[fa]using o',nd',hfp',N',rfl⟩,by simp only;omega,⟨by rw[wN (by omega)];simp[jE,cG,cI],rfl,rfl⟩⟩
  · simp only[EZ,ag,Nat.reduceAdd,Nat.reduceBEq,mh,LS,ak,aq,decide_eq_false nk,dx,ix,Bc,decide_eq_false hb]
    exact⟨(k+1,done,fr,v,h++N,fp),⟨C3 sI hk' hb,ho,nd,hfp,N,rfl⟩,by simp only;omega,⟨by rw[wN (by omega)];simp[jE,cG,cI],rfl,rfl⟩⟩
end Go.Proofs.YtkepagpkphgpeaaGreatDoor
namespace Go.Proofs.YtkepagpkphgpeaaGreatDoor
open Go.AM
variable {Γ:aZ}
theorem xS:∀k,k<10→jD [UInt8.ofNat (48+k)]=some k:=by decide +kernel
theorem wz{w:Tx}(h:qN w=true):gx (tb w)=jD w:=by
  match w,h with
  | [],h=>cases h
  | c::r,h=>
    simp only[qN,Bool.or_eq_true,Bool.and_eq_true,decide_eq_true_eq]at h
    rcases h with⟨⟨rfl,h1⟩,h2⟩|h
    · obtain⟨k,hk,rfl⟩:∃k,k<10∧c=UInt8.ofNat (48+k):=⟨c.toNat-48,by omega,by rw[show 48+(c.toNat-48)=c.toNat by omega];simp⟩
      rw[xS k hk]
      have e:tb [UInt8.ofNat (48+k)]=aF (k:Int):=by
        apply ByteArray.ext;apply Array.ext'
        rw[dd,cM hk];rfl
      rw[e,j6 (by omega)]
    · rw[show gx (tb (c::r))=none from jW (fun n hn e=>by
        have e:=fo (l:=c::r) e
        obtain⟨d,r',e2,h1,h2⟩:=gJ n
        rw[e2]at e
        injection e with e3 e4
        subst e3;omega)]
      have hf:(c::r).all (fun c=>decide (48≤c.toNat) && decide (c.toNat≤57))=false:=by
        rw[List.all_cons,decide_eq_false (show ¬c.toNat≤57 by omega),Bool.and_false,Bool.false_and]
      unfold jD
      simp only[hf,Bool.false_and,Bool.false_eq_true,if_false]
theorem Ed(w:Tx)(hw:w.length≤1000)(h:AH):T Tryz.prog Γ Fn.IM [.str (tb w)] h fun v h'=>v=.int .i64 (hO w)∧h'=h:=by
  refine G2 (ax aB mixed [] _ _ _ ?_)
  unfold BJ
  simp only[EZ,ag,Nat.reduceAdd,Nat.reduceBEq,kW]
  refine bU aB mixed [] (fun k:Nat=>1≤k∧k≤11∧∀j,1≤j→j<k→fU j≠w) (fun k=>11-k)
    (fun k=>pA (.str (tb w)) (.int .i64 k) ([]:List (List AV)) h) 1 ⟨by omega,by omega,fun j h1 h2=>by omega⟩ ⟨by simp[pA,cG,cI],rfl,rfl⟩ ?_
  rintro k ⟨h1,h2,hb⟩
  simp only[EZ,ag,Nat.reduceAdd,Nat.reduceBEq,kW,pA]
  refine aR (fun hlt=>?_) (fun hge=>?_)
  rotate_left
  · have:k=11:=by simp at hge;omega
    subst this
    have e:=uj hb
    simp only[EZ,ag,Nat.reduceAdd,Nat.reduceBEq,kW]
    rw[e]
    first|exact⟨rfl,rfl⟩|exact rfl
  have hlt:k≤10:=by simp at hlt;omega
  simp only[EZ,ag,Nat.reduceAdd,Nat.reduceBEq,kW]
  refine an.val (by simp only[EO]) (BA _ _) ?_
  have eo:qG (k:Int)=tb (fU k):=by unfold qG;rw[if_pos (by omega)];simp
  by_cases hk:fU k=w
  · have e:=xQ h1 hlt hb hk
    simp only[EZ,ag,Nat.reduceAdd,Nat.reduceBEq,kW,aT,aQ,eo,qL,decide_eq_true hk]
    rw[e]
    first|exact⟨rfl,rfl⟩|exact rfl
  · simp only[EZ,ag,Nat.reduceAdd,Nat.reduceBEq,kW,aT,aQ,eo,qL,decide_eq_false hk]
    exact⟨k+1,⟨by omega,by omega,fun j a b=>by
      rcases Nat.lt_or_ge j k with g|g
      · exact hb j a g
      · have:j=k:=by omega
        subst this;exact hk⟩,by omega,⟨by rw[wN (by omega)];simp[pA,cG,cI],rfl,rfl⟩⟩
theorem G6(ws:List Tx)(hws:∀w∈ws,qN w=true)(hl:ws.length≤1000)(i:Nat)(hi:i≤1000)(h:AH):T Tryz.prog Γ Fn.va [.vs false 1 false (ws.map fun w=>[.str (tb w)]),.int .i64 i] h fun v h'=>v=.int .i64 (cu ws i)∧h'=h:=by
  have L0:=cr false 1 false ws fun w=>[AV.str (tb w)]
  have i0:=fun hk=>ct (β:=false) (sz:=1) (ex:=false) (l:=ws) (ce:=fun w=>[AV.str (tb w)]) (k:=i) hk
  generalize e0:AV.vs false 1 false (ws.map fun w=>[AV.str (tb w)])=a0 at *
  refine Ex (ax aB mixed [] _ _ _ ?_)
  unfold zQ
  simp only[EZ,ag,Nat.reduceAdd,Nat.reduceBEq,nJ,L0]
  refine aR (fun hge=>?_) (fun hlt=>?_)
  · have hge:ws.length≤i:=by simp at hge;omega
    have e:=ve hge
    simp only[EZ,ag,Nat.reduceAdd,Nat.reduceBEq,nJ]
    rw[e]
    first|exact⟨rfl,rfl⟩|exact rfl
  have hlt:i<ws.length:=by simp at hlt;omega
  have i1:=i0 hlt
  have ew:ws[i]? = some ws[i]:=List.getElem?_eq_getElem hlt
  have pw:=wz (hws ws[i] (List.getElem_mem hlt))
  simp only[EZ,ag,Nat.reduceAdd,Nat.reduceBEq,nJ,i1]
  refine an.val (by simp only[EO]) (FI ws[i] _) ?_
  have ep:Dp ⟨ws[i].toArray⟩=.tup [.int .i64 (((jD ws[i]).getD 0:Nat):Int),.bool (jD ws[i]).isSome]:=by rw[Dp,show(⟨ws[i].toArray⟩:ByteArray)=tb ws[i] from rfl,pw]
  rw[ep]
  cases en:jD ws[i]with
  | none=>
    have e:cu ws i = -1:=by unfold cu;rw[ew];simp only[en]
    simp only[EZ,ag,Nat.reduceAdd,Nat.reduceBEq,nJ,ER,Option.isSome_none,Option.getD_none]
    rw[e]
    first|exact⟨rfl,rfl⟩|exact rfl
  | some n=>
    have e:cu ws i=n:=by unfold cu;rw[ew];simp only[en]
    simp only[EZ,ag,Nat.reduceAdd,Nat.reduceBEq,nJ,ER,Option.isSome_some,Option.getD_some]
    rw[e]
    first|exact⟨rfl,rfl⟩|exact rfl
theorem fc{s:Tx}(hs:s∈bc):s.length≤40∧jG (aX s)=true∧dz (aX s).D=true∧ga (aX s)=s∧gN (aX s).a=true∧gN (aX s).b=true∧((aX s).c = -1∨gN (aX s).c=true)∧((aX s).d = -1∨gN (aX s).d=true)∧1≤(aX s).op∧(aX s).op≤10∧(aX s).name.length≤6∧∀w∈ay 32 s,qN w=true:=by
  have:=List.all_eq_true.1 wk s hs
  simpa only[Bool.and_eq_true,Bool.or_eq_true,decide_eq_true_eq,List.all_eq_true]using this
theorem mQ{n:Int}(h:gN n=true):aF n=tb (fF n):=by
  simp only[gN,Bool.and_eq_true,decide_eq_true_eq]at h
  obtain⟨k,rfl⟩:∃k:Nat,n=k:=⟨n.toNat,by omega⟩
  have hk:k<10:=by omega
  apply ByteArray.ext;apply Array.ext'
  rw[dd,cM hk]
  unfold fF
  rw[if_neg (by omega)]
  unfold xp
  rw[show(k:Int).natAbs=k by omega,if_pos hk];rfl
theorem wT{n:Int}(h0:1≤n)(h1:n≤10):qG n=tb (fU n.toNat):=by unfold qG;rw[if_pos ⟨h0,h1⟩]
theorem qA{s:Tx}(hs:s∈bc):eE (aX s).D=tb s:=by
  obtain⟨_,h1,h2,h3,h4,h5,h6,h7,h8,h9,_,_⟩:=fc hs
  generalize aX s=x at *
  have n2:¬dz x.D=false:=by rw[h2];simp
  have n1:¬jG x=false:=by rw[h1];simp
  have e1:cQ=tb [32]:=rfl
  have eh:bJ x.D=tb (fU x.op.toNat++sp (fF x.a)):=by
    unfold bJ;rw[show x.D.op=x.op from rfl,show x.D.a=x.a from rfl,wT h8 h9,mQ h4,e1,b7,b7];rfl
  have eb:cQ++aF x.D.b=tb (sp (fF x.b)):=by rw[show x.D.b=x.b from rfl,mQ h5,e1,b7];rfl
  have tc:∀u:Tx,dG x.D (tb u)=tb (if x.c = -1 then u else u++sp (fF x.c)):=fun u=>by
    unfold dG;rw[show x.D.c_=x.c from rfl]
    by_cases hc:x.c = -1
    · rw[if_pos hc,if_pos hc]
    · rw[if_neg hc,if_neg hc,mQ (h6.resolve_left hc),e1,b7,b7,List.append_assoc];rfl
  have td:∀u:Tx,tailD x.D (tb u)=tb (if x.d = -1 then u else u++sp (fF x.d)):=fun u=>by
    unfold tailD;rw[show x.D.d=x.d from rfl]
    by_cases hc:x.d = -1
    · rw[if_pos hc,if_pos hc]
    · rw[if_neg hc,if_neg hc,mQ (h7.resolve_left hc),e1,b7,b7,List.append_assoc];rfl
  have h6':x.op=5→gN x.c=true:=fun e5=>by
    rcases h6 with q|q
    · exfalso
      have:=h1
      unfold jG at this
      rw[if_neg (by omega),if_neg (by omega),if_neg (by omega),if_neg (by omega),if_pos e5]at this
      simp[iN,q]at this
    · exact q
  rw[←h3]
  unfold eE ga
  rw[if_neg n2,if_neg n1,show x.D.op=x.op from rfl,show x.D.name=tb x.name from rfl,eh,eb]
  by_cases c1:x.op=4∨x.op=10
  · rw[if_pos c1,if_pos c1]
  rw[if_neg c1,if_neg c1]
  by_cases c2:x.op=5
  · rw[if_pos c2,if_pos c2,show x.D.c_=x.c from rfl,mQ (h6' c2),e1,b7,b7,b7];congr 1;simp[sp]
  rw[if_neg c2,if_neg c2]
  by_cases c3:x.op=6
  · rw[if_pos c3,if_pos c3,e1,b7,b7,b7,tc,td];congr 1;simp[sp]
  rw[if_neg c3,if_neg c3]
  by_cases c4:x.op=7
  · rw[if_pos c4,if_pos c4,e1,b7,b7,tc,td];congr 1;simp[sp]
  rw[if_neg c4,if_neg c4,b7]
end Go.Proofs.YtkepagpkphgpeaaGreatDoor
namespace Go.Proofs.YtkepagpkphgpeaaGreatDoor
open Go.AM
variable {Γ:aZ}
def aV(x:aW):List AV:=[.int .i64 x.op,.int .i64 x.a,.int .i64 x.b,.int .i64 x.c,.int .i64 x.d,.str (tb x.name)]
theorem I9{s:Tx}{ws:List Tx}(e:ay 32 s=ws){op:Int}(eo:(hO (ws.headD []):Int)=op):aX s =
  if op=4∨op=10 then ⟨op,cu ws 1,0,0,0,[]⟩
  else if op=5 then ⟨op,cu ws 1,cu ws 2,cu ws 3,0,[]⟩
  else if op=6 then ⟨op,cu ws 1,cu ws 2,cu ws 4,cu ws 5,ws.getD 3 []⟩
  else if op=7 then ⟨op,cu ws 1,0,cu ws 3,cu ws 4,ws.getD 2 []⟩
  else ⟨op,cu ws 1,cu ws 2,0,0,[]⟩:=by
  subst e;subst eo
  unfold aX Dg
  simp only[]
  generalize hO ((ay 32 s).headD [])=n
  simp only[show((n:Int)=4)=(n=4) from propext (by omega),show((n:Int)=10)=(n=10) from propext (by omega),show((n:Int)=5)=(n=5) from propext (by omega),show((n:Int)=6)=(n=6) from propext (by omega),show((n:Int)=7)=(n=7) from propext (by omega)]
set_option maxHeartbeats 32000000 in
set_option maxRecDepth 100000 in
theorem Gj{s:Tx}(hs:s∈bc)(h:AH):T Tryz.prog Γ Fn.Jy [.str (tb s)] h fun v h'=>v=.tup [.agg (aV (aX s)),.bool true]∧h'=h:=by
  obtain⟨k1,k2,k3,k4,k5,k6,k7,k8,k9,k10,k11,k12⟩:=fc hs
  have hf:=qA hs
  have d64:∀n:Int,(n = -1∨gN n=true)→i64 n:=fun n h=>by
    rcases h with rfl|h
    · exact⟨by omega,by omega⟩
    · simp only[gN,Bool.and_eq_true,decide_eq_true_eq]at h;exact⟨by omega,by omega⟩
  have nl6:(aX s).D.name.size≤6:=by rw[show(aX s).D.name=tb (aX s).name from rfl,cK];exact k11
  have hi:=fun h=>vE (Γ:=Γ) (aX s).D (by omega) h
  have hfm:=fun h=>Ch (Γ:=Γ) (aX s).D (by omega) (d64 _ (.inr k5)) (d64 _ (.inr k6)) (d64 _ k7) (d64 _ k8) h
  rw[k3]at hi
  rw[hf]at hfm
  simp only[aj.c,aW.D]at hi hfm
  have hsp:=fun h=>T.CZ (B5 (Γ:=Γ) s (by omega) 32 h)
  simp only[fa,pG]at hsp
  have wsl:(ay 32 s).length≤1000:=by
    have:bc.all (fun s=>decide ((ay 32 s).length≤10) && decide (((ay 32 s).headD []).length≤10))=true:=by decide +kernel
    have:=List.all_eq_true.1 this s hs
    simp only[Bool.and_eq_true,decide_eq_true_eq]at this;omega
  have w0l:((ay 32 s).headD []).length≤1000:=by
    have:bc.all (fun s=>decide ((ay 32 s).length≤10) && decide (((ay 32 s).headD []).length≤10))=true:=by decide +kernel
    have:=List.all_eq_true.1 this s hs
    simp only[Bool.and_eq_true,decide_eq_true_eq]at this;omega
  have hne:=gY 32 s
  have hr:=@I9 s _ rfl _ rfl
  generalize ay 32 s=ws at *
  have hnum:=fun i hi h=>G6 (Γ:=Γ) ws k12 wsl i hi h
  have hn1:=fun h=>hnum 1 (by omega) h
  have hn2:=fun h=>hnum 2 (by omega) h
  have hn3:=fun h=>hnum 3 (by omega) h
  have hn4:=fun h=>hnum 4 (by omega) h
  have hn5:=fun h=>hnum 5 (by omega) h
  simp only[show((1:Nat):Int)=1 from rfl,show((2:Nat):Int)=2 from rfl,show((3:Nat):Int)=3 from rfl,show((4:Nat):Int)=4 from rfl,show((5:Nat):Int)=5 from rfl]at hn1 hn2 hn3 hn4 hn5
  have L0:=cr false 1 false ws fun w=>[AV.str (tb w)]
  have i0:=fun(k:Nat) hk=>ct (β:=false) (sz:=1) (ex:=false) (l:=ws) (ce:=fun w=>[AV.str (tb w)]) (k:=k) hk
  have hop:=fun h=>Ed (Γ:=Γ) (ws.headD []) w0l h
  have i00:bN 1 (.vs false 1 false (ws.map fun w=>[.str (tb w)])) 0=some (.ip false [.str (tb (ws.headD []))]):=by
    cases ws with
    | nil=>exact absurd rfl hne
    | cons a l=>rfl
  have i3:3<ws.length→bN 1 (.vs false 1 false (ws.map fun w=>[.str (tb w)])) 3=some (.ip false [.str (tb (ws.getD 3 []))]):=fun hl=>by
    rw[List.getD_eq_getElem?_getD,List.getElem?_eq_getElem hl,Option.getD_some];exact i0 3 hl
  have i2:2<ws.length→bN 1 (.vs false 1 false (ws.map fun w=>[.str (tb w)])) 2=some (.ip false [.str (tb (ws.getD 2 []))]):=fun hl=>by
    rw[List.getD_eq_getElem?_getD,List.getElem?_eq_getElem hl,Option.getD_some];exact i0 2 hl
  have g3:¬3<ws.length→ws.getD 3 []=[]:=fun hl=>by rw[List.getD_eq_getElem?_getD,List.getElem?_eq_none (by omega)];rfl
  have g2:¬2<ws.length→ws.getD 2 []=[]:=fun hl=>by rw[List.getD_eq_getElem?_getD,List.getElem?_eq_none (by omega)];rfl
  have ot:bF (AV.vs false 1 false (ws.map fun w=>[AV.str (tb w)]))=true:=rfl
  generalize e0:AV.vs false 1 false (ws.map fun w=>[AV.str (tb w)])=a0 at *
  have tn:(⟨#[]⟩:ByteArray)=tb []:=rfl
  refine Hk (ax aB mixed [] _ _ _ ?_)
  unfold Bt
  simp only[EZ,ag,Nat.reduceAdd,Nat.reduceBEq,bH]
  refine an.val (by simp only[EO]) (hsp _) ?_
  simp only[EZ,ag,Nat.reduceAdd,Nat.reduceBEq,bH,i00]
  refine an.val (by simp only[EO]) (hop _) ?_
  simp only[EZ,ag,Nat.reduceAdd,Nat.reduceBEq,bH]
  refine an.val (by simp only[EO,ot]) (hn1 _) ?_
  generalize (hO (ws.headD []):Int)=op at *
  simp only[EZ,ag,Nat.reduceAdd,Nat.reduceBEq,bH,aT,ak,aq]
  by_cases e4:op=4
  · rw[if_pos (Or.inl e4)]at hr
    rw[hr]at hi hfm ⊢
    simp only[aV]at hi hfm ⊢
    simp only[EZ,ag,Nat.reduceAdd,Nat.reduceBEq,bH,EB,aT,ak,aq,decide_eq_true e4,tn]
    refine an.val (by simp only[EO]) (hi _) ?_
    simp only[EZ,ag,Nat.reduceAdd,Nat.reduceBEq,bH,EB,aT,ak,aq]
    refine an.val (by simp only[EO]) (hfm _) ?_
    simp only[EZ,ag,Nat.reduceAdd,Nat.reduceBEq,bH,ER,EB,aT,ak,aq,aQ,decide_true]
    first|exact⟨rfl,rfl⟩|exact rfl
  by_cases e10:op=10
  · rw[if_pos (Or.inr e10)]at hr
    rw[hr]at hi hfm ⊢
    simp only[aV]at hi hfm ⊢
    simp only[EZ,ag,Nat.reduceAdd,Nat.reduceBEq,bH,EB,aT,ak,aq,decide_eq_false e4,decide_eq_true e10,tn]
    refine an.val (by simp only[EO]) (hi _) ?_
    simp only[EZ,ag,Nat.reduceAdd,Nat.reduceBEq,bH,EB,aT,ak,aq]
    refine an.val (by simp only[EO]) (hfm _) ?_
    simp only[EZ,ag,Nat.reduceAdd,Nat.reduceBEq,bH,ER,EB,aT,ak,aq,aQ,decide_true]
    first|exact⟨rfl,rfl⟩|exact rfl
  rw[if_neg (by omega)]at hr
  by_cases e5:op=5
  · rw[if_pos e5]at hr
    rw[hr]at hi hfm ⊢
    simp only[aV]at hi hfm ⊢
    simp only[EZ,ag,Nat.reduceAdd,Nat.reduceBEq,bH,EB,aT,ak,aq,decide_eq_false e4,decide_eq_false e10,decide_eq_true e5,tn]
    refine an.val (by simp only[EO,ot]) (hn2 _) ?_
    simp only[EZ,ag,Nat.reduceAdd,Nat.reduceBEq,bH,EB,aT,ak,aq,tn,decide_eq_false e4,decide_eq_false e10,decide_eq_true e5,L0]
    refine an.val (by simp only[EO,ot]) (hn3 _) ?_
    simp only[EZ,ag,Nat.reduceAdd,Nat.reduceBEq,bH,EB,aT,ak,aq,tn,decide_eq_false e4,decide_eq_false e10,decide_eq_true e5,L0]
    refine an.val (by simp only[EO]) (hi _) ?_
    simp only[EZ,ag,Nat.reduceAdd,Nat.reduceBEq,bH,EB,aT,ak,aq]
    refine an.val (by simp only[EO]) (hfm _) ?_
    simp only[EZ,ag,Nat.reduceAdd,Nat.reduceBEq,bH,ER,EB,aT,ak,aq,aQ,decide_true]
    first|exact⟨rfl,rfl⟩|exact rfl
  rw[if_neg e5]at hr
  by_cases e6:op=6
  · rw[if_pos e6]at hr
    rw[hr]at hi hfm ⊢
    simp only[aV]at hi hfm ⊢
    simp only[EZ,ag,Nat.reduceAdd,Nat.reduceBEq,bH,EB,aT,ak,aq,decide_eq_false e4,decide_eq_false e10,decide_eq_false e5,decide_eq_true e6,tn]
    refine an.val (by simp only[EO,ot]) (hn2 _) ?_
    simp only[EZ,ag,Nat.reduceAdd,Nat.reduceBEq,bH,EB,aT,ak,aq,tn,decide_eq_false e4,decide_eq_false e10,decide_eq_false e5,decide_eq_true e6,L0]
    refine an.val (by simp only[EO,ot]) (hn4 _) ?_
    simp only[EZ,ag,Nat.reduceAdd,Nat.reduceBEq,bH,EB,aT,ak,aq,tn,decide_eq_false e4,decide_eq_false e10,decide_eq_false e5,decide_eq_true e6,L0]
    refine an.val (by simp only[EO,ot]) (hn5 _) ?_
    simp only[EZ,ag,Nat.reduceAdd,Nat.reduceBEq,bH,EB,aT,ak,aq,tn,decide_eq_false e4,decide_eq_false e10,decide_eq_false e5,decide_eq_true e6,L0]
    by_cases hl:3<ws.length
    · have hl':((ws.length:Nat):Int)>3:=by omega
      simp only[EZ,ag,Nat.reduceAdd,Nat.reduceBEq,bH,EB,aT,ak,aq,tn,decide_eq_false e4,decide_eq_false e10,decide_eq_false e5,decide_eq_true e6,L0,decide_eq_true hl',i3 hl]
      refine an.val (by simp only[EO]) (hi _) ?_
      simp only[EZ,ag,Nat.reduceAdd,Nat.reduceBEq,bH,EB,aT,ak,aq]
      refine an.val (by simp only[EO]) (hfm _) ?_
      simp only[EZ,ag,Nat.reduceAdd,Nat.reduceBEq,bH,ER,EB,aT,ak,aq,aQ,decide_true]
      first|exact⟨rfl,rfl⟩|exact rfl
    · have hl':¬((ws.length:Nat):Int)>3:=by omega
      rw[g3 hl]at hi hfm ⊢
      simp only[EZ,ag,Nat.reduceAdd,Nat.reduceBEq,bH,EB,aT,ak,aq,tn,decide_eq_false e4,decide_eq_false e10,decide_eq_false e5,decide_eq_true e6,L0,decide_eq_false hl']
      refine an.val (by simp only[EO]) (hi _) ?_
      simp only[EZ,ag,Nat.reduceAdd,Nat.reduceBEq,bH,EB,aT,ak,aq]
      refine an.val (by simp only[EO]) (hfm _) ?_
      simp only[EZ,ag,Nat.reduceAdd,Nat.reduceBEq,bH,ER,EB,aT,ak,aq,aQ,decide_true]
      first|exact⟨rfl,rfl⟩|exact rfl
  rw[if_neg e6]at hr
  by_cases e7:op=7
  · rw[if_pos e7]at hr
    rw[hr]at hi hfm ⊢
    simp only[aV]at hi hfm ⊢
    simp only[EZ,ag,Nat.reduceAdd,Nat.reduceBEq,bH,EB,aT,ak,aq,decide_eq_false e4,decide_eq_false e10,decide_eq_false e5,decide_eq_false e6,decide_eq_true e7,tn]
    refine an.val (by simp only[EO,ot]) (hn3 _) ?_
    simp only[EZ,ag,Nat.reduceAdd,Nat.reduceBEq,bH,EB,aT,ak,aq,tn,decide_eq_false e4,decide_eq_false e10,decide_eq_false e5,decide_eq_false e6,decide_eq_true e7,L0]
    refine an.val (by simp only[EO,ot]) (hn4 _) ?_
    simp only[EZ,ag,Nat.reduceAdd,Nat.reduceBEq,bH,EB,aT,ak,aq,tn,decide_eq_false e4,decide_eq_false e10,decide_eq_false e5,decide_eq_false e6,decide_eq_true e7,L0]
    by_cases hl:2<ws.length
    · have hl':((ws.length:Nat):Int)>2:=by omega
      simp only[EZ,ag,Nat.reduceAdd,Nat.reduceBEq,bH,EB,aT,ak,aq,tn,decide_eq_false e4,decide_eq_false e10,decide_eq_false e5,decide_eq_false e6,decide_eq_true e7,L0,decide_eq_true hl',i2 hl]
      refine an.val (by simp only[EO]) (hi _) ?_
      simp only[EZ,ag,Nat.reduceAdd,Nat.reduceBEq,bH,EB,aT,ak,aq]
      refine an.val (by simp only[EO]) (hfm _) ?_
      simp only[EZ,ag,Nat.reduceAdd,Nat.reduceBEq,bH,ER,EB,aT,ak,aq,aQ,decide_true]
      first|exact⟨rfl,rfl⟩|exact rfl
    · have hl':¬((ws.length:Nat):Int)>2:=by omega
      rw[g2 hl]at hi hfm ⊢
      simp only[EZ,ag,Nat.reduceAdd,Nat.reduceBEq,bH,EB,aT,ak,aq,tn,decide_eq_false e4,decide_eq_false e10,decide_eq_false e5,decide_eq_false e6,decide_eq_true e7,L0,decide_eq_false hl']
      refine an.val (by simp only[EO]) (hi _) ?_
      simp only[EZ,ag,Nat.reduceAdd,Nat.reduceBEq,bH,EB,aT,ak,aq]
      refine an.val (by simp only[EO]) (hfm _) ?_
      simp only[EZ,ag,Nat.reduceAdd,Nat.reduceBEq,bH,ER,EB,aT,ak,aq,aQ,decide_true]
      first|exact⟨rfl,rfl⟩|exact rfl
  rw[if_neg e7]at hr
  rw[hr]at hi hfm ⊢
  simp only[aV]at hi hfm ⊢
  simp only[EZ,ag,Nat.reduceAdd,Nat.reduceBEq,bH,EB,aT,ak,aq,decide_eq_false e4,decide_eq_false e10,decide_eq_false e5,decide_eq_false e6,decide_eq_false e7,tn]
  refine an.val (by simp only[EO,ot]) (hn2 _) ?_
  simp only[EZ,ag,Nat.reduceAdd,Nat.reduceBEq,bH,EB,aT,ak,aq,tn,decide_eq_false e4,decide_eq_false e10,decide_eq_false e5,decide_eq_false e6,decide_eq_false e7,L0]
  refine an.val (by simp only[EO]) (hi _) ?_
  simp only[EZ,ag,Nat.reduceAdd,Nat.reduceBEq,bH,EB,aT,ak,aq]
  refine an.val (by simp only[EO]) (hfm _) ?_
  simp only[EZ,ag,Nat.reduceAdd,Nat.reduceBEq,bH,ER,EB,aT,ak,aq,aQ,decide_true]
  first|exact⟨rfl,rfl⟩|exact rfl
end Go.Proofs.YtkepagpkphgpeaaGreatDoor
