import Derived.Test.YtccjhmhkfnnmaaaGreatR6G13
import Derived.Test.YtccjhmhkfnnmaaaGreatAmG9
import Derived.Test.YtccjhmhkfnnmaaaGreatAmG8
set_option linter.unusedVariables false
set_option linter.unusedSimpArgs false
namespace Go.Proofs.YtccjhmhkfnnmaaaGreat
open Go.AM
variable {Γ:bY}
theorem FY(b:Bool):dJ (.bool b)=true:=rfl
theorem Bv(n:Int){m:Nat}(hm:(m:Int)<9223372036854775807):rO n 0 (IntKind.i64.wrap ((m:Int)-1))=true↔∃k:Nat,n=(k:Int)∧k<m:=by
  rw[fo (by omega) (by omega)]
  simp only[rO,Bool.and_eq_true,decide_eq_true_eq]
  constructor
  · intro⟨h1,h2⟩;exact⟨n.toNat,by omega,by omega⟩
  · rintro⟨k,rfl,hk⟩;omega
theorem Fs(β:Bool)(v:ar)(hv:v.entities.length≤1048576)(n:Int)(H:AH){p:AV}(hp:Ptr H p (v.c β)):
    T Tryz.prog Γ Fn.E2 [p,.int .i64 n] H fun r h'=>((∃k:Nat,∃hk:k<v.entities.length,n=(k:Int)∧r=.ip β (v.entities[k].c β))∨((∀k:Nat,n=(k:Int)→v.entities.length≤k)∧r=.nilp))∧h'=H:=by
  have L0:=di β 12 false v.entities (aq.c β)
  refine GL (au aC aD [] _ _ _ ?_)
  unfold EN
  simp only[EZ,ag,Nat.reduceAdd,Nat.reduceBEq,tQ,hp.nil,hp.fld,hp.rd,ar.iU,Nat.reduceLeDiff,ar.c,L0]
  refine al.val (by simp only[EO]) (u7 _ _ _ _) ?_
  cases e1:rO n 0 (IntKind.i64.wrap ((v.entities.length:Int)-1))
  · simp only[EZ,ag,Nat.reduceAdd,Nat.reduceBEq,tQ]
    refine⟨rfl,?_⟩
    suffices hx:∀k:Nat,n=(k:Int)→v.entities.length≤k by first|exact .inr ⟨hx,rfl⟩|exact hx|exact .inr hx
    intro k hk
    rcases Nat.lt_or_ge k v.entities.length with h1|h1
    · have:=(Bv n (by omega)).2 ⟨k,hk,h1⟩
      rw[e1]at this;cases this
    · exact h1
  · obtain⟨k,rfl,hk⟩:=(Bv n (by omega)).1 e1
    have i0:=dU (β:=β) (sz:=12) (ex:=false) (ce:=aq.c β) hk
    simp only[EZ,ag,Nat.reduceAdd,Nat.reduceBEq,tQ,hp.nil,hp.fld,hp.rd,ar.iU,Nat.reduceLeDiff,ar.c,i0]
    exact⟨rfl,.inl ⟨k,hk,rfl,rfl⟩⟩
def cO(x:Int)(n:Nat):Bool:=decide (0≤x) && decide (x<n)
theorem cZ(x:Int){n:Nat}(hn:n≤1048576):rO x 0 (IntKind.i64.wrap ((n:Int)-1))=cO x n:=by
  have hw:IntKind.i64.wrap ((n:Int)-1)=(n:Int)-1:=fo (by omega) (by omega)
  rw[hw,rO,cO]
  congr 1
  rw[decide_eq_decide];omega
def gw(x:ae)(n:Nat):Bool:=if x.kind=0 then rO x.n 0 999999 else if x.kind=1 then cO x.n n else decide (x.kind=2) && decide (x.n=0)
def iG(l:List ae)(n:Nat):Bool:=l.all fun x=>gw x n
theorem B1(β:Bool)(x:ae)(n:Nat)(hn:n≤1048576)(h:AH):T Tryz.prog Γ Fn.MA [.agg (x.c β),.int .i64 n] h fun v h'=>v=.bool (gw x n)∧h'=h:=by
  refine Pl (au aC aD [] _ _ _ ?_)
  unfold HV
  simp only[EZ,ag,Nat.reduceAdd,Nat.reduceBEq,uo,ae.c,aE,ah,an]
  repeat' (first
    | (guard_target =~ al _ _ Fn.Fx _ _ _;refine al.val (by simp only[EO]) (u7 _ _ _ _) ?_;simp only[EZ,ag,Nat.reduceAdd,Nat.reduceBEq,uo,ae.c,aE,ah,an])
    | (refine mQ (fun hh=>?_) (fun hh=>?_)<;>simp only[EZ,ag,Nat.reduceAdd,Nat.reduceBEq,uo,hh,ae.c,aE,ah,an])
    | (refine lC (fun hh=>?_) (fun hh=>?_)<;>simp only[EZ,ag,Nat.reduceAdd,Nat.reduceBEq,uo,hh,ae.c,aE,ah,an])
    | (refine bP (fun hh=>?_) (fun hh=>?_)<;>simp only[EZ,ag,Nat.reduceAdd,Nat.reduceBEq,uo,hh,ae.c,aE,ah,an])
    | (first|(simp_all [gw,cZ,FY];done)|(simp_all [gw,cZ,FY];omega)))
theorem B8(β:Bool)(x:ae)(n:Nat)(hn:n≤1048576)(h:AH):T Tryz.prog Γ Fn.Mi [.agg (x.c β),.int .i64 n] h fun v h'=>v=.bool (gw x n)∧h'=h:=by
  refine O1 (au aC aD [] _ _ _ ?_)
  unfold Ih
  simp only[EZ,ag,Nat.reduceAdd,Nat.reduceBEq,w0,ae.c,aE,ah,an]
  repeat' (first
    | (guard_target =~ al _ _ Fn.lH _ _ _;refine al.val (by simp only[EO]) (dW _ _ _ _) ?_;simp only[EZ,ag,Nat.reduceAdd,Nat.reduceBEq,w0,ae.c,aE,ah,an])
    | (refine mQ (fun hh=>?_) (fun hh=>?_)<;>simp only[EZ,ag,Nat.reduceAdd,Nat.reduceBEq,w0,hh,ae.c,aE,ah,an])
    | (refine lC (fun hh=>?_) (fun hh=>?_)<;>simp only[EZ,ag,Nat.reduceAdd,Nat.reduceBEq,w0,hh,ae.c,aE,ah,an])
    | (refine bP (fun hh=>?_) (fun hh=>?_)<;>simp only[EZ,ag,Nat.reduceAdd,Nat.reduceBEq,w0,hh,ae.c,aE,ah,an])
    | (first|(simp_all [gw,cO,FY];done)|(simp_all [gw,cO,FY];omega)))
theorem all_false{α:Type}{l:List α}{p:α→Bool}{k:Nat}(hk:k<l.length)(h:p l[k]=false):l.all p=false:=by
  cases hh:l.all p
  · rfl
  · have:=List.all_eq_true.1 hh l[k] (List.getElem_mem hk);rw[h]at this;cases this
theorem all_true{α:Type}{l:List α}{p:α→Bool}(h:∀(i:Nat) (hi:i<l.length),i<l.length→p l[i]=true):l.all p=true:=
  List.all_eq_true.2 fun x hx=>by obtain⟨i,hi,rfl⟩:=List.getElem_of_mem hx;exact h i hi hi
theorem FW{α:Type}(p:α→Bool)(l:List α):(!l.any fun x=>!p x)=l.all p:=by
  induction l with
  | nil=>rfl
  | cons x l ih=>simp only[List.any_cons,List.all_cons,←ih];cases p x<;>simp
theorem qC{g:FuncId}{caps:List AV}(hc:caps.all dY=true)(hc2:caps.all g9=true)(p:ae→Bool)(β:Bool)(l:List ae)(hl:l.length≤1048576){h:AH}(hp:∀x∈l,T Tryz.prog Γ g ([]++([.agg (x.c β)]++caps)) h fun v h'=>v=.bool (p x)∧h'=h):
    T Tryz.prog Γ Fn.Sl [.vs β 2 false (l.map (ae.c β)),.fn g [] caps] h fun v h'=>v=.bool (l.any p)∧h'=h:=by
  have hcall:=j6 (P:=Tryz.prog) (Γ:=Γ) aC aD (sz:=2) (agg:=true) (fun hw=>Rg hw) (β:=β) (l:=l) (c:=ae.c β) (by omega) (fun x=>⟨⟨rfl,.inl rfl⟩,rfl⟩) (g:=g) (first:=[]) (caps:=caps) hc p (h:=h) hp
  refine OL (au aC aD [] _ _ _ ?_)
  unfold HU
  simp only[EZ,ag,Nat.reduceAdd,Nat.reduceBEq,Ee]
  refine al.val (by simp only[EO,hc,hc2]) hcall ?_
  simp only[EZ,ag,Nat.reduceAdd,Nat.reduceBEq,Ee]
  rw[show decide (gE p l≥0)=l.any p from BN p l]
  first|exact⟨rfl,rfl⟩|exact rfl
theorem Ox(β:Bool)(x:ae)(n:Nat)(hn:n≤1048576)(H:AH){k:Nat}(hk:b7 H k=some (0,[.int .i64 n])):T Tryz.prog Γ Fn.R8 [.agg (x.c β),.gp k 0 0] H fun v h'=>v=.bool (!gw x n)∧h'=H:=by
  have hc:∀(e:List AV) (l:List (List AV)) (off m:Nat),(St.mk e l H).cells (.gp k 0 off) m=sub [.int .i64 (n:Int)] off m:=fun e l off m=>bp hk
  refine PQ (au aC aD [] _ _ _ ?_)
  unfold Jn
  simp only[EZ,ag,Nat.reduceAdd,Nat.reduceBEq,Fj,ae.c,hc]
  refine al.val (by simp only[EO]) (B1 β x n hn _) ?_
  simp only[EZ,ag,Nat.reduceAdd,Nat.reduceBEq,Fj]
  first|exact⟨rfl,rfl⟩|exact rfl
theorem JG(β:Bool)(l:List ae)(hl:l.length≤1048576)(n:Nat)(hn:n≤1048576)(h:AH):T Tryz.prog Γ Fn.RZ [.vs β 2 false (l.map (ae.c β)),.int .i64 n] h fun v h'=>v=.bool (iG l n)∧h'=h:=by
  refine(?_:T Tryz.prog Γ Fn.RZ _ h fun v h'=>v=.bool (iG l n)∧∃N,h'=h++N).drop (by rintro v h' ⟨rfl,N,rfl⟩;exact⟨N,rfl,.bool _,rfl,rfl⟩)
  refine ND (au aC aD [3] _ _ _ ?_)
  unfold GQ
  simp only[EZ,ag,Nat.reduceAdd,Nat.reduceBEq,Dq,tN _ _ (show List.all [AV.int .i64 n] bj=true from rfl),i6]
  refine al.val (by simp only[EO]) (qC (g:=Fn.R8) (caps:=[.gp h.length 0 0]) rfl rfl (fun x=>!gw x n) β l hl (fun x hx=>Ox β x n hn _ (cW _ _))) ?_
  simp only[EZ,ag,Nat.reduceAdd,Nat.reduceBEq,Dq]
  exact⟨rfl,by rw[FW];rfl,_,rfl⟩
theorem Jl(β:Bool)(l:List ae)(hl:l.length≤1048576)(n:Nat)(hn:n≤1048576)(h:AH):T Tryz.prog Γ Fn.So [.vs β 2 false (l.map (ae.c β)),.int .i64 n] h fun v h'=>v=.bool (iG l n)∧h'=h:=by
  have L0:=di β 2 false l (ae.c β)
  refine Od (au aC aD [] _ _ _ ?_)
  unfold GF
  simp only[EZ,ag,Nat.reduceAdd,Nat.reduceBEq,sJ,L0]
  refine et aC aD [] (fun k:Nat=>k≤l.length∧∀(i:Nat) (hi:i<l.length),i<k→gw l[i] n=true) (fun k=>l.length-k)
    (fun k=>xJ (.vs β 2 false (l.map (ae.c β))) (.int .i64 n) (.int .i64 k) [] h) 0 ⟨by omega,fun i hi h=>by omega⟩ ⟨by simp[xJ,fY,fO],rfl,rfl⟩ ?_
  rintro k ⟨hk,ht⟩
  simp only[EZ,ag,Nat.reduceAdd,Nat.reduceBEq,sJ,xJ,L0]
  refine bP (fun hlt=>?_) (fun hge=>?_)
  rotate_left
  · have hge:k=l.length:=by simp at hge;omega
    subst hge
    simp only[EZ,ag,Nat.reduceAdd,Nat.reduceBEq,sJ]
    have:=all_true (p:=fun x=>gw x n) ht
    first|exact⟨rfl,by rw[iG,this]⟩|rw[iG,this]
  have hlt:k<l.length:=by simpa using hlt
  have i0:=dU (β:=β) (sz:=2) (ex:=false) (ce:=ae.c β) hlt
  simp only[EZ,ag,Nat.reduceAdd,Nat.reduceBEq,sJ,i0,ae.c]
  refine al.val (by simp only[EO]) (B8 β l[k] n hn _) ?_
  cases hp:gw l[k] n
  · simp only[EZ,ag,Nat.reduceAdd,Nat.reduceBEq,sJ]
    have:=all_false (p:=fun x=>gw x n) hlt hp
    first|exact⟨rfl,by rw[iG,this]⟩|rw[iG,this]
  · simp only[EZ,ag,Nat.reduceAdd,Nat.reduceBEq,sJ]
    exact⟨k+1,⟨hlt,fun i hi hik=>by
      rcases Nat.lt_or_ge i k with g|g
      · exact ht i hi g
      · have:i=k:=by omega
        subst this;exact hp⟩,by omega,⟨by rw[wN (by omega)];simp[xJ,fY,fO],rfl,rfl⟩⟩
def j7(v:ByteArray):Bool:=rO v.size 1 6 && (List.range v.size).all fun k=>decide (97≤(dP v k:Int)) && decide ((dP v k:Int)≤122)
theorem ny{v:ByteArray}{k:Nat}(hk:k<v.size)(h:(decide (97≤(dP v k:Int)) && decide ((dP v k:Int)≤122))=false):j7 v=false:=by
  have:(List.range v.size).all (fun k=>decide (97≤(dP v k:Int)) && decide ((dP v k:Int)≤122))=false:=by
    rw[Bool.eq_false_iff];intro hh
    have:=List.all_eq_true.1 hh k (List.mem_range.2 hk)
    rw[h]at this;cases this
  rw[j7,this,Bool.and_false]
theorem uL{v:ByteArray}(h:∀k,k<v.size→(decide (97≤(dP v k:Int)) && decide ((dP v k:Int)≤122))=true):j7 v=rO v.size 1 6:=by
  have:(List.range v.size).all (fun k=>decide (97≤(dP v k:Int)) && decide ((dP v k:Int)≤122))=true:=List.all_eq_true.2 fun k hk=>h k (List.mem_range.1 hk)
  rw[j7,this,Bool.and_true]
theorem Bw(v:ByteArray)(hv:v.size≤1048576)(h:AH):T Tryz.prog Γ Fn.S5 [.str v] h fun r h'=>r=.bool (j7 v)∧h'=h:=by
  refine Qc (au aC aD [] _ _ _ ?_)
  unfold Gw
  simp only[EZ,ag,Nat.reduceAdd,Nat.reduceBEq,pL,pA]
  refine al.val (by simp only[EO]) (u7 _ _ _ _) ?_
  cases e1:rO (v.size:Int) 1 6
  · simp only[EZ,ag,Nat.reduceAdd,Nat.reduceBEq,pL]
    have:j7 v=false:=by rw[j7,e1,Bool.false_and]
    first|exact⟨rfl,by rw[this],rfl⟩|exact⟨rfl,by rw[this]⟩|rw[this]
  simp only[EZ,ag,Nat.reduceAdd,Nat.reduceBEq,pL,pA]
  refine et aC aD [] (fun k:Nat=>k≤v.size∧∀i,i<k→(decide (97≤(dP v i:Int)) && decide ((dP v i:Int)≤122))=true) (fun k=>v.size-k)
    (fun k=>xW (.str v) (.int .i64 v.size) (.int .i64 k) ([]:List (List AV)) h) 0 ⟨by omega,fun i h=>by omega⟩ ⟨by simp[xW,fY,fO],rfl,rfl⟩ ?_
  rintro k ⟨hk,ht⟩
  simp only[EZ,ag,Nat.reduceAdd,Nat.reduceBEq,pL,xW]
  refine bP (fun hlt=>?_) (fun hge=>?_)
  rotate_left
  · have hge:k=v.size:=by simp at hge;omega
    subst hge
    simp only[EZ,ag,Nat.reduceAdd,Nat.reduceBEq,pL]
    have:=uL ht
    rw[e1]at this
    first|exact⟨rfl,by rw[this],rfl⟩|exact⟨rfl,by rw[this]⟩|rw[this]
  have hlt:k<v.size:=by simpa using hlt
  have ix:=fun s:St=>uQ s hlt
  by_cases b1:(dP v k:Int)<97
  · simp only[EZ,ag,Nat.reduceAdd,Nat.reduceBEq,pL,kF,ix,decide_eq_true b1]
    have:=ny hlt (by rw[decide_eq_false (show ¬97≤(dP v k:Int)by omega),Bool.false_and])
    first|exact⟨rfl,by rw[this],rfl⟩|exact⟨rfl,by rw[this]⟩|rw[this]
  by_cases b2:122<(dP v k:Int)
  · simp only[EZ,ag,Nat.reduceAdd,Nat.reduceBEq,pL,kF,ix,decide_eq_false b1,decide_eq_true b2]
    have:=ny hlt (by rw[decide_eq_false (show ¬(dP v k:Int)≤122 by omega),Bool.and_false])
    first|exact⟨rfl,by rw[this],rfl⟩|exact⟨rfl,by rw[this]⟩|rw[this]
  simp only[EZ,ag,Nat.reduceAdd,Nat.reduceBEq,pL,kF,ix,decide_eq_false b1,decide_eq_false b2]
  exact⟨k+1,⟨hlt,fun i hik=>by
    rcases Nat.lt_or_ge i k with g|g
    · exact ht i g
    · have:i=k:=by omega
      subst this
      rw[decide_eq_true (show 97≤(dP v i:Int)by omega),decide_eq_true (show(dP v i:Int)≤122 by omega)];rfl⟩,by omega,⟨by rw[wN (by omega)];simp[xW,fY,fO],rfl,rfl⟩⟩
theorem Bx(v:ByteArray)(hv:v.size≤1048576)(h:AH):T Tryz.prog Γ Fn.SC [.str v] h fun r h'=>r=.bool (j7 v)∧h'=h:=by
  refine Pp (au aC aD [] _ _ _ ?_)
  unfold G1
  simp only[EZ,ag,Nat.reduceAdd,Nat.reduceBEq,rH]
  refine et aC aD [] (fun k:Nat=>k≤v.size∧∀i,i<k→(decide (97≤(dP v i:Int)) && decide ((dP v i:Int)≤122))=true) (fun k=>v.size-k)
    (fun k=>yN (.str v) (.int .i64 k) ([]:List (List AV)) h) 0 ⟨by omega,fun i h=>by omega⟩ ⟨by simp[yN,fY,fO],rfl,rfl⟩ ?_
  rintro k ⟨hk,ht⟩
  simp only[EZ,ag,Nat.reduceAdd,Nat.reduceBEq,rH,yN,pA]
  refine bP (fun hlt=>?_) (fun hge=>?_)
  rotate_left
  · have hge:k=v.size:=by simp at hge;omega
    subst hge
    simp only[EZ,ag,Nat.reduceAdd,Nat.reduceBEq,rH,pA]
    refine al.val (by simp only[EO]) (dW _ _ _ _) ?_
    simp only[EZ,ag,Nat.reduceAdd,Nat.reduceBEq,rH]
    have:=uL ht
    first|exact⟨rfl,by rw[this],rfl⟩|exact⟨rfl,by rw[this]⟩|rw[this]
  have hlt:k<v.size:=by simpa using hlt
  have ix:=fun s:St=>uQ s hlt
  by_cases b1:(dP v k:Int)<97
  · simp only[EZ,ag,Nat.reduceAdd,Nat.reduceBEq,rH,kF,ix,decide_eq_true b1]
    have:=ny hlt (by rw[decide_eq_false (show ¬97≤(dP v k:Int)by omega),Bool.false_and])
    first|exact⟨rfl,by rw[this],rfl⟩|exact⟨rfl,by rw[this]⟩|rw[this]
  by_cases b2:122<(dP v k:Int)
  · simp only[EZ,ag,Nat.reduceAdd,Nat.reduceBEq,rH,kF,ix,decide_eq_false b1,decide_eq_true b2]
    have:=ny hlt (by rw[decide_eq_false (show ¬(dP v k:Int)≤122 by omega),Bool.and_false])
    first|exact⟨rfl,by rw[this],rfl⟩|exact⟨rfl,by rw[this]⟩|rw[this]
  simp only[EZ,ag,Nat.reduceAdd,Nat.reduceBEq,rH,kF,ix,decide_eq_false b1,decide_eq_false b2]
  exact⟨k+1,⟨hlt,fun i hik=>by
    rcases Nat.lt_or_ge i k with g|g
    · exact ht i g
    · have:i=k:=by omega
      subst this
      rw[decide_eq_true (show 97≤(dP v i:Int)by omega),decide_eq_true (show(dP v i:Int)≤122 by omega)];rfl⟩,by omega,⟨by rw[wN (by omega)];simp[yN,fY,fO],rfl,rfl⟩⟩
def ju(e:aq):Bool:=decide (e.kind=2) && (decide (e.state=1) || (decide (e.state=3) || decide (e.state=4)))
theorem Gb(e:aq):ju e=(decide (e.kind=2) && (rO e.state 1 4 && !decide (e.state=2))):=by
  have:(decide (e.state=1) || (decide (e.state=3) || decide (e.state=4)))=(rO e.state 1 4 && !decide (e.state=2)):=by
    rw[Bool.eq_iff_iff];simp only[rO,Bool.or_eq_true,Bool.and_eq_true,decide_eq_true_eq,Bool.not_eq_true',decide_eq_false_iff_not];omega
  rw[ju,this]
theorem E9(β:Bool)(e:aq)(h:AH):T Tryz.prog Γ Fn.Lv [.agg (e.c β)] h fun r h'=>r=.bool (ju e)∧h'=h:=by
  refine NX (au aC aD [] _ _ _ ?_)
  unfold Ik
  simp only[EZ,ag,Nat.reduceAdd,Nat.reduceBEq,xe,aq.c,aE,ah,an]
  repeat' (first
    | (guard_target =~ al _ _ Fn.lH _ _ _;refine al.val (by simp only[EO]) (dW _ _ _ _) ?_;simp only[EZ,ag,Nat.reduceAdd,Nat.reduceBEq,xe,aq.c,aE,ah,an])
    | (refine mQ (fun hh=>?_) (fun hh=>?_)<;>simp only[EZ,ag,Nat.reduceAdd,Nat.reduceBEq,xe,hh,aq.c,aE,ah,an])
    | (refine lC (fun hh=>?_) (fun hh=>?_)<;>simp only[EZ,ag,Nat.reduceAdd,Nat.reduceBEq,xe,hh,aq.c,aE,ah,an])
    | (refine bP (fun hh=>?_) (fun hh=>?_)<;>simp only[EZ,ag,Nat.reduceAdd,Nat.reduceBEq,xe,hh,aq.c,aE,ah,an])
    | ((simp_all [Gb,FY];done)))
theorem Kd(β:Bool)(e:aq)(h:AH):T Tryz.prog Γ Fn.SE [.agg (e.c β)] h fun r h'=>r=.bool (ju e)∧h'=h:=by
  refine O4 (au aC aD [] _ _ _ ?_)
  unfold GU
  simp only[EZ,ag,Nat.reduceAdd,Nat.reduceBEq,wF,aq.c,aE,ah,an]
  repeat' (first
    | (guard_target =~ al _ _ Fn.Fx _ _ _;refine al.val (by simp only[EO]) (u7 _ _ _ _) ?_;simp only[EZ,ag,Nat.reduceAdd,Nat.reduceBEq,wF,aq.c,aE,ah,an])
    | (refine mQ (fun hh=>?_) (fun hh=>?_)<;>simp only[EZ,ag,Nat.reduceAdd,Nat.reduceBEq,wF,hh,aq.c,aE,ah,an])
    | (refine lC (fun hh=>?_) (fun hh=>?_)<;>simp only[EZ,ag,Nat.reduceAdd,Nat.reduceBEq,wF,hh,aq.c,aE,ah,an])
    | (refine bP (fun hh=>?_) (fun hh=>?_)<;>simp only[EZ,ag,Nat.reduceAdd,Nat.reduceBEq,wF,hh,aq.c,aE,ah,an])
    | (first|(simp_all [ju,rO,FY];done)|(simp_all [ju,rO,FY];omega)))
theorem Ii(β:Bool)(x:ae)(h:AH):T Tryz.prog Γ Fn.SU [.agg (x.c β)] h fun r h'=>r=.bool (decide (x.kind=0) && rO x.n 0 999999)∧h'=h:=by
  refine Mm (au aC aD [] _ _ _ ?_)
  unfold Kb
  simp only[EZ,ag,Nat.reduceAdd,Nat.reduceBEq,uK,ae.c,aE,ah,an]
  repeat' (first
    | (guard_target =~ al _ _ Fn.Fx _ _ _;refine al.val (by simp only[EO]) (u7 _ _ _ _) ?_;simp only[EZ,ag,Nat.reduceAdd,Nat.reduceBEq,uK,ae.c,aE,ah,an])
    | (refine mQ (fun hh=>?_) (fun hh=>?_)<;>simp only[EZ,ag,Nat.reduceAdd,Nat.reduceBEq,uK,hh,ae.c,aE,ah,an])
    | (refine lC (fun hh=>?_) (fun hh=>?_)<;>simp only[EZ,ag,Nat.reduceAdd,Nat.reduceBEq,uK,hh,ae.c,aE,ah,an])
    | (refine bP (fun hh=>?_) (fun hh=>?_)<;>simp only[EZ,ag,Nat.reduceAdd,Nat.reduceBEq,uK,hh,ae.c,aE,ah,an])
    | (first|(simp_all [FY];done)|(simp_all [FY];omega)))
def aR:ae:=⟨2,0⟩
theorem B5(h:AH):T Tryz.prog Γ Fn.F4 [] h fun v h'=>v=.agg (aR.c false)∧h'=h:=by
  refine Hu (au aC aD [] _ _ _ ?_)
  unfold Ek
  simp only[EZ,ag,Nat.reduceAdd,Nat.reduceBEq,DD,aE]
  first|exact⟨rfl,rfl⟩|exact rfl
theorem Aj(h:AH):T Tryz.prog Γ Fn.HK [] h fun v h'=>v=.agg (aR.c false)∧h'=h:=by
  refine QU (au aC aD [] _ _ _ ?_)
  unfold GJ
  simp only[EZ,ag,Nat.reduceAdd,Nat.reduceBEq,HS,aE]
  first|exact⟨rfl,rfl⟩|exact rfl
theorem vy(n:Int)(h:AH):T Tryz.prog Γ Fn.Fv [.int .i64 n] h fun v h'=>v=.agg ((ae.mk 1 n).c false)∧h'=h:=by
  refine Pe (au aC aD [] _ _ _ ?_)
  unfold HF
  simp only[EZ,ag,Nat.reduceAdd,Nat.reduceBEq,Jf,aE]
  first|exact⟨rfl,rfl⟩|exact rfl
theorem xz(n:Int)(h:AH):T Tryz.prog Γ Fn.Gm [.int .i64 n] h fun v h'=>v=.agg ((ae.mk 1 n).c false)∧h'=h:=by
  refine Mk (au aC aD [] _ _ _ ?_)
  unfold JK
  simp only[EZ,ag,Nat.reduceAdd,Nat.reduceBEq,I1,aE]
  first|exact⟨rfl,rfl⟩|exact rfl
def cN:aq:=⟨2,0,[],1,⟨0,0⟩,[],[],0,0,0,0⟩
def lG:List AV:=[.int .i64 2,.int .i64 0,.nils,.int .i64 1,.int .i64 0,.int .i64 0,.nils,.nils,.int .i64 0,.int .i64 0,.int .i64 0,.int .i64 0]
theorem tT(H:AH):aG H lG cN.cd []:=.i (.i (.o (.nil _) (.i (.i (.i (.o (.nil _) (.o (.nil _) (.i (.i (.i (.i .nil)))))))))))
theorem Bh(h:AH):T Tryz.prog Γ Fn.K1 [] h fun v h'=>v=.agg lG∧h'=h:=by
  refine LW (au aC aD [] _ _ _ ?_)
  unfold IH
  simp only[EZ,ag,Nat.reduceAdd,Nat.reduceBEq,Iw,aE,gZ,qH,qO,qh]
  first|exact⟨rfl,rfl⟩|exact rfl
theorem MP(h:AH):T Tryz.prog Γ Fn.S2 [] h fun v h'=>v=.agg lG∧h'=h:=by
  refine Ns (au aC aD [] _ _ _ ?_)
  unfold GD
  simp only[EZ,ag,Nat.reduceAdd,Nat.reduceBEq,Kt,aE,gZ,qH,qO,qh]
  first|exact⟨rfl,rfl⟩|exact rfl
def ko(peer pos:Int):List AV:=[.int .i64 3,.int .i64 0,.nils,.int .i64 0,.int .i64 0,.int .i64 0,.nils,.nils,.int .i64 peer,.int .i64 pos,.int .i64 1,.int .i64 0]
def kg(peer pos:Int):aq:=⟨3,0,[],0,⟨0,0⟩,[],[],peer,pos,1,0⟩
theorem vS(H:AH)(peer pos:Int):aG H (ko peer pos) (kg peer pos).cd []:=.i (.i (.o (.nil _) (.i (.i (.i (.o (.nil _) (.o (.nil _) (.i (.i (.i (.i .nil)))))))))))
theorem IG(peer pos:Int)(h:AH):T Tryz.prog Γ Fn.Lu [.int .i64 peer,.int .i64 pos] h fun v h'=>v=.agg (ko peer pos)∧h'=h:=by
  refine M4 (au aC aD [] _ _ _ ?_)
  unfold Hn
  simp only[EZ,ag,Nat.reduceAdd,Nat.reduceBEq,Ij,aE,gZ,qH,qO,qh]
  first|exact⟨rfl,rfl⟩|exact rfl
end Go.Proofs.YtccjhmhkfnnmaaaGreat
namespace Go.Proofs.YtccjhmhkfnnmaaaGreat
open Go.AM
variable {Γ:bY}
def jR(es:List aq)(x:ae):Option ae:=
  if x.kind=1 then (match es[x.n.toNat]? with|some e=>if 0≤x.n∧(e.kind=2∧e.state=2)then some e.value else none|none=>none)else none
def kQ(es:List aq):Nat→ae→ae
  | 0,_=>aR
  | n+1,x=>match jR es x with|some y=>kQ es n y|none=>x
def cg(v:ar)(x:ae):ae:=kQ v.entities (v.entities.length+1) x
theorem kV{es:List aq}{n:Nat}{x:ae}(h:jR es x=none):kQ es (n+1) x=x:=by simp only[kQ,h]
theorem yO{es:List aq}{n:Nat}{x y:ae}(h:jR es x=some y):kQ es (n+1) x=kQ es n y:=by simp only[kQ,h]
theorem kv{es:List aq}{x:ae}(h:x.kind≠1):jR es x=none:=by unfold jR;rw[if_neg h]
theorem zV{es:List aq}{x:ae}(h:cO x.n es.length=false):jR es x=none:=by
  unfold jR
  split
  · split
    · rename_i e he
      rw[if_neg]
      rintro⟨h0,_⟩
      have:=(List.getElem?_eq_some_iff.1 he).1
      have:cO x.n es.length=true:=by simp only[cO,Bool.and_eq_true,decide_eq_true_eq];omega
      rw[h]at this;cases this
    · rfl
  · rfl
theorem pP{es:List aq}{x:ae}(h1:x.kind=1){k:Nat}(hk:k<es.length)(h2:x.n=(k:Int)):jR es x=if es[k].kind=2∧es[k].state=2 then some es[k].value else none:=by
  unfold jR
  rw[if_pos h1,h2,Int.toNat_natCast,List.getElem?_eq_getElem hk]
  simp only[show(0:Int)≤(k:Int)by omega,true_and]
theorem nh{x:Int}{n:Nat}(h:cO x n=true):∃k:Nat,x=(k:Int)∧k<n:=by
  simp only[cO,Bool.and_eq_true,decide_eq_true_eq]at h
  exact⟨x.toNat,by omega,by omega⟩
theorem mg(β:Bool)(v:ar)(hv:v.entities.length≤1048576)(x:ae)(h:AH):T Tryz.prog Γ Fn.ui [.agg (v.c β),.agg (x.c false)] h fun r h'=>r=.agg ((cg v x).c false)∧h'=h:=by
  have L0:=di β 12 false v.entities (aq.c β)
  refine LN (au aC aD [] _ _ _ ?_)
  unfold GS
  simp only[EZ,ag,Nat.reduceAdd,Nat.reduceBEq,mo,aE,ar.c,ae.c]
  refine et aC aD [] (fun y:Nat×ae×List (List AV)=>y.1≤v.entities.length+1∧cg v x=kQ v.entities (v.entities.length+1-y.1) y.2.1∧y.2.2[([]:List (List AV)).length]? = some (v.c β)∧y.2.2[([]:List (List AV)).length+1]? = some [.int .i64 y.2.1.kind,.int .i64 y.2.1.n]∧∃zz,y.2.2[([]:List (List AV)).length+2]? = some zz∧zz.length=2) (fun y=>v.entities.length+1-y.1)
    (fun y=>yx (.lp ([]:List (List AV)).length 0) (.lp (([]:List (List AV)).length+1) 0) (.lp (([]:List (List AV)).length+2) 0) (.int .i64 y.1) y.2.2 h) (0,x,_) ⟨by simp,rfl,rfl,rfl,⟨_,rfl,rfl⟩⟩ ⟨by simp[yx,fY,fO],rfl,rfl⟩ ?_
  rintro⟨k,y,M⟩ ⟨hk,hl,hM0,hM1,zz,hM2,hzz⟩
  simp only at hk hl hM0 hM1 hM2
  have r0:∀(e:List AV) (h:AH) (off n:Nat),(St.mk e M h).cells (.lp ([]:List (List AV)).length off) n=sub (v.c β) off n:=fun e h off n=>ck hM0
  have r1:∀(e:List AV) (h:AH) (off n:Nat),(St.mk e M h).cells (.lp (([]:List (List AV)).length+1) off) n=sub [.int .i64 y.kind,.int .i64 y.n] off n:=fun e h off n=>ck hM1
  have s2:∀(e:List AV) (h:AH) (a b:AV),bU a=true→bU b=true→(St.mk e M h).store (.lp (([]:List (List AV)).length+2) 0) [a,b]=some ⟨e,M.set (([]:List (List AV)).length+2) [a,b],h⟩:=fun e h a b ha hb=>iW hM2 (by rw[hzz];rfl) (by simp only[List.all_cons,List.all_nil,ha,hb,Bool.and_true])
  have r2:∀(w:List AV) (e:List AV) (h:AH) (off n:Nat),(St.mk e (M.set (([]:List (List AV)).length+2) w) h).cells (.lp (([]:List (List AV)).length+2) off) n=sub w off n:=fun w e h off n=>ck (g8 hM2)
  have sy:∀(e:List AV) (h:AH),(St.mk e M h).store (.lp (([]:List (List AV)).length+2) 0) [.int .i64 y.kind,.int .i64 y.n]=some ⟨e,M.set (([]:List (List AV)).length+2) [.int .i64 y.kind,.int .i64 y.n],h⟩:=fun e h=>s2 e h _ _ rfl rfl
  simp only[EZ,ag,Nat.reduceAdd,Nat.reduceBEq,mo,yx,r0,ar.c,L0]
  refine bP (fun hlt=>?_) (fun hge=>?_)
  rotate_left
  · have hge:k=v.entities.length+1:=by simp at hge;omega
    subst hge
    simp only[EZ,ag,Nat.reduceAdd,Nat.reduceBEq,mo]
    refine al.val (by simp only[EO]) (B5 _) ?_
    simp only[EZ,ag,Nat.reduceAdd,Nat.reduceBEq,mo,s2 _ _ _ _ (show bU (AV.int .i64 2)=true from rfl) (show bU (AV.int .i64 0)=true from rfl),aR,ae.c,r2]
    rw[hl,Nat.sub_self]
    first|exact⟨rfl,rfl⟩|rfl
  have hlt:k<v.entities.length+1:=by simp at hlt;omega
  obtain⟨m,hm⟩:∃m,v.entities.length+1-k=m+1:=⟨v.entities.length-k,by omega⟩
  rw[hm]at hl
  have stop:jR v.entities y=none→cg v x=y:=fun hn=>by rw[hl,kV hn]
  by_cases b1:y.kind=1
  rotate_left
  · simp only[EZ,ag,Nat.reduceAdd,Nat.reduceBEq,mo,r0,r1,ar.c,L0,ah,an,decide_eq_false b1,sy,r2]
    have:=stop (kv b1)
    first|exact⟨rfl,by rw[this]⟩|(rw[this];done)|exact⟨rfl,by rw[this];rfl⟩
  simp only[EZ,ag,Nat.reduceAdd,Nat.reduceBEq,mo,r0,r1,ar.c,L0,ah,an,decide_eq_true b1]
  refine al.val (by simp only[EO]) (dW _ _ _ _) ?_
  rw[cZ _ hv]
  cases e1:cO y.n v.entities.length
  · simp only[EZ,ag,Nat.reduceAdd,Nat.reduceBEq,mo,r0,r1,sy,r2]
    have:=stop (zV e1)
    first|exact⟨rfl,by rw[this]⟩|(rw[this];done)|exact⟨rfl,by rw[this];rfl⟩
  obtain⟨j,ej,hj⟩:=nh e1
  have i0:=dU (β:=β) (sz:=12) (ex:=false) (ce:=aq.c β) hj
  have nx:=pP (es:=v.entities) b1 hj ej
  obtain⟨e,he⟩:∃e,e=v.entities[j]:=⟨_,rfl⟩
  rw[←he]at i0 nx
  have r0':∀(z:List AV) (e:List AV) (h:AH) (off n:Nat),(St.mk e (M++[z]) h).cells (.lp ([]:List (List AV)).length off) n=sub (v.c β) off n:=fun z e h off n=>ck (fv hM0 _)
  have r1':∀(z:List AV) (e:List AV) (h:AH) (off n:Nat),(St.mk e (M++[z]) h).cells (.lp (([]:List (List AV)).length+1) off) n=sub [.int .i64 y.kind,.int .i64 y.n] off n:=fun z e h off n=>ck (fv hM1 _)
  have sy':∀(z:List AV) (e:List AV) (h:AH) (a b:Int),(St.mk e (M++[z]) h).store (.lp (([]:List (List AV)).length+2) 0) [.int .i64 a,.int .i64 b]=some ⟨e,(M++[z]).set (([]:List (List AV)).length+2) [.int .i64 a,.int .i64 b],h⟩:=fun z e h a b=>iW (fv hM2 _) (by rw[hzz];rfl) rfl
  have r2':∀(z w:List AV) (e:List AV) (h:AH) (off n:Nat),(St.mk e ((M++[z]).set (([]:List (List AV)).length+2) w) h).cells (.lp (([]:List (List AV)).length+2) off) n=sub w off n:=fun z w e h off n=>ck (g8 (fv hM2 _))
  have rl:∀(z:List AV) (e:List AV) (h:AH) (off n:Nat),(St.mk e (M++[z]) h).cells (.lp M.length off) n=sub z off n:=fun z e h off n=>ck (sD _ _)
  have s1':∀(z:List AV) (e:List AV) (h:AH) (a b:Int),(St.mk e (M++[z]) h).store (.lp (([]:List (List AV)).length+1) 0) [.int .i64 a,.int .i64 b]=some ⟨e,(M++[z]).set (([]:List (List AV)).length+1) [.int .i64 a,.int .i64 b],h⟩:=fun z e h a b=>iW (fv hM1 _) rfl rfl
  by_cases b2:e.kind=2
  rotate_left
  · simp only[EZ,ag,Nat.reduceAdd,Nat.reduceBEq,mo,aE,r0,r1,ar.c,L0,ej,i0,aq.c,rl,ah,an,decide_eq_false b2,r1',sy',r2']
    have:=stop (by rw[nx,if_neg (fun h=>b2 h.1)])
    first|exact⟨rfl,by rw[this,ej]⟩|(rw[this,ej];done)
  by_cases b3:e.state=2
  rotate_left
  · simp only[EZ,ag,Nat.reduceAdd,Nat.reduceBEq,mo,aE,r0,r1,ar.c,L0,ej,i0,aq.c,rl,ah,an,decide_eq_true b2,decide_eq_false b3,r1',sy',r2']
    have:=stop (by rw[nx,if_neg (fun h=>b3 h.2)])
    first|exact⟨rfl,by rw[this,ej]⟩|(rw[this,ej];done)
  simp only[EZ,ag,Nat.reduceAdd,Nat.reduceBEq,mo,aE,r0,r1,ar.c,L0,ej,i0,aq.c,rl,ah,an,decide_eq_true b2,decide_eq_true b3,s1']
  exact⟨(k+1,e.value,_),⟨hlt,by simp only;rw[hl,yO (by rw[nx,if_pos ⟨b2,b3⟩]),show v.entities.length+1-(k+1)=m by omega],ij (fv hM0 _) (by simp),g8 (fv hM1 _),⟨zz,ij (fv hM2 _) (by simp),hzz⟩⟩,by simp only;omega,⟨by rw[wN (by omega)];simp[yx,fY,fO],rfl,rfl⟩⟩
theorem zO(β:Bool)(v:ar)(hv:v.entities.length≤1048576)(x:ae)(H:AH){p:AV}(hp:Ptr H p (v.c β)):T Tryz.prog Γ Fn.Fw [p,.agg (x.c false)] H fun r h'=>r=.agg ((cg v x).c false)∧h'=H:=by
  have L0:=di β 12 false v.entities (aq.c β)
  have wl:IntKind.i64.wrap ((v.entities.length:Int)+1)=((v.entities.length+1:Nat):Int):=wN (by omega)
  refine Nn (au aC aD [] _ _ _ ?_)
  unfold Ig
  simp only[EZ,ag,Nat.reduceAdd,Nat.reduceBEq,mh,aE,ae.c,hp.nil,hp.fld,hp.rd,ar.iU,Nat.reduceLeDiff,ar.c,L0,wl]
  refine et aC aD [] (fun y:Nat×ae×List (List AV)=>y.1≤v.entities.length+1∧cg v x=kQ v.entities (v.entities.length+1-y.1) y.2.1∧y.2.2[([]:List (List AV)).length]? = some [.int .i64 y.2.1.kind,.int .i64 y.2.1.n]∧∃zz,y.2.2[([]:List (List AV)).length+1]? = some zz∧zz.length=2) (fun y=>v.entities.length+1-y.1)
    (fun y=>xQ p (.lp ([]:List (List AV)).length 0) (.lp (([]:List (List AV)).length+1) 0) (.int .i64 ((v.entities.length+1:Nat):Int)) (.int .i64 y.1) y.2.2 H) (0,x,_) ⟨by simp,rfl,rfl,⟨_,rfl,rfl⟩⟩ ⟨by simp[xQ,fY,fO],rfl,rfl⟩ ?_
  rintro⟨k,y,M⟩ ⟨hk,hl,hM1,zz,hM2,hzz⟩
  simp only at hk hl hM1 hM2
  have r1:∀(e:List AV) (h:AH) (off n:Nat),(St.mk e M h).cells (.lp ([]:List (List AV)).length off) n=sub [.int .i64 y.kind,.int .i64 y.n] off n:=fun e h off n=>ck hM1
  have s2:∀(e:List AV) (h:AH) (a b:Int),(St.mk e M h).store (.lp (([]:List (List AV)).length+1) 0) [.int .i64 a,.int .i64 b]=some ⟨e,M.set (([]:List (List AV)).length+1) [.int .i64 a,.int .i64 b],h⟩:=fun e h a b=>iW hM2 (by rw[hzz];rfl) rfl
  have r2:∀(w:List AV) (e:List AV) (h:AH) (off n:Nat),(St.mk e (M.set (([]:List (List AV)).length+1) w) h).cells (.lp (([]:List (List AV)).length+1) off) n=sub w off n:=fun w e h off n=>ck (g8 hM2)
  have s1:∀(e:List AV) (h:AH) (a b:Int),(St.mk e M h).store (.lp ([]:List (List AV)).length 0) [.int .i64 a,.int .i64 b]=some ⟨e,M.set ([]:List (List AV)).length [.int .i64 a,.int .i64 b],h⟩:=fun e h a b=>iW hM1 rfl rfl
  simp only[EZ,ag,Nat.reduceAdd,Nat.reduceBEq,mh,xQ]
  refine bP (fun hlt=>?_) (fun hge=>?_)
  rotate_left
  · have hge:k=v.entities.length+1:=by simp at hge;omega
    subst hge
    simp only[EZ,ag,Nat.reduceAdd,Nat.reduceBEq,mh]
    refine al.val (by simp only[EO]) (Aj _) ?_
    simp only[EZ,ag,Nat.reduceAdd,Nat.reduceBEq,mh,s2,aR,ae.c,r2]
    rw[hl,Nat.sub_self]
    first|exact⟨rfl,rfl⟩|rfl
  have hlt:k<v.entities.length+1:=by simp at hlt;omega
  obtain⟨m,hm⟩:∃m,v.entities.length+1-k=m+1:=⟨v.entities.length-k,by omega⟩
  rw[hm]at hl
  have stop:jR v.entities y=none→cg v x=y:=fun hn=>by rw[hl,kV hn]
  by_cases b1:y.kind=1
  rotate_left
  · simp only[EZ,ag,Nat.reduceAdd,Nat.reduceBEq,mh,r1,ah,an,decide_eq_false b1,s2,r2]
    have:=stop (kv b1)
    first|exact⟨rfl,by rw[this]⟩|(rw[this];done)|exact⟨rfl,by rw[this];rfl⟩
  simp only[EZ,ag,Nat.reduceAdd,Nat.reduceBEq,mh,r1,ah,an,decide_eq_true b1]
  refine al.ref (by simp only[EO,hp.out]) (Fs β v hv y.n H hp) ?_
  rintro r H1 ⟨⟨j,hj,ej,rfl⟩|⟨ho,rfl⟩,eH⟩
  rotate_left
  · replace eH:H1=H:=eH
    subst eH
    simp only[EZ,ag,Nat.reduceAdd,Nat.reduceBEq,mh,r1,ah,an,decide_eq_true b1,s2,r2]
    have e1:cO y.n v.entities.length=false:=by
      cases hh:cO y.n v.entities.length
      · rfl
      · obtain⟨j,ej,hj⟩:=nh hh
        have:=ho j ej;omega
    have:=stop (zV e1)
    first|exact⟨rfl,by rw[this]⟩|(rw[this];done)|exact⟨rfl,by rw[this];rfl⟩
  replace eH:H1=H:=eH
  subst eH
  have nx:=pP (es:=v.entities) b1 hj ej
  obtain⟨e,he⟩:∃e,e=v.entities[j]:=⟨_,rfl⟩
  rw[←he]at nx
  by_cases b2:e.kind=2
  rotate_left
  · simp only[EZ,ag,Nat.reduceAdd,Nat.reduceBEq,mh,aE,←he,r1,aq.c,ah,an,decide_eq_false b2,s2,r2]
    have:=stop (by rw[nx,if_neg (fun h=>b2 h.1)])
    first|exact⟨rfl,by rw[this]⟩|(rw[this];done)
  by_cases b3:e.state=2
  rotate_left
  · simp only[EZ,ag,Nat.reduceAdd,Nat.reduceBEq,mh,aE,←he,r1,aq.c,ah,an,decide_eq_true b2,decide_eq_false b3,s2,r2]
    have:=stop (by rw[nx,if_neg (fun h=>b3 h.2)])
    first|exact⟨rfl,by rw[this]⟩|(rw[this];done)
  simp only[EZ,ag,Nat.reduceAdd,Nat.reduceBEq,mh,aE,←he,r1,aq.c,ah,an,decide_eq_true b2,decide_eq_true b3,s1]
  exact⟨(k+1,e.value,_),⟨hlt,by simp only;rw[hl,yO (by rw[nx,if_pos ⟨b2,b3⟩]),show v.entities.length+1-(k+1)=m by omega],g8 hM1,⟨zz,ij hM2 (by simp),hzz⟩⟩,by simp only;omega,⟨by rw[wN (by omega)];simp[xQ,fY,fO],rfl,rfl⟩⟩
end Go.Proofs.YtccjhmhkfnnmaaaGreat
namespace Go.Proofs.YtccjhmhkfnnmaaaGreat
open Go.AM
variable {Γ:bY}
set_option maxHeartbeats 4000000 in
set_option maxRecDepth 100000 in
theorem Qp(β:Bool)(v:ar)(hv:v.ok 1048576)(h:AH):T Tryz.prog Γ Fn.Ti [.agg (v.c β)] h (aV h [.a v.cd]):=by
  have L0:=di β 12 false v.entities (aq.c β)
  have L1:=di β 7 false v.links (aB.c β)
  have L2:=di β 13 false v.out (aJ.c β)
  obtain⟨hv1,hv2,hv3,hv4,hv5,hv6,hv7,hv8⟩:=hv
  refine T.iX ?_
  refine OC (au aC aD [] _ _ _ ?_)
  unfold J7
  simp only[EZ,ag,Nat.reduceAdd,Nat.reduceBEq,jx,e9,fy,eW,e8,aE,ER,ar.c]
  refine⟨?_,?_⟩
  refine al.ref (by simp only[EO]) (Dc β v.loop hv3 hv4 _) ?_
  rintro w1 H1 fr
  replace fr:aV h _ _ _:=fr
  obtain⟨f1,o1,n1,b1,e1⟩:=fr.c1
  obtain⟨a1,a2,a3,a4⟩:=o1.cell
  simp only[EZ,ag,Nat.reduceAdd,Nat.reduceBEq,jx,e9,fy,eW,e8,aE,ER,ar.c,a1,a2,a3,L0]
  refine⟨(by first|exact e1.mem _ _ _|exact dg (e1.mem _ _ _)),(by first|exact Mem.loc ⟨_,([]:List (List AV))++[_,_],H1⟩ _ [_]|exact dg (Mem.loc ⟨_,([]:List (List AV))++[_,_],H1⟩ _ [_])),?_⟩
  rotate_left
  refine⟨(by first|exact Mem.loc ⟨_,([]:List (List AV))++[_,_],h⟩ _ [_]|exact dg (Mem.loc ⟨_,([]:List (List AV))++[_,_],h⟩ _ [_])),?_⟩
  refine al.ref (by simp only[EO]) (Dc β v.loop hv3 hv4 _) ?_
  rintro w1 H1 fr
  replace fr:aV h _ _ _:=fr
  obtain⟨f1,o1,n1,b1,e1⟩:=fr.c1
  obtain⟨a1,a2,a3,a4⟩:=o1.cell
  simp only[EZ,ag,Nat.reduceAdd,Nat.reduceBEq,jx,e9,fy,eW,e8,aE,ER,ar.c,a1,a2,a3,L0]
  refine⟨(by first|exact e1.mem _ _ _|exact dg (e1.mem _ _ _)),?_⟩
  rotate_left
  all_goals (
    refine et aC aD [] (fun y:Nat×AV×AH×List Nat×List (List AV)=>y.1≤v.entities.length∧b6 y.2.2.1 y.2.1 (.sl 12 ((v.entities.take y.1).map aq.cd)) y.2.2.2.1∧y.2.2.2.1.Nodup∧(∀c∈y.2.2.2.1,H1.length≤c)∧cn H1 y.2.2.1∧y.2.2.2.2[([]:List (List AV)).length]? = some (v.c β)∧(∃zzE,y.2.2.2.2[([]:List (List AV)).length+1]? = some zzE∧zzE.length=5)∧y.2.2.2.2[([]:List (List AV)).length+2]? = some [AV.int .i64 v.id,y.2.1,w1,.nils,.nils]) (fun y=>v.entities.length-y.1)
      (fun y=>yR (.lp ([]:List (List AV)).length 0) (.lp (([]:List (List AV)).length+1) 0) (.lp (([]:List (List AV)).length+2) 0) (.vs β 12 false (v.entities.map (aq.c β))) (.int .i64 v.entities.length) (.int .i64 y.1) y.2.2.2.2 y.2.2.1) (0,.nils,H1,[],_) ⟨by simp,.nil _,by simp,by simp,cn.refl _,rfl,⟨_,rfl,rfl⟩,rfl⟩ ⟨by simp[yR,fY,fO],rfl,rfl⟩ ?_
    rintro⟨k,wE,HE,fpE,ME⟩ ⟨hk,hoE,ndE,hfpE,hxE,hM0E,⟨zzE,hM1E,hzzE⟩,hM2E⟩
    simp only at hk hoE ndE hfpE hxE hM0E hM1E hM2E
    have hMlE:([]:List (List AV)).length+2<ME.length:=ay hM2E
    obtain⟨k1E,k2E,k3E,k4E⟩:=hoE.cell
    simp only[EZ,ag,Nat.reduceAdd,Nat.reduceBEq,jx,e9,fy,eW,e8,yR]
    refine bP (fun hlt=>?_) (fun hge=>?_)
    · have hlt:k<v.entities.length:=by simpa using hlt
      have i0:=dU (β:=β) (sz:=12) (ex:=false) (ce:=aq.c β) hlt
      have he:=hv2 _ (List.getElem_mem hlt)
      generalize hxe:v.entities[k]=x at *
      have r2:∀(z:List AV) (e:List AV) (h:AH) (off n:Nat),(St.mk e (ME++[z]) h).cells (.lp (([]:List (List AV)).length+2) off) n=sub [AV.int .i64 v.id,wE,w1,.nils,.nils] off n:=fun z e h off n=>ck (fv hM2E _)
      have rl:∀(z:List AV) (e:List AV) (h:AH) (off n:Nat),(St.mk e (ME++[z]) h).cells (.lp ME.length off) n=sub z off n:=fun z e h off n=>ck (sD _ _)
      have s2:∀(z:List AV) (e:List AV) (h:AH) (a:AV),bU a=true→(St.mk e (ME++[z]) h).store (.lp (([]:List (List AV)).length+2) 1) [a]=some ⟨e,(ME++[z]).set (([]:List (List AV)).length+2) (cD [AV.int .i64 v.id,wE,w1,.nils,.nils] 1 [a]),h⟩:=fun z e h a ha=>kU (fv hM2E _) (by simp) ha
      simp only[EZ,ag,Nat.reduceAdd,Nat.reduceBEq,jx,e9,fy,eW,e8,i0,aq.c,aE,r2,rl,k1E,k2E,k3E]
      refine al.ref (by simp only[EO]) (QZ β x he _) ?_
      rintro _ Hc fr
      replace fr:aV HE _ _ _:=fr
      obtain⟨aw,fw,rfl,ow,nw,bw,ew⟩:=fr.a1
      have hdis:(fpE++fw).Nodup:=dO ndE nw (fun c hc=>hoE.lt c hc) bw
      replace hoE:=hoE.ext ew
      have hx1:=hxE.trans ew
      have oo:=ow
      simp only[aq.cd,fW,fN,gB,iH,iv]at oo
      obtain⟨_,_,_,_,rfl,_,⟨rfl,rfl⟩,⟨_,_,_,_,rfl,_,⟨rfl,rfl⟩,⟨az2,_,_,_,rfl,_,uz2,⟨_,_,_,_,rfl,_,⟨rfl,rfl⟩,⟨_,_,_,_,rfl,_,⟨rfl,rfl⟩,⟨_,_,_,_,rfl,_,⟨rfl,rfl⟩,⟨az6,_,_,_,rfl,_,uz6,⟨az7,_,_,_,rfl,_,uz7,⟨_,_,_,_,rfl,_,⟨rfl,rfl⟩,⟨_,_,_,_,rfl,_,⟨rfl,rfl⟩,⟨_,_,_,_,rfl,_,⟨rfl,rfl⟩,⟨_,_,_,_,rfl,_,⟨rfl,rfl⟩,⟨rfl,_⟩⟩⟩⟩⟩⟩⟩⟩⟩⟩⟩⟩⟩:=oo
      obtain⟨cz2a,cz2b,cz2c,cz2d⟩:=uz2.cell
      obtain⟨cz6a,cz6b,cz6c,cz6d⟩:=uz6.cell
      obtain⟨cz7a,cz7b,cz7c,cz7d⟩:=uz7.cell
      obtain⟨v',H',fp',ea,o',nd',hf',hl',hm'⟩:=cY (bytes:=144) hoE hdis (by omega) rfl ow (by simp only[List.length_map,List.length_take,aQ];omega)
      obtain⟨j1,j2,j3,j4⟩:=o'.cell
      simp only[EZ,ag,Nat.reduceAdd,Nat.reduceBEq,jx,e9,fy,eW,e8,EA,aE,ER,cz2a,cz2b,cz2c,cz6a,cz6b,cz6c,cz7a,cz7b,cz7c,r2,rl,k1E,k2E,k3E,ea,j1,j2,j3,s2 _ _ _ _ j2]
      have hl9:=hxE.len
      have hl8:=hx1.len
      have hb':∀c∈fp',H1.length≤c:=fun c hc=>by
        rcases hm' c hc with g|g|g
        · exact hfpE c g
        · have:=bw c g;omega
        · omega
      refine⟨(by first|exact ew.mem _ _ _|exact dg (ew.mem _ _ _)),?_⟩
      exact⟨(k+1,v',H',fp',_),⟨hlt,by simp only;rw[List.take_succ_eq_append_getElem hlt,List.map_append,hxe];exact o',nd',hb',hx1.yZ hl' hf' hfpE,ij (fv hM0E _) (by simp),⟨zzE,ij (fv hM1E _) (by simp),hzzE⟩,g8 (fv hM2E _)⟩,by simp only;omega,⟨by rw[wN (by omega)];simp[yR,fY,fO],rfl,rfl⟩⟩
    have hge:k=v.entities.length:=by simp at hge;omega
    subst hge
    rw[List.take_length]at hoE
    simp only[EZ,ag,Nat.reduceAdd,Nat.reduceBEq,jx,e9,fy,eW,e8,show ∀(e:List AV) (h:AH) (off n:Nat),(St.mk e ME h).cells (.lp ([]:List (List AV)).length off) n=sub (v.c β) off n from fun e h off n=>ck hM0E,show ∀(e:List AV) (h:AH) (off n:Nat),(St.mk e ME h).cells (.lp (([]:List (List AV)).length+2) off) n=sub [AV.int .i64 v.id,wE,w1,.nils,.nils] off n from fun e h off n=>ck hM2E,ar.c,L0,L1,L2,ER,aE]
    refine et aC aD [] (fun y:Nat×AV×AH×List Nat×List (List AV)=>y.1≤v.links.length∧b6 y.2.2.1 y.2.1 (.sl 7 ((v.links.take y.1).map aB.cd)) y.2.2.2.1∧y.2.2.2.1.Nodup∧(∀c∈y.2.2.2.1,HE.length≤c)∧cn HE y.2.2.1∧y.2.2.2.2[([]:List (List AV)).length]? = some (v.c β)∧(∃zzL,y.2.2.2.2[([]:List (List AV)).length+1]? = some zzL∧zzL.length=5)∧y.2.2.2.2[([]:List (List AV)).length+2]? = some [AV.int .i64 v.id,wE,w1,y.2.1,.nils]) (fun y=>v.links.length-y.1)
      (fun y=>yz (.lp ([]:List (List AV)).length 0) (.lp (([]:List (List AV)).length+1) 0) (.lp (([]:List (List AV)).length+2) 0) (.vs β 7 false (v.links.map (aB.c β))) (.int .i64 v.links.length) (.int .i64 y.1) y.2.2.2.2 y.2.2.1) (0,.nils,HE,[],_) ⟨by simp,.nil _,by simp,by simp,cn.refl _,hM0E,⟨zzE,hM1E,hzzE⟩,hM2E⟩ ⟨by simp[yz,fY,fO],rfl,rfl⟩ ?_
    rintro⟨k,wL,HL,fpL,ML⟩ ⟨hk,hoL,ndL,hfpL,hxL,hM0L,⟨zzL,hM1L,hzzL⟩,hM2L⟩
    simp only at hk hoL ndL hfpL hxL hM0L hM1L hM2L
    have hMlL:([]:List (List AV)).length+2<ML.length:=ay hM2L
    obtain⟨k1L,k2L,k3L,k4L⟩:=hoL.cell
    simp only[EZ,ag,Nat.reduceAdd,Nat.reduceBEq,jx,e9,fy,eW,e8,yz]
    refine bP (fun hlt=>?_) (fun hge=>?_)
    · have hlt:k<v.links.length:=by simpa using hlt
      have i0:=dU (β:=β) (sz:=7) (ex:=false) (ce:=aB.c β) hlt
      have he:=hv6 _ (List.getElem_mem hlt)
      generalize hxe:v.links[k]=x at *
      have r2:∀(z:List AV) (e:List AV) (h:AH) (off n:Nat),(St.mk e (ML++[z]) h).cells (.lp (([]:List (List AV)).length+2) off) n=sub [AV.int .i64 v.id,wE,w1,wL,.nils] off n:=fun z e h off n=>ck (fv hM2L _)
      have rl:∀(z:List AV) (e:List AV) (h:AH) (off n:Nat),(St.mk e (ML++[z]) h).cells (.lp ML.length off) n=sub z off n:=fun z e h off n=>ck (sD _ _)
      have s2:∀(z:List AV) (e:List AV) (h:AH) (a:AV),bU a=true→(St.mk e (ML++[z]) h).store (.lp (([]:List (List AV)).length+2) 3) [a]=some ⟨e,(ML++[z]).set (([]:List (List AV)).length+2) (cD [AV.int .i64 v.id,wE,w1,wL,.nils] 3 [a]),h⟩:=fun z e h a ha=>kU (fv hM2L _) (by simp) ha
      simp only[EZ,ag,Nat.reduceAdd,Nat.reduceBEq,jx,e9,fy,eW,e8,i0,aB.c,aE,r2,rl,k1L,k2L,k3L]
      refine al.ref (by simp only[EO]) (P3 β x he _) ?_
      rintro _ Hc fr
      replace fr:aV HL _ _ _:=fr
      obtain⟨aw,fw,rfl,ow,nw,bw,ew⟩:=fr.a1
      have hdis:(fpL++fw).Nodup:=dO ndL nw (fun c hc=>hoL.lt c hc) bw
      replace hoL:=hoL.ext ew
      have hx1:=hxL.trans ew
      have oo:=ow
      simp only[aB.cd,fW,fN,gB,iH,iv]at oo
      obtain⟨_,_,_,_,rfl,_,⟨rfl,rfl⟩,⟨_,_,_,_,rfl,_,⟨rfl,rfl⟩,⟨az2,_,_,_,rfl,_,uz2,⟨_,_,_,_,rfl,_,⟨rfl,rfl⟩,⟨az4,_,_,_,rfl,_,uz4,⟨_,_,_,_,rfl,_,⟨rfl,rfl⟩,⟨az6,_,_,_,rfl,_,uz6,⟨rfl,_⟩⟩⟩⟩⟩⟩⟩⟩:=oo
      obtain⟨cz2a,cz2b,cz2c,cz2d⟩:=uz2.cell
      obtain⟨cz4a,cz4b,cz4c,cz4d⟩:=uz4.cell
      obtain⟨cz6a,cz6b,cz6c,cz6d⟩:=uz6.cell
      obtain⟨v',H',fp',ea,o',nd',hf',hl',hm'⟩:=cY (bytes:=104) hoL hdis (by omega) rfl ow (by simp only[List.length_map,List.length_take,aQ];omega)
      obtain⟨j1,j2,j3,j4⟩:=o'.cell
      simp only[EZ,ag,Nat.reduceAdd,Nat.reduceBEq,jx,e9,fy,eW,e8,EA,aE,ER,cz2a,cz2b,cz2c,cz4a,cz4b,cz4c,cz6a,cz6b,cz6c,r2,rl,k1L,k2L,k3L,ea,j1,j2,j3,s2 _ _ _ _ j2]
      have hl9:=hxL.len
      have hl8:=hx1.len
      have hb':∀c∈fp',HE.length≤c:=fun c hc=>by
        rcases hm' c hc with g|g|g
        · exact hfpL c g
        · have:=bw c g;omega
        · omega
      refine⟨(by first|exact ew.mem _ _ _|exact dg (ew.mem _ _ _)),?_⟩
      exact⟨(k+1,v',H',fp',_),⟨hlt,by simp only;rw[List.take_succ_eq_append_getElem hlt,List.map_append,hxe];exact o',nd',hb',hx1.yZ hl' hf' hfpL,ij (fv hM0L _) (by simp),⟨zzL,ij (fv hM1L _) (by simp),hzzL⟩,g8 (fv hM2L _)⟩,by simp only;omega,⟨by rw[wN (by omega)];simp[yz,fY,fO],rfl,rfl⟩⟩
    have hge:k=v.links.length:=by simp at hge;omega
    subst hge
    rw[List.take_length]at hoL
    simp only[EZ,ag,Nat.reduceAdd,Nat.reduceBEq,jx,e9,fy,eW,e8,show ∀(e:List AV) (h:AH) (off n:Nat),(St.mk e ML h).cells (.lp ([]:List (List AV)).length off) n=sub (v.c β) off n from fun e h off n=>ck hM0L,show ∀(e:List AV) (h:AH) (off n:Nat),(St.mk e ML h).cells (.lp (([]:List (List AV)).length+2) off) n=sub [AV.int .i64 v.id,wE,w1,wL,.nils] off n from fun e h off n=>ck hM2L,ar.c,L0,L1,L2,ER,aE]
    refine et aC aD [] (fun y:Nat×AV×AH×List Nat×List (List AV)=>y.1≤v.out.length∧b6 y.2.2.1 y.2.1 (.sl 13 ((v.out.take y.1).map aJ.cd)) y.2.2.2.1∧y.2.2.2.1.Nodup∧(∀c∈y.2.2.2.1,HL.length≤c)∧cn HL y.2.2.1∧y.2.2.2.2[([]:List (List AV)).length]? = some (v.c β)∧(∃zzO,y.2.2.2.2[([]:List (List AV)).length+1]? = some zzO∧zzO.length=5)∧y.2.2.2.2[([]:List (List AV)).length+2]? = some [AV.int .i64 v.id,wE,w1,wL,y.2.1]) (fun y=>v.out.length-y.1)
      (fun y=>yI (.lp (([]:List (List AV)).length+1) 0) (.lp (([]:List (List AV)).length+2) 0) (.vs β 13 false (v.out.map (aJ.c β))) (.int .i64 v.out.length) (.int .i64 y.1) y.2.2.2.2 y.2.2.1) (0,.nils,HL,[],_) ⟨by simp,.nil _,by simp,by simp,cn.refl _,hM0L,⟨zzL,hM1L,hzzL⟩,hM2L⟩ ⟨by simp[yI,fY,fO],rfl,rfl⟩ ?_
    rintro⟨k,wO,HO,fpO,MO⟩ ⟨hk,hoO,ndO,hfpO,hxO,hM0O,⟨zzO,hM1O,hzzO⟩,hM2O⟩
    simp only at hk hoO ndO hfpO hxO hM0O hM1O hM2O
    have hMlO:([]:List (List AV)).length+2<MO.length:=ay hM2O
    obtain⟨k1O,k2O,k3O,k4O⟩:=hoO.cell
    simp only[EZ,ag,Nat.reduceAdd,Nat.reduceBEq,jx,e9,fy,eW,e8,yI]
    refine bP (fun hlt=>?_) (fun hge=>?_)
    · have hlt:k<v.out.length:=by simpa using hlt
      have i0:=dU (β:=β) (sz:=13) (ex:=false) (ce:=aJ.c β) hlt
      have he:=hv8 _ (List.getElem_mem hlt)
      generalize hxe:v.out[k]=x at *
      have r2:∀(z:List AV) (e:List AV) (h:AH) (off n:Nat),(St.mk e (MO++[z]) h).cells (.lp (([]:List (List AV)).length+2) off) n=sub [AV.int .i64 v.id,wE,w1,wL,wO] off n:=fun z e h off n=>ck (fv hM2O _)
      have rl:∀(z:List AV) (e:List AV) (h:AH) (off n:Nat),(St.mk e (MO++[z]) h).cells (.lp MO.length off) n=sub z off n:=fun z e h off n=>ck (sD _ _)
      have s2:∀(z:List AV) (e:List AV) (h:AH) (a:AV),bU a=true→(St.mk e (MO++[z]) h).store (.lp (([]:List (List AV)).length+2) 4) [a]=some ⟨e,(MO++[z]).set (([]:List (List AV)).length+2) (cD [AV.int .i64 v.id,wE,w1,wL,wO] 4 [a]),h⟩:=fun z e h a ha=>kU (fv hM2O _) (by simp) ha
      simp only[EZ,ag,Nat.reduceAdd,Nat.reduceBEq,jx,e9,fy,eW,e8,i0,aJ.c,aE,r2,rl,k1O,k2O,k3O]
      refine al.ref (by simp only[EO]) (No β x.message he _) ?_
      rintro _ Hc fr
      replace fr:aV HO _ _ _:=fr
      obtain⟨aw,fw,rfl,ow,nw,bw,ew⟩:=fr.a1
      have hdis:(fpO++fw).Nodup:=dO ndO nw (fun c hc=>hoO.lt c hc) bw
      replace hoO:=hoO.ext ew
      have hx1:=hxO.trans ew
      have oo:=ow
      simp only[bm.cd,fW,fN,gB,iH,iv]at oo
      obtain⟨_,_,_,_,rfl,_,⟨rfl,rfl⟩,⟨_,_,_,_,rfl,_,⟨rfl,rfl⟩,⟨_,_,_,_,rfl,_,⟨rfl,rfl⟩,⟨_,_,_,_,rfl,_,⟨rfl,rfl⟩,⟨_,_,_,_,rfl,_,⟨rfl,rfl⟩,⟨az5,_,_,_,rfl,_,uz5,⟨_,_,_,_,rfl,_,⟨rfl,rfl⟩,⟨_,_,_,_,rfl,_,⟨rfl,rfl⟩,⟨_,_,_,_,rfl,_,⟨rfl,rfl⟩,⟨_,_,_,_,rfl,_,⟨rfl,rfl⟩,⟨_,_,_,_,rfl,_,⟨rfl,rfl⟩,⟨_,_,_,_,rfl,_,⟨rfl,rfl⟩,⟨rfl,_⟩⟩⟩⟩⟩⟩⟩⟩⟩⟩⟩⟩⟩:=oo
      obtain⟨cz5a,cz5b,cz5c,cz5d⟩:=uz5.cell
      obtain⟨v',H',fp',ea,o',nd',hf',hl',hm'⟩:=cY (bytes:=128) hoO hdis (by omega) rfl (aG.i (k:=.i64) (n:=x.to_) ow) (by simp only[List.length_map,List.length_take,aQ];omega)
      obtain⟨j1,j2,j3,j4⟩:=o'.cell
      simp only[EZ,ag,Nat.reduceAdd,Nat.reduceBEq,jx,e9,fy,eW,e8,EA,aE,ER,cz5a,cz5b,cz5c,r2,rl,k1O,k2O,k3O,ea,j1,j2,j3,s2 _ _ _ _ j2]
      have hl9:=hxO.len
      have hl8:=hx1.len
      have hb':∀c∈fp',HL.length≤c:=fun c hc=>by
        rcases hm' c hc with g|g|g
        · exact hfpO c g
        · have:=bw c g;omega
        · omega
      refine⟨(by first|exact ew.mem _ _ _|exact dg (ew.mem _ _ _)),?_⟩
      exact⟨(k+1,v',H',fp',_),⟨hlt,by simp only;rw[List.take_succ_eq_append_getElem hlt,List.map_append,hxe];exact o',nd',hb',hx1.yZ hl' hf' hfpO,ij (fv hM0O _) (by simp),⟨zzO,ij (fv hM1O _) (by simp),hzzO⟩,g8 (fv hM2O _)⟩,by simp only;omega,⟨by rw[wN (by omega)];simp[yI,fY,fO],rfl,rfl⟩⟩
    have hge:k=v.out.length:=by simp at hge;omega
    subst hge
    rw[List.take_length]at hoO
    simp only[EZ,ag,Nat.reduceAdd,Nat.reduceBEq,jx,e9,fy,eW,e8,show ∀(e:List AV) (h:AH) (off n:Nat),(St.mk e MO h).cells (.lp (([]:List (List AV)).length+2) off) n=sub [AV.int .i64 v.id,wE,w1,wL,wO] off n from fun e h off n=>ck hM2O,show ∀(e:List AV) (h:AH),(St.mk e MO h).store (.lp (([]:List (List AV)).length+1) 0) [AV.int .i64 v.id,wE,w1,wL,wO]=some ⟨e,MO.set (([]:List (List AV)).length+1) [AV.int .i64 v.id,wE,w1,wL,wO],h⟩ from fun e h=>iW hM1O (by rw[hzzO];rfl) (by simp[Gk,k2E,a2,k2L,k2O]),show ∀(e:List AV) (h:AH) (off n:Nat),(St.mk e (MO.set (([]:List (List AV)).length+1) [AV.int .i64 v.id,wE,w1,wL,wO]) h).cells (.lp (([]:List (List AV)).length+1) off) n=sub [AV.int .i64 v.id,wE,w1,wL,wO] off n from fun e h off n=>ck (g8 hM1O),ER,aE]
    have z1:=((o1.ext hxE).ext hxL).ext hxO
    have zE:=(hoE.ext hxL).ext hxO
    have zL:=hoL.ext hxO
    have y1:=e1.len
    have yE:=hxE.len
    have yL:=hxL.len
    have hE2:∀c∈fpE,c<HE.length:=fun c hc=>hoE.lt c hc
    have hL2:∀c∈fpL,c<HL.length:=fun c hc=>hoL.lt c hc
    have h12:∀c∈f1,c<H1.length:=fun c hc=>o1.lt c hc
    obtain⟨N,hN⟩:=(((e1.trans hxE).trans hxL).trans hxO).out
    refine⟨by simp[dJ,dY,a2,a3,a4,k2E,k3E,k4E,k2L,k3L,k4L,k2O,k3O,k4O,mO,mW,oU],_,N,fpE++(f1++(fpL++(fpO++[]))),rfl,hN,.i (.o zE (.o z1 (.o zL (.o hoO .nil)))),?_,fun c hc=>?_⟩
    · rw[List.append_nil]
      refine List.nodup_append.2 ⟨ndE,List.nodup_append.2 ⟨n1,List.nodup_append.2 ⟨ndL,ndO,fun x hx y hy=>?_⟩,fun x hx y hy=>?_⟩,fun x hx y hy=>?_⟩
      · have:=hL2 x hx;have:=hfpO y hy;omega
      · have:=h12 x hx
        rcases List.mem_append.1 hy with g|g
        · have:=hfpL y g;omega
        · have:=hfpO y g;omega
      · have:=hE2 x hx;have:=hfpE x hx
        rcases List.mem_append.1 hy with g|g
        · have:=h12 y g;omega
        · rcases List.mem_append.1 g with g|g
          · have:=hfpL y g;omega
          · have:=hfpO y g;omega
    · simp only[List.append_nil,List.mem_append]at hc
      rcases hc with g|g|g|g
      · have:=hfpE c g;omega
      · have:=b1 c g;omega
      · have:=hfpL c g;omega
      · have:=hfpO c g;omega)
end Go.Proofs.YtccjhmhkfnnmaaaGreat
