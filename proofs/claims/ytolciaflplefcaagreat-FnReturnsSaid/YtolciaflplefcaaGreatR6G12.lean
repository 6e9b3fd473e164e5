import Derived.Test.YtolciaflplefcaaGreatCodeFnReturns
import Derived.Test.YtolciaflplefcaaGreatAmG8
import Derived.Test.YtolciaflplefcaaGreatAmG9
set_option linter.unusedVariables false
set_option linter.unusedSimpArgs false
open Go.Proofs.Tryz renaming prog→pQ
open Nat renaming reduceAdd→Aaa,reduceBEq→Aab,reduceLeDiff→Aak,lt_or_ge→Aao,sub_self→Aaz
open List renaming append_nil→Aac,mem_append→Aad,length_nil→Aae,any_eq_true→Aaf,take_succ_eq_append_getElem→Aai,append_assoc→Aaj,getElem_mem→Aal,all_eq_true→Aam,find?_eq_none→Aan,getElem_of_mem→Aaq,take_length→Aar,length_take→Aas,length_map→Aat,map_append→Aau,mem_range→Aav,all_cons→Aax,all→AaA
open Bool renaming and_eq_true→Aag,false_and→Aah,and_false→Aap,true_and→Aaw,and_true→Aay
namespace Go.Proofs.YtolciaflplefcaaGreat
open Go.AM
variable {Γ:bG}
def tZ(n lo hi:Int):Bool:=decide (lo≤n) && decide (n≤hi)
theorem gQ(n lo hi:Int)(h:AH):T pQ Γ Fn.xG [.int .i64 n,.int .i64 lo,.int .i64 hi] h fun v h'=>v=.bool (tZ n lo hi)∧h'=h:=by
 refine Pu (aC aG mixed [] _ _ _ ?_);unfold LX;simp only[au,Aaa,Aab,Iz];refine oW (fun h1=>?_) (fun h1=>?_)<;>simp only[au,Aaa,Aab,Iz,h1]
 ·exact⟨rfl,by simp only[tZ,h1,Aaw]⟩
 ·exact⟨rfl,by simp only[tZ,h1,Aah]⟩
theorem xd(n lo hi:Int)(h:AH):T pQ Γ Fn.VN [.int .i64 n,.int .i64 lo,.int .i64 hi] h fun v h'=>v=.bool (tZ n lo hi)∧h'=h:=by
 refine Wu (aC aG mixed [] _ _ _ ?_);unfold QJ;simp only[au,Aaa,Aab,Kz];refine oW (fun h1=>?_) (fun h1=>?_)<;>simp only[au,Aaa,Aab,Kz,h1]
 ·exact⟨rfl,by simp only[tZ,h1,Aaw]⟩
 ·exact⟨rfl,by simp only[tZ,h1,Aah]⟩
def gO(l:List aE)(pos:Int):Int:=match l.find? (fun x=>x.pos == pos)with|some x=>x.entity|none=>-1
theorem DH{α:Type}{p:α→Bool}{l:List α}{k:Nat}(hk:k<l.length)(h0:∀(i:Nat) (hi:i<l.length),i<k→p l[i]=false)(h1:p l[k]=true):l.find? p=some l[k]:=by
 rw[List.find?_eq_some_iff_getElem];exact⟨h1,k,hk,rfl,fun j hj=>by simp[h0 j (by omega) hj]⟩
theorem zR{α:Type}{p:α→Bool}{l:List α}(h:∀(i:Nat) (hi:i<l.length),i<l.length→p l[i]=false):l.find? p=none:=by
 rw[Aan];intro x hx;obtain⟨i,hi,rfl⟩:=List.mem_iff_getElem.1 hx;simp[h i hi hi]
theorem J3(β:Bool)(l:aF)(hl:l.exports.length≤1048576)(pos:Int)(h:AH):T pQ Γ Fn.kbW [.agg (l.c β),.int .i64 pos] h fun v h'=>v=.int .i64 (gO l.exports pos)∧h'=h:=by
 have L0:=eY β 3 false l.exports (aE.c β);refine Wi (aC aG mixed [] _ _ _ ?_);unfold Tf;simp only[au,Aaa,Aab,C0];refine fD aG mixed [] (fun k:Nat=>k≤l.exports.length∧∀(i:Nat) (hi:i<l.exports.length),i<k→(l.exports[i].pos == pos)=false) (fun k=>l.exports.length-k)
  (fun k=>D6 (.int .i64 pos) (.lp ([]:List (List AV)).length 0) (.int .i64 k) (([]:List (List AV))++[l.c β]) h) 0 ⟨by omega,fun i hi h=>by omega⟩ ⟨by simp[D6,gW,gM],rfl,rfl⟩ ?_
 rintro k ⟨hk,ht⟩;simp only[au,Aaa,Aab,C0,D6,aF.c,L0];refine bz (fun hlt=>?_) (fun hge=>?_)
 ·have hlt:k<l.exports.length:=by simpa using hlt
  have i0:=fI (β:=β) (sz:=3) (ex:=false) (ce:=aE.c β) hlt;cases hp:l.exports[k].pos == pos
  ·simp only[au,Aaa,Aab,C0,i0,aF.c,aE.c,hp];exact⟨k+1,⟨hlt,qK (P:=fun x:aE=>(x.pos == pos)=false) ht hp⟩,by omega,⟨by rw[wN (by omega)];simp[D6,gW,gM],rfl,rfl⟩⟩
  ·simp only[au,Aaa,Aab,C0,i0,aF.c,aE.c,hp];exact⟨rfl,by simp only[gO,DH (p:=fun x:aE=>x.pos == pos) hlt ht hp]⟩
 ·have hge:k=l.exports.length:=by simp at hge;omega
  subst hge;simp only[au,Aaa,Aab,C0];exact⟨rfl,by simp only[gO,zR (p:=fun x:aE=>x.pos == pos) ht]⟩
theorem W6(β:Bool)(x:aE)(pos:Int)(H:AH){k:Nat}(hk:cF H k=some (0,[.int .i64 pos])):T pQ Γ Fn.kat [.agg (x.c β),.gp k 0 0] H fun v h'=>v=.bool (x.pos == pos)∧h'=H:=by
 refine XM (aC aG mixed [] _ _ _ ?_);unfold On;have hc:∀(e:List AV) (l:List (List AV)) (off n:Nat),(St.mk e l H).cells (.gp k 0 off) n=sub [.int .i64 pos] off n:=fun e l off n=>b8 hk;simp only[au,Aaa,Aab,Pg,aE.c,hc];first|exact⟨rfl,rfl⟩|exact rfl
theorem J8(β:Bool)(l:aF)(hl:l.exports.length≤1048576)(pos:Int)(H:AH){p:AV}(hp:Ptr H p (l.c β)):
 T pQ Γ Fn.kas [p,.int .i64 pos] H fun v h'=>v=.int .i64 (iq (fun x:aE=>x.pos == pos) l.exports)∧h'=H:=by
 refine(?_:T pQ Γ Fn.kas _ H fun v h'=>v=.int .i64 (iq (fun x:aE=>x.pos == pos) l.exports)∧∃N,h'=H++N).drop (by rintro v h' ⟨rfl,N,rfl⟩;exact⟨N,rfl,.int _ _,rfl,rfl⟩);refine YI (aC aG mixed [3] _ _ _ ?_);unfold Qm;have hp':∀N,Ptr (H++N) p (l.c β):=fun N=>hp.grow N;simp only[au,Aaa,Aab,K0,xL _ _ (show AaA [AV.int .i64 pos] bM=true from rfl),jH,hp.nil,hp.fld,(hp' [some (0,[.int .i64 pos])]).rd,aF.lX,Aak,aF.c];have hcall:=my (P:=pQ) (Γ:=Γ) aG mixed (sz:=3) (agg:=true) (fun hw=>PM hw) (β:=β) (l:=l.exports) (c:=aE.c β) (by omega) (fun x=>⟨⟨rfl,.inl rfl⟩,rfl⟩) (g:=Fn.kat) (first:=[]) (caps:=[.gp H.length 0 0]) rfl (fun x:aE=>x.pos == pos) (h:=H++[some (0,[.int .i64 pos])]) (fun x hx=>W6 β x pos _ (eQ _ _));refine al.val (by simp only[EO]) hcall ?_;simp only[au,Aaa,Aab,K0];exact⟨rfl,_,rfl⟩
theorem QE(β:Bool)(l:aF)(hl:l.exports.length≤1048576)(pos:Int)(h:AH):T pQ Γ Fn.kak [.agg (l.c β),.int .i64 pos] h fun v h'=>v=.int .i64 (gO l.exports pos)∧h'=h:=by
 refine(?_:T pQ Γ Fn.kak _ h fun v h'=>v=.int .i64 (gO l.exports pos)∧∃N,h'=h++N).drop (by rintro v h' ⟨rfl,N,rfl⟩;exact⟨N,rfl,.int _ _,rfl,rfl⟩);refine Zc (aC aG mixed [2] _ _ _ ?_);unfold OW;simp only[au,Aaa,Aab,IU,xL _ _ (aF.iX β l),jH];have hp:Ptr (h++[some (0,l.c β)]) (.gp h.length 0 0) (l.c β):=Ptr.Ud (eQ _ _);refine al.val (by simp only[EO]) (J8 β l hl pos _ hp) ?_;rcases iB (fun x:aE=>x.pos == pos) l.exports with⟨k,hk,e1,e2,e3⟩|⟨e1,e2,e3⟩
 ·have i0:=fI (β:=β) (sz:=3) (ex:=false) (ce:=aE.c β) hk;simp only[au,Aaa,Aab,IU,e1,show decide ((0:Int)≤(k:Int))=true from by simp,Bx,aF.c,i0,aE.c];exact⟨rfl,by simp only[gO,e3],_,rfl⟩
 ·simp only[au,Aaa,Aab,IU,e1,show decide ((0:Int)≤-1)=false from rfl];exact⟨rfl,by simp only[gO,e2],_,rfl⟩
theorem yF(β:Bool)(v:ar)(hl:v.aq.length≤1048576)(peer:Int)(h:AH):T pQ Γ Fn.Uc [.agg (v.c β),.int .i64 peer] h fun r h'=>r=.int .i64 (iq (fun l:aF=>l.peer == peer) v.aq)∧h'=h:=by
 have L0:=eY β 7 false v.aq (aF.c β);refine kb4_e (aC aG mixed [] _ _ _ ?_);unfold SR;simp only[au,Aaa,Aab,C9];refine fD aG mixed [] (fun k:Nat=>k≤v.aq.length∧∀(i:Nat) (hi:i<v.aq.length),i<k→(v.aq[i].peer == peer)=false) (fun k=>v.aq.length-k)
  (fun k=>Ei (.int .i64 peer) (.lp ([]:List (List AV)).length 0) (.int .i64 k) (([]:List (List AV))++[v.c β]) h) 0 ⟨by omega,fun i hi h=>by omega⟩ ⟨by simp[Ei,gW,gM],rfl,rfl⟩ ?_
 rintro k ⟨hk,ht⟩;simp only[au,Aaa,Aab,C9,Ei,ar.c,L0];refine bz (fun hlt=>?_) (fun hge=>?_)
 ·have hlt:k<v.aq.length:=by simpa using hlt
  have i0:=fI (β:=β) (sz:=7) (ex:=false) (ce:=aF.c β) hlt;cases hp:v.aq[k].peer == peer
  ·simp only[au,Aaa,Aab,C9,i0,ar.c,aF.c,hp];exact⟨k+1,⟨hlt,qK (P:=fun l:aF=>(l.peer == peer)=false) ht hp⟩,by omega,⟨by rw[wN (by omega)];simp[Ei,gW,gM],rfl,rfl⟩⟩
  ·simp only[au,Aaa,Aab,C9,i0,ar.c,aF.c,hp];exact⟨rfl,by rw[wU (p:=fun l:aF=>l.peer == peer) hlt ht hp]⟩
 ·have hge:k=v.aq.length:=by simp at hge;omega
  subst hge;simp only[au,Aaa,Aab,C9];exact⟨rfl,by rw[qU (p:=fun l:aF=>l.peer == peer) fun i hi=>ht i hi hi]⟩
theorem Ve(β:Bool)(x:aF)(peer:Int)(H:AH){k:Nat}(hk:cF H k=some (0,[.int .i64 peer])):T pQ Γ Fn.kaq [.agg (x.c β),.gp k 0 0] H fun v h'=>v=.bool (x.peer == peer)∧h'=H:=by
 refine kaq_e (aC aG mixed [] _ _ _ ?_);unfold SA;have hc:∀(e:List AV) (l:List (List AV)) (off n:Nat),(St.mk e l H).cells (.gp k 0 off) n=sub [.int .i64 peer] off n:=fun e l off n=>b8 hk;simp only[au,Aaa,Aab,QK,aF.c,hc];first|exact⟨rfl,rfl⟩|exact rfl
theorem Xt(β:Bool)(v:ar)(hl:v.aq.length≤1048576)(peer:Int)(h:AH):T pQ Γ Fn.kap [.agg (v.c β),.int .i64 peer] h fun r h'=>r=.int .i64 (iq (fun l:aF=>l.peer == peer) v.aq)∧h'=h:=by
 refine(?_:T pQ Γ Fn.kap _ h fun r h'=>r=.int .i64 (iq (fun l:aF=>l.peer == peer) v.aq)∧∃N,h'=h++N).drop (by rintro v h' ⟨rfl,N,rfl⟩;exact⟨N,rfl,.int _ _,rfl,rfl⟩);refine kap_e (aC aG mixed [3] _ _ _ ?_);unfold Pd;simp only[au,Aaa,Aab,KQ,xL _ _ (show AaA [AV.int .i64 peer] bM=true from rfl),jH,ar.c];have hcall:=my (P:=pQ) (Γ:=Γ) aG mixed (sz:=7) (agg:=true) (fun hw=>P8 hw) (β:=β) (l:=v.aq) (c:=aF.c β) (by omega) (fun x=>⟨⟨rfl,.inl rfl⟩,rfl⟩) (g:=Fn.kaq) (first:=[]) (caps:=[.gp h.length 0 0]) rfl (fun l:aF=>l.peer == peer) (h:=h++[some (0,[.int .i64 peer])]) (fun x hx=>Ve β x peer _ (eQ _ _));refine al.val (by simp only[EO]) hcall ?_;simp only[au,Aaa,Aab,KQ];exact⟨rfl,_,rfl⟩
theorem EE{α:Type}(p:α→Bool)(l:List α):decide (0≤iq p l)=l.any p:=by
 rcases iB p l with⟨k,hk,e1,e2,e3⟩|⟨e1,e2,e3⟩
 ·rw[e1];have h2:l.any p=true:=Aaf.2 ⟨_,List.mem_of_find?_eq_some e3,List.find?_some e3⟩;rw[h2];simp
 ·rw[e1];have h2:l.any p=false:=by
   cases hh:l.any p
   ·rfl
   ·obtain⟨x,hx,hp⟩:=Aaf.1 hh;have:=Aan.1 e2 x hx;exact absurd hp this
  rw[h2];rfl
theorem AB{g:FuncId}{caps:List AV}(hc:caps.all gq=true)(hc2:caps.all mo=true)(p:aF→Bool)(β:Bool)(l:List aF)(hl:l.length≤1048576){h:AH}(hp:∀x∈l,T pQ Γ g ([]++([.agg (x.c β)]++caps)) h fun v h'=>v=.bool (p x)∧h'=h):
 T pQ Γ Fn.kbu [.vs β 7 false (l.map (aF.c β)),.fn g [] caps] h fun v h'=>v=.bool (l.any p)∧h'=h:=by
 have hcall:=my (P:=pQ) (Γ:=Γ) aG mixed (sz:=7) (agg:=true) (fun hw=>P8 hw) (β:=β) (l:=l) (c:=aF.c β) (by omega) (fun x=>⟨⟨rfl,.inl rfl⟩,rfl⟩) (g:=g) (first:=[]) (caps:=caps) hc p (h:=h) hp;refine VR (aC aG mixed [] _ _ _ ?_);unfold O2;simp only[au,Aaa,Aab,L4];refine al.val (by simp only[EO,hc,hc2]) hcall ?_;simp only[au,Aaa,Aab,L4];rw[show decide (iq p l≥0)=l.any p from EE p l];first|exact⟨rfl,rfl⟩|exact rfl
def rO(l:List aF)(peer:Int):Bool:=l.any fun x=>x.peer == peer && x.up
theorem pM{l:List aF}{peer:Int}(h:rO l peer=true):∃k:Nat,∃hk:k<l.length,iq (fun x:aF=>x.peer == peer) l=(k:Int)∧l.find? (fun x:aF=>x.peer == peer)=some l[k]:=by
 rcases iB (fun x:aF=>x.peer == peer) l with⟨k,hk,e1,e2,e3⟩|⟨e1,e2,e3⟩
 ·exact⟨k,hk,e1,e3⟩
 ·obtain⟨x,hx,hp⟩:=Aaf.1 h;have:=Aan.1 e2 x hx;simp only[Aag]at hp;exact absurd hp.1 this
theorem pg(β:Bool)(v:ar)(hl:v.aq.length≤1048576)(peer:Int)(h:AH):T pQ Γ Fn.JD [.agg (v.c β),.int .i64 peer] h fun r h'=>r=.bool (rO v.aq peer)∧h'=h:=by
 have L0:=eY β 7 false v.aq (aF.c β);refine kb1_e (aC aG mixed [] _ _ _ ?_);unfold PB;simp only[au,Aaa,Aab,Cg];refine fD aG mixed [] (fun k:Nat=>k≤v.aq.length∧∀(i:Nat) (hi:i<v.aq.length),i<k→(v.aq[i].peer == peer && v.aq[i].up)=false) (fun k=>v.aq.length-k)
  (fun k=>BL (.int .i64 peer) (.lp ([]:List (List AV)).length 0) (.int .i64 k) (([]:List (List AV))++[v.c β]) h) 0 ⟨by omega,fun i hi h=>by omega⟩ ⟨by simp[BL,gW,gM],rfl,rfl⟩ ?_
 rintro k ⟨hk,ht⟩;simp only[au,Aaa,Aab,Cg,BL,ar.c,L0];refine bz (fun hlt=>?_) (fun hge=>?_)
 ·have hlt:k<v.aq.length:=by simpa using hlt
  have i0:=fI (β:=β) (sz:=7) (ex:=false) (ce:=aF.c β) hlt;have htrue:(v.aq[k].peer == peer && v.aq[k].up)=true→rO v.aq peer=true:=fun h=>Aaf.2 ⟨_,Aal hlt,h⟩;cases hp:v.aq[k].peer == peer
  ·simp only[au,Aaa,Aab,Cg,i0,ar.c,aF.c,hp];exact⟨k+1,⟨hlt,qK (P:=fun l:aF=>(l.peer == peer && l.up)=false) ht (by rw[hp];rfl)⟩,by omega,⟨by rw[wN (by omega)];simp[BL,gW,gM],rfl,rfl⟩⟩
  cases hu:v.aq[k].up
  ·simp only[au,Aaa,Aab,Cg,i0,ar.c,aF.c,hp,hu];exact⟨k+1,⟨hlt,qK (P:=fun l:aF=>(l.peer == peer && l.up)=false) ht (by rw[hp,hu];rfl)⟩,by omega,⟨by rw[wN (by omega)];simp[BL,gW,gM],rfl,rfl⟩⟩
  ·simp only[au,Aaa,Aab,Cg,i0,ar.c,aF.c,hp,hu];have ax:=htrue (by rw[hp,hu];rfl);first|exact⟨rfl,by rw[ax],rfl⟩|exact⟨rfl,by rw[ax]⟩|rw[ax]
 ·have hge:k=v.aq.length:=by simp at hge;omega
  subst hge;simp only[au,Aaa,Aab,Cg];have ax:rO v.aq peer=false:=by
   cases hh:rO v.aq peer
   ·rfl
   ·obtain⟨x,hx,hp⟩:=Aaf.1 hh;obtain⟨i,hi,rfl⟩:=Aaq hx;rw[ht i hi hi]at hp;cases hp
  first|exact⟨rfl,by rw[ax],rfl⟩|exact⟨rfl,by rw[ax]⟩|rw[ax]
theorem AS(b:Bool):cY (.bool b)=true:=rfl
theorem Ie(n:Int){m:Nat}(hm:(m:Int)<9223372036854775807):tZ n 0 (IntKind.i64.wrap ((m:Int)-1))=true↔∃k:Nat,n=(k:Int)∧k<m:=by
 rw[jO (by omega) (by omega)];simp only[tZ,Aag,decide_eq_true_eq];constructor
 ·intro⟨h1,h2⟩;exact⟨n.toNat,by omega,by omega⟩
 ·rintro⟨k,rfl,hk⟩;omega
theorem Sh(β:Bool)(v:ar)(hv:v.entities.length≤1048576)(n:Int)(H:AH){p:AV}(hp:Ptr H p (v.c β)):
 T pQ Γ Fn.kaO [p,.int .i64 n] H fun r h'=>((∃k:Nat,∃hk:k<v.entities.length,n=(k:Int)∧r=.ip β (v.entities[k].c β))∨((∀k:Nat,n=(k:Int)→v.entities.length≤k)∧r=.nilp))∧h'=H:=by
 have L0:=eY β 12 false v.entities (aA.c β);refine QR (aC aG mixed [] _ _ _ ?_);unfold Kb;simp only[au,Aaa,Aab,Bb,hp.nil,hp.fld,hp.rd,ar.lX,Aak,ar.c,L0];refine al.val (by simp only[EO]) (xd _ _ _ _) ?_;cases e1:tZ n 0 (IntKind.i64.wrap ((v.entities.length:Int)-1))
 ·simp only[au,Aaa,Aab,Bb];refine⟨rfl,?_⟩;suffices hx:∀k:Nat,n=(k:Int)→v.entities.length≤k by first|exact .inr ⟨hx,rfl⟩|exact hx|exact .inr hx
  intro k hk;rcases Aao k v.entities.length with h1|h1
  ·have:=(Ie n (by omega)).2 ⟨k,hk,h1⟩;rw[e1]at this;cases this
  ·exact h1
 ·obtain⟨k,rfl,hk⟩:=(Ie n (by omega)).1 e1;have i0:=fI (β:=β) (sz:=12) (ex:=false) (ce:=aA.c β) hk;simp only[au,Aaa,Aab,Bb,hp.nil,hp.fld,hp.rd,ar.lX,Aak,ar.c,i0];exact⟨rfl,.inl ⟨k,hk,rfl,rfl⟩⟩
def bB(x:Int)(n:Nat):Bool:=decide (0≤x) && decide (x<n)
theorem fG(x:Int){n:Nat}(hn:n≤1048576):tZ x 0 (IntKind.i64.wrap ((n:Int)-1))=bB x n:=by
 have hw:IntKind.i64.wrap ((n:Int)-1)=(n:Int)-1:=jO (by omega) (by omega);rw[hw,tZ,bB]
 congr 1
 rw[decide_eq_decide];omega
def nB(x:an)(n:Nat):Bool:=if x.kind=0 then tZ x.n 0 999999 else if x.kind=1 then bB x.n n else decide (x.kind=2) && decide (x.n=0)
def sE(l:List an)(n:Nat):Bool:=l.all fun x=>nB x n
theorem Mx(β:Bool)(x:an)(n:Nat)(hn:n≤1048576)(h:AH):T pQ Γ Fn.kao [.agg (x.c β),.int .i64 n] h fun v h'=>v=.bool (nB x n)∧h'=h:=by
 refine XZ (aC aG mixed [] _ _ _ ?_);unfold OC;simp only[au,Aaa,Aab,Di,an.c,cK,ae,ag]
 repeat' (first
  | (guard_target =~ al _ _ Fn.VN _ _ _;refine al.val (by simp only[EO]) (xd _ _ _ _) ?_;simp only[au,Aaa,Aab,Di,an.c,cK,ae,ag])
  | (refine pq (fun hh=>?_) (fun hh=>?_)<;>simp only[au,Aaa,Aab,Di,hh,an.c,cK,ae,ag])
  | (refine oW (fun hh=>?_) (fun hh=>?_)<;>simp only[au,Aaa,Aab,Di,hh,an.c,cK,ae,ag])
  | (refine bz (fun hh=>?_) (fun hh=>?_)<;>simp only[au,Aaa,Aab,Di,hh,an.c,cK,ae,ag])
  | (first|(simp_all [nB,fG,AS];done)|(simp_all [nB,fG,AS];omega)))
theorem HN(β:Bool)(x:an)(n:Nat)(hn:n≤1048576)(h:AH):T pQ Γ Fn.kb2 [.agg (x.c β),.int .i64 n] h fun v h'=>v=.bool (nB x n)∧h'=h:=by
 refine Yx (aC aG mixed [] _ _ _ ?_);unfold SP;simp only[au,Aaa,Aab,CC,an.c,cK,ae,ag]
 repeat' (first
  | (guard_target =~ al _ _ Fn.xG _ _ _;refine al.val (by simp only[EO]) (gQ _ _ _ _) ?_;simp only[au,Aaa,Aab,CC,an.c,cK,ae,ag])
  | (refine pq (fun hh=>?_) (fun hh=>?_)<;>simp only[au,Aaa,Aab,CC,hh,an.c,cK,ae,ag])
  | (refine oW (fun hh=>?_) (fun hh=>?_)<;>simp only[au,Aaa,Aab,CC,hh,an.c,cK,ae,ag])
  | (refine bz (fun hh=>?_) (fun hh=>?_)<;>simp only[au,Aaa,Aab,CC,hh,an.c,cK,ae,ag])
  | (first|(simp_all [nB,bB,AS];done)|(simp_all [nB,bB,AS];omega)))
theorem all_false{α:Type}{l:List α}{p:α→Bool}{k:Nat}(hk:k<l.length)(h:p l[k]=false):l.all p=false:=by
 cases hh:l.all p
 ·rfl
 ·have:=Aam.1 hh l[k] (Aal hk);rw[h]at this;cases this
theorem all_true{α:Type}{l:List α}{p:α→Bool}(h:∀(i:Nat) (hi:i<l.length),i<l.length→p l[i]=true):l.all p=true:=
 Aam.2 fun x hx=>by obtain⟨i,hi,rfl⟩:=Aaq hx;exact h i hi hi
theorem M7{α:Type}(p:α→Bool)(l:List α):(!l.any fun x=>!p x)=l.all p:=by
 induction l with
 | nil=>rfl
 | cons x l ih=>simp only[List.any_cons,Aax,←ih];cases p x<;>simp
theorem RJ(β:Bool)(l:List an)(hl:l.length≤1048576)(n:Nat)(hn:n≤1048576)(h:AH):T pQ Γ Fn.kbN [.vs β 2 false (l.map (an.c β)),.int .i64 n] h fun v h'=>v=.bool (sE l n)∧h'=h:=by
 have L0:=eY β 2 false l (an.c β);refine Xa (aC aG mixed [] _ _ _ ?_);unfold QX;simp only[au,Aaa,Aab,Bz,L0];refine fD aG mixed [] (fun k:Nat=>k≤l.length∧∀(i:Nat) (hi:i<l.length),i<k→nB l[i] n=true) (fun k=>l.length-k)
  (fun k=>EM (.vs β 2 false (l.map (an.c β))) (.int .i64 n) (.int .i64 k) [] h) 0 ⟨by omega,fun i hi h=>by omega⟩ ⟨by simp[EM,gW,gM],rfl,rfl⟩ ?_
 rintro k ⟨hk,ht⟩;simp only[au,Aaa,Aab,Bz,EM,L0];refine bz (fun hlt=>?_) (fun hge=>?_);rotate_left
 ·have hge:k=l.length:=by simp at hge;omega
  subst hge;simp only[au,Aaa,Aab,Bz];have:=all_true (p:=fun x=>nB x n) ht;first|exact⟨rfl,by rw[sE,this]⟩|rw[sE,this]
 have hlt:k<l.length:=by simpa using hlt
 have i0:=fI (β:=β) (sz:=2) (ex:=false) (ce:=an.c β) hlt;simp only[au,Aaa,Aab,Bz,i0,an.c];refine al.val (by simp only[EO]) (HN β l[k] n hn _) ?_;cases hp:nB l[k] n
 ·simp only[au,Aaa,Aab,Bz];have:=all_false (p:=fun x=>nB x n) hlt hp;first|exact⟨rfl,by rw[sE,this]⟩|rw[sE,this]
 ·simp only[au,Aaa,Aab,Bz];exact⟨k+1,⟨hlt,fun i hi hik=>by
   rcases Aao i k with g|g
   ·exact ht i hi g
   ·have:i=k:=by omega
    subst this;exact hp⟩,by omega,⟨by rw[wN (by omega)];simp[EM,gW,gM],rfl,rfl⟩⟩
def si(v:ByteArray):Bool:=tZ v.size 1 6 && (List.range v.size).all fun k=>decide (97≤(iJ v k:Int)) && decide ((iJ v k:Int)≤122)
theorem wD{v:ByteArray}{k:Nat}(hk:k<v.size)(h:(decide (97≤(iJ v k:Int)) && decide ((iJ v k:Int)≤122))=false):si v=false:=by
 have:(List.range v.size).all (fun k=>decide (97≤(iJ v k:Int)) && decide ((iJ v k:Int)≤122))=false:=by
  rw[Bool.eq_false_iff];intro hh;have:=Aam.1 hh k (Aav.2 hk);rw[h]at this;cases this
 rw[si,this,Aap]
theorem Dv{v:ByteArray}(h:∀k,k<v.size→(decide (97≤(iJ v k:Int)) && decide ((iJ v k:Int)≤122))=true):si v=tZ v.size 1 6:=by
 have:(List.range v.size).all (fun k=>decide (97≤(iJ v k:Int)) && decide ((iJ v k:Int)≤122))=true:=Aam.2 fun k hk=>h k (Aav.1 hk);rw[si,this,Aay]
theorem Zm(v:ByteArray)(hv:v.size≤1048576)(h:AH):T pQ Γ Fn.kbh [.str v] h fun r h'=>r=.bool (si v)∧h'=h:=by
 refine ZA (aC aG mixed [] _ _ _ ?_);unfold S4;simp only[au,Aaa,Aab,yp,yq];refine al.val (by simp only[EO]) (xd _ _ _ _) ?_;cases e1:tZ (v.size:Int) 1 6
 ·simp only[au,Aaa,Aab,yp];have:si v=false:=by rw[si,e1,Aah]
  first|exact⟨rfl,by rw[this],rfl⟩|exact⟨rfl,by rw[this]⟩|rw[this]
 simp only[au,Aaa,Aab,yp,yq];refine fD aG mixed [] (fun k:Nat=>k≤v.size∧∀i,i<k→(decide (97≤(iJ v i:Int)) && decide ((iJ v i:Int)≤122))=true) (fun k=>v.size-k)
  (fun k=>E2 (.str v) (.int .i64 v.size) (.int .i64 k) ([]:List (List AV)) h) 0 ⟨by omega,fun i h=>by omega⟩ ⟨by simp[E2,gW,gM],rfl,rfl⟩ ?_
 rintro k ⟨hk,ht⟩;simp only[au,Aaa,Aab,yp,E2];refine bz (fun hlt=>?_) (fun hge=>?_);rotate_left
 ·have hge:k=v.size:=by simp at hge;omega
  subst hge;simp only[au,Aaa,Aab,yp];have:=Dv ht;rw[e1]at this;first|exact⟨rfl,by rw[this],rfl⟩|exact⟨rfl,by rw[this]⟩|rw[this]
 have hlt:k<v.size:=by simpa using hlt
 have ix:=fun s:St=>CU s hlt;by_cases b1:(iJ v k:Int)<97
 ·simp only[au,Aaa,Aab,yp,tS,ix,aR b1];have:=wD hlt (by rw[aW (show ¬97≤(iJ v k:Int)by omega),Aah]);first|exact⟨rfl,by rw[this],rfl⟩|exact⟨rfl,by rw[this]⟩|rw[this]
 by_cases b2:122<(iJ v k:Int)
 ·simp only[au,Aaa,Aab,yp,tS,ix,aW b1,aR b2];have:=wD hlt (by rw[aW (show ¬(iJ v k:Int)≤122 by omega),Aap]);first|exact⟨rfl,by rw[this],rfl⟩|exact⟨rfl,by rw[this]⟩|rw[this]
 simp only[au,Aaa,Aab,yp,tS,ix,aW b1,aW b2];exact⟨k+1,⟨hlt,fun i hik=>by
  rcases Aao i k with g|g
  ·exact ht i g
  ·have:i=k:=by omega
   subst this;rw[aR (show 97≤(iJ v i:Int)by omega),aR (show(iJ v i:Int)≤122 by omega)];rfl⟩,by omega,⟨by rw[wN (by omega)];simp[E2,gW,gM],rfl,rfl⟩⟩
theorem C2(v:ByteArray)(hv:v.size≤1048576)(h:AH):T pQ Γ Fn.kbZ [.str v] h fun r h'=>r=.bool (si v)∧h'=h:=by
 refine ZH (aC aG mixed [] _ _ _ ?_);unfold Qw;simp only[au,Aaa,Aab,Al];refine fD aG mixed [] (fun k:Nat=>k≤v.size∧∀i,i<k→(decide (97≤(iJ v i:Int)) && decide ((iJ v i:Int)≤122))=true) (fun k=>v.size-k)
  (fun k=>Ej (.str v) (.int .i64 k) ([]:List (List AV)) h) 0 ⟨by omega,fun i h=>by omega⟩ ⟨by simp[Ej,gW,gM],rfl,rfl⟩ ?_
 rintro k ⟨hk,ht⟩;simp only[au,Aaa,Aab,Al,Ej,yq];refine bz (fun hlt=>?_) (fun hge=>?_);rotate_left
 ·have hge:k=v.size:=by simp at hge;omega
  subst hge;simp only[au,Aaa,Aab,Al,yq];refine al.val (by simp only[EO]) (gQ _ _ _ _) ?_;simp only[au,Aaa,Aab,Al];have:=Dv ht;first|exact⟨rfl,by rw[this],rfl⟩|exact⟨rfl,by rw[this]⟩|rw[this]
 have hlt:k<v.size:=by simpa using hlt
 have ix:=fun s:St=>CU s hlt;by_cases b1:(iJ v k:Int)<97
 ·simp only[au,Aaa,Aab,Al,tS,ix,aR b1];have:=wD hlt (by rw[aW (show ¬97≤(iJ v k:Int)by omega),Aah]);first|exact⟨rfl,by rw[this],rfl⟩|exact⟨rfl,by rw[this]⟩|rw[this]
 by_cases b2:122<(iJ v k:Int)
 ·simp only[au,Aaa,Aab,Al,tS,ix,aW b1,aR b2];have:=wD hlt (by rw[aW (show ¬(iJ v k:Int)≤122 by omega),Aap]);first|exact⟨rfl,by rw[this],rfl⟩|exact⟨rfl,by rw[this]⟩|rw[this]
 simp only[au,Aaa,Aab,Al,tS,ix,aW b1,aW b2];exact⟨k+1,⟨hlt,fun i hik=>by
  rcases Aao i k with g|g
  ·exact ht i g
  ·have:i=k:=by omega
   subst this;rw[aR (show 97≤(iJ v i:Int)by omega),aR (show(iJ v i:Int)≤122 by omega)];rfl⟩,by omega,⟨by rw[wN (by omega)];simp[Ej,gW,gM],rfl,rfl⟩⟩
def rQ(e:aA):Bool:=decide (e.kind=2) && (decide (e.state=1) || (decide (e.state=3) || decide (e.state=4)))
theorem MK(e:aA):rQ e=(decide (e.kind=2) && (tZ e.state 1 4 && !decide (e.state=2))):=by
 have:(decide (e.state=1) || (decide (e.state=3) || decide (e.state=4)))=(tZ e.state 1 4 && !decide (e.state=2)):=by
  rw[Bool.eq_iff_iff];simp only[tZ,Bool.or_eq_true,Aag,decide_eq_true_eq,Bool.not_eq_true',decide_eq_false_iff_not];omega
 rw[rQ,this]
theorem JJ(β:Bool)(e:aA)(h:AH):T pQ Γ Fn.kb0 [.agg (e.c β)] h fun r h'=>r=.bool (rQ e)∧h'=h:=by
 refine XJ (aC aG mixed [] _ _ _ ?_);unfold Ta;simp only[au,Aaa,Aab,CO,aA.c,cK,ae,ag]
 repeat' (first
  | (guard_target =~ al _ _ Fn.xG _ _ _;refine al.val (by simp only[EO]) (gQ _ _ _ _) ?_;simp only[au,Aaa,Aab,CO,aA.c,cK,ae,ag])
  | (refine pq (fun hh=>?_) (fun hh=>?_)<;>simp only[au,Aaa,Aab,CO,hh,aA.c,cK,ae,ag])
  | (refine oW (fun hh=>?_) (fun hh=>?_)<;>simp only[au,Aaa,Aab,CO,hh,aA.c,cK,ae,ag])
  | (refine bz (fun hh=>?_) (fun hh=>?_)<;>simp only[au,Aaa,Aab,CO,hh,aA.c,cK,ae,ag])
  | ((simp_all [MK,AS];done)))
theorem ZO(β:Bool)(e:aA)(h:AH):T pQ Γ Fn.kan [.agg (e.c β)] h fun r h'=>r=.bool (rQ e)∧h'=h:=by
 refine WR (aC aG mixed [] _ _ _ ?_);unfold Q3;simp only[au,Aaa,Aab,C5,aA.c,cK,ae,ag]
 repeat' (first
  | (guard_target =~ al _ _ Fn.VN _ _ _;refine al.val (by simp only[EO]) (xd _ _ _ _) ?_;simp only[au,Aaa,Aab,C5,aA.c,cK,ae,ag])
  | (refine pq (fun hh=>?_) (fun hh=>?_)<;>simp only[au,Aaa,Aab,C5,hh,aA.c,cK,ae,ag])
  | (refine oW (fun hh=>?_) (fun hh=>?_)<;>simp only[au,Aaa,Aab,C5,hh,aA.c,cK,ae,ag])
  | (refine bz (fun hh=>?_) (fun hh=>?_)<;>simp only[au,Aaa,Aab,C5,hh,aA.c,cK,ae,ag])
  | (first|(simp_all [rQ,tZ,AS];done)|(simp_all [rQ,tZ,AS];omega)))
theorem NK(β:Bool)(x:an)(h:AH):T pQ Γ Fn.kbe [.agg (x.c β)] h fun r h'=>r=.bool (decide (x.kind=0) && tZ x.n 0 999999)∧h'=h:=by
 refine WY (aC aG mixed [] _ _ _ ?_);unfold Td;simp only[au,Aaa,Aab,CK,an.c,cK,ae,ag]
 repeat' (first
  | (guard_target =~ al _ _ Fn.VN _ _ _;refine al.val (by simp only[EO]) (xd _ _ _ _) ?_;simp only[au,Aaa,Aab,CK,an.c,cK,ae,ag])
  | (refine pq (fun hh=>?_) (fun hh=>?_)<;>simp only[au,Aaa,Aab,CK,hh,an.c,cK,ae,ag])
  | (refine oW (fun hh=>?_) (fun hh=>?_)<;>simp only[au,Aaa,Aab,CK,hh,an.c,cK,ae,ag])
  | (refine bz (fun hh=>?_) (fun hh=>?_)<;>simp only[au,Aaa,Aab,CK,hh,an.c,cK,ae,ag])
  | (first|(simp_all [AS];done)|(simp_all [AS];omega)))
def bd:an:=⟨2,0⟩
theorem xP(h:AH):T pQ Γ Fn.Uk [] h fun v h'=>v=.agg (bd.c false)∧h'=h:=by
 refine Yf (aC aG mixed [] _ _ _ ?_);unfold SG;simp only[au,Aaa,Aab,PE,cK];first|exact⟨rfl,rfl⟩|exact rfl
theorem yy(h:AH):T pQ Γ Fn.kaa [] h fun v h'=>v=.agg (bd.c false)∧h'=h:=by
 refine aab (aC aG mixed [] _ _ _ ?_);unfold Qs;simp only[au,Aaa,Aab,Rq,cK];first|exact⟨rfl,rfl⟩|exact rfl
theorem Az(n:Int)(h:AH):T pQ Γ Fn.Ts [.int .i64 n] h fun v h'=>v=.agg ((an.mk 1 n).c false)∧h'=h:=by
 refine kck_e (aC aG mixed [] _ _ _ ?_);unfold NZ;simp only[au,Aaa,Aab,Qd,cK];first|exact⟨rfl,rfl⟩|exact rfl
theorem BS(n:Int)(h:AH):T pQ Γ Fn.Ug [.int .i64 n] h fun v h'=>v=.agg ((an.mk 1 n).c false)∧h'=h:=by
 refine Wl (aC aG mixed [] _ _ _ ?_);unfold PS;simp only[au,Aaa,Aab,Pc,cK];first|exact⟨rfl,rfl⟩|exact rfl
def jF:aA:=⟨2,0,[],1,⟨0,0⟩,[],[],0,0,0,0⟩
def uz:List AV:=[.int .i64 2,.int .i64 0,.nils,.int .i64 1,.int .i64 0,.int .i64 0,.nils,.nils,.int .i64 0,.int .i64 0,.int .i64 0,.int .i64 0]
theorem Gd(H:AH):aM H uz jF.cd []:=.i (.i (.o (.nil _) (.i (.i (.i (.o (.nil _) (.o (.nil _) (.i (.i (.i (.i .nil)))))))))))
theorem ID(h:AH):T pQ Γ Fn.kb9 [] h fun v h'=>v=.agg uz∧h'=h:=by
 refine VU (aC aG mixed [] _ _ _ ?_);unfold Qz;simp only[au,Aaa,Aab,Qp,cK,ji,sO,sI,sK];first|exact⟨rfl,rfl⟩|exact rfl
theorem ZQ(h:AH):T pQ Γ Fn.kaB [] h fun v h'=>v=.agg uz∧h'=h:=by
 refine Y7 (aC aG mixed [] _ _ _ ?_);unfold Oy;simp only[au,Aaa,Aab,P4,cK,ji,sO,sI,sK];first|exact⟨rfl,rfl⟩|exact rfl
def pG(peer pos:Int):List AV:=[.int .i64 3,.int .i64 0,.nils,.int .i64 0,.int .i64 0,.int .i64 0,.nils,.nils,.int .i64 peer,.int .i64 pos,.int .i64 1,.int .i64 0]
def lC(peer pos:Int):aA:=⟨3,0,[],0,⟨0,0⟩,[],[],peer,pos,1,0⟩
theorem wu(H:AH)(peer pos:Int):aM H (pG peer pos) (lC peer pos).cd []:=.i (.i (.o (.nil _) (.i (.i (.i (.o (.nil _) (.o (.nil _) (.i (.i (.i (.i .nil)))))))))))
theorem Ks(peer pos:Int)(h:AH):T pQ Γ Fn.kca [.int .i64 peer,.int .i64 pos] h fun v h'=>v=.agg (pG peer pos)∧h'=h:=by
 refine kca_e (aC aG mixed [] _ _ _ ?_);unfold O1;simp only[au,Aaa,Aab,S7,cK,ji,sO,sI,sK];first|exact⟨rfl,rfl⟩|exact rfl
def qD(es:List aA)(x:an):Option an:=
 if x.kind=1 then (match es[x.n.toNat]? with|some e=>if 0≤x.n∧(e.kind=2∧e.state=2)then some e.value else none|none=>none)else none
def qy(es:List aA):Nat→an→an
 | 0,_=>bd
 | n+1,x=>match qD es x with|some y=>qy es n y|none=>x
def cO(v:ar)(x:an):an:=qy v.entities (v.entities.length+1) x
theorem zM{es:List aA}{n:Nat}{x:an}(h:qD es x=none):qy es (n+1) x=x:=by simp only[qy,h]
theorem HK{es:List aA}{n:Nat}{x y:an}(h:qD es x=some y):qy es (n+1) x=qy es n y:=by simp only[qy,h]
theorem zd{es:List aA}{x:an}(h:x.kind≠1):qD es x=none:=by unfold qD;rw[if_neg h]
theorem Fb{es:List aA}{x:an}(h:bB x.n es.length=false):qD es x=none:=by
 unfold qD;split
 ·split
  ·rename_i e he;rw[if_neg];rintro⟨h0,_⟩;have:=(List.getElem?_eq_some_iff.1 he).1;have:bB x.n es.length=true:=by simp only[bB,Aag,decide_eq_true_eq];omega
   rw[h]at this;cases this
  ·rfl
 ·rfl
theorem E1{es:List aA}{x:an}(h1:x.kind=1){k:Nat}(hk:k<es.length)(h2:x.n=(k:Int)):qD es x=if es[k].kind=2∧es[k].state=2 then some es[k].value else none:=by
 unfold qD;rw[if_pos h1,h2,Int.toNat_natCast,List.getElem?_eq_getElem hk];simp only[show(0:Int)≤(k:Int)by omega,true_and]
theorem A1{x:Int}{n:Nat}(h:bB x n=true):∃k:Nat,x=(k:Int)∧k<n:=by
 simp only[bB,Aag,decide_eq_true_eq]at h;exact⟨x.toNat,by omega,by omega⟩
theorem ux(β:Bool)(v:ar)(hv:v.entities.length≤1048576)(x:an)(h:AH):T pQ Γ Fn.El [.agg (v.c β),.agg (x.c false)] h fun r h'=>r=.agg ((cO v x).c false)∧h'=h:=by
 have L0:=eY β 12 false v.entities (aA.c β);refine Xk (aC aG mixed [] _ _ _ ?_);unfold Q6;simp only[au,Aaa,Aab,u7,cK,ar.c,an.c];refine fD aG mixed [] (fun y:Nat×an×List (List AV)=>y.1≤v.entities.length+1∧cO v x=qy v.entities (v.entities.length+1-y.1) y.2.1∧y.2.2[([]:List (List AV)).length]? = some (v.c β)∧y.2.2[([]:List (List AV)).length+1]? = some [.int .i64 y.2.1.kind,.int .i64 y.2.1.n]∧∃zz,y.2.2[([]:List (List AV)).length+2]? = some zz∧zz.length=2) (fun y=>v.entities.length+1-y.1)
  (fun y=>Ee (.lp ([]:List (List AV)).length 0) (.lp (([]:List (List AV)).length+1) 0) (.lp (([]:List (List AV)).length+2) 0) (.int .i64 y.1) y.2.2 h) (0,x,_) ⟨by simp,rfl,rfl,rfl,⟨_,rfl,rfl⟩⟩ ⟨by simp[Ee,gW,gM],rfl,rfl⟩ ?_
 rintro⟨k,y,M⟩ ⟨hk,hl,hM0,hM1,zz,hM2,hzz⟩;simp only at hk hl hM0 hM1 hM2;have r0:∀(e:List AV) (h:AH) (off n:Nat),(St.mk e M h).cells (.lp ([]:List (List AV)).length off) n=sub (v.c β) off n:=fun e h off n=>de hM0;have r1:∀(e:List AV) (h:AH) (off n:Nat),(St.mk e M h).cells (.lp (([]:List (List AV)).length+1) off) n=sub [.int .i64 y.kind,.int .i64 y.n] off n:=fun e h off n=>de hM1;have s2:∀(e:List AV) (h:AH) (a b:AV),cn a=true→cn b=true→(St.mk e M h).store (.lp (([]:List (List AV)).length+2) 0) [a,b]=some ⟨e,M.set (([]:List (List AV)).length+2) [a,b],h⟩:=fun e h a b ha hb=>pP hM2 (by rw[hzz];rfl) (by simp only[Aax,List.all_nil,ha,hb,Aay]);have r2:∀(w:List AV) (e:List AV) (h:AH) (off n:Nat),(St.mk e (M.set (([]:List (List AV)).length+2) w) h).cells (.lp (([]:List (List AV)).length+2) off) n=sub w off n:=fun w e h off n=>de (mO hM2);have sy:∀(e:List AV) (h:AH),(St.mk e M h).store (.lp (([]:List (List AV)).length+2) 0) [.int .i64 y.kind,.int .i64 y.n]=some ⟨e,M.set (([]:List (List AV)).length+2) [.int .i64 y.kind,.int .i64 y.n],h⟩:=fun e h=>s2 e h _ _ rfl rfl;simp only[au,Aaa,Aab,u7,Ee,r0,ar.c,L0];refine bz (fun hlt=>?_) (fun hge=>?_);rotate_left
 ·have hge:k=v.entities.length+1:=by simp at hge;omega
  subst hge;simp only[au,Aaa,Aab,u7];refine al.val (by simp only[EO]) (xP _) ?_;simp only[au,Aaa,Aab,u7,s2 _ _ _ _ (show cn (AV.int .i64 2)=true from rfl) (show cn (AV.int .i64 0)=true from rfl),bd,an.c,r2];rw[hl,Aaz];first|exact⟨rfl,rfl⟩|rfl
 have hlt:k<v.entities.length+1:=by simp at hlt;omega
 obtain⟨m,hm⟩:∃m,v.entities.length+1-k=m+1:=⟨v.entities.length-k,by omega⟩
 rw[hm]at hl;have stop:qD v.entities y=none→cO v x=y:=fun hn=>by rw[hl,zM hn]
 by_cases b1:y.kind=1;rotate_left
 ·simp only[au,Aaa,Aab,u7,r0,r1,ar.c,L0,ae,ag,aW b1,sy,r2];have:=stop (zd b1);first|exact⟨rfl,by rw[this]⟩|(rw[this];done)|exact⟨rfl,by rw[this];rfl⟩
 simp only[au,Aaa,Aab,u7,r0,r1,ar.c,L0,ae,ag,aR b1];refine al.val (by simp only[EO]) (gQ _ _ _ _) ?_;rw[fG _ hv];cases e1:bB y.n v.entities.length
 ·simp only[au,Aaa,Aab,u7,r0,r1,sy,r2];have:=stop (Fb e1);first|exact⟨rfl,by rw[this]⟩|(rw[this];done)|exact⟨rfl,by rw[this];rfl⟩
 obtain⟨j,ej,hj⟩:=A1 e1;have i0:=fI (β:=β) (sz:=12) (ex:=false) (ce:=aA.c β) hj;have nx:=E1 (es:=v.entities) b1 hj ej;obtain⟨e,he⟩:∃e,e=v.entities[j]:=⟨_,rfl⟩
 rw[←he]at i0 nx;have r0':∀(z:List AV) (e:List AV) (h:AH) (off n:Nat),(St.mk e (M++[z]) h).cells (.lp ([]:List (List AV)).length off) n=sub (v.c β) off n:=fun z e h off n=>de (ju hM0 _);have r1':∀(z:List AV) (e:List AV) (h:AH) (off n:Nat),(St.mk e (M++[z]) h).cells (.lp (([]:List (List AV)).length+1) off) n=sub [.int .i64 y.kind,.int .i64 y.n] off n:=fun z e h off n=>de (ju hM1 _);have sy':∀(z:List AV) (e:List AV) (h:AH) (a b:Int),(St.mk e (M++[z]) h).store (.lp (([]:List (List AV)).length+2) 0) [.int .i64 a,.int .i64 b]=some ⟨e,(M++[z]).set (([]:List (List AV)).length+2) [.int .i64 a,.int .i64 b],h⟩:=fun z e h a b=>pP (ju hM2 _) (by rw[hzz];rfl) rfl;have r2':∀(z w:List AV) (e:List AV) (h:AH) (off n:Nat),(St.mk e ((M++[z]).set (([]:List (List AV)).length+2) w) h).cells (.lp (([]:List (List AV)).length+2) off) n=sub w off n:=fun z w e h off n=>de (mO (ju hM2 _));have rl:∀(z:List AV) (e:List AV) (h:AH) (off n:Nat),(St.mk e (M++[z]) h).cells (.lp M.length off) n=sub z off n:=fun z e h off n=>de (xT _ _);have s1':∀(z:List AV) (e:List AV) (h:AH) (a b:Int),(St.mk e (M++[z]) h).store (.lp (([]:List (List AV)).length+1) 0) [.int .i64 a,.int .i64 b]=some ⟨e,(M++[z]).set (([]:List (List AV)).length+1) [.int .i64 a,.int .i64 b],h⟩:=fun z e h a b=>pP (ju hM1 _) rfl rfl;by_cases b2:e.kind=2;rotate_left
 ·simp only[au,Aaa,Aab,u7,cK,r0,r1,ar.c,L0,ej,i0,aA.c,rl,ae,ag,aW b2,r1',sy',r2'];have:=stop (by rw[nx,if_neg (fun h=>b2 h.1)]);first|exact⟨rfl,by rw[this,ej]⟩|(rw[this,ej];done)
 by_cases b3:e.state=2;rotate_left
 ·simp only[au,Aaa,Aab,u7,cK,r0,r1,ar.c,L0,ej,i0,aA.c,rl,ae,ag,aR b2,aW b3,r1',sy',r2'];have:=stop (by rw[nx,if_neg (fun h=>b3 h.2)]);first|exact⟨rfl,by rw[this,ej]⟩|(rw[this,ej];done)
 simp only[au,Aaa,Aab,u7,cK,r0,r1,ar.c,L0,ej,i0,aA.c,rl,ae,ag,aR b2,aR b3,s1'];exact⟨(k+1,e.value,_),⟨hlt,by simp only;rw[hl,HK (by rw[nx,if_pos ⟨b2,b3⟩]),show v.entities.length+1-(k+1)=m by omega],nZ (ju hM0 _) (by simp),mO (ju hM1 _),⟨zz,nZ (ju hM2 _) (by simp),hzz⟩⟩,by simp only;omega,⟨by rw[wN (by omega)];simp[Ee,gW,gM],rfl,rfl⟩⟩
theorem F4(β:Bool)(v:ar)(hv:v.entities.length≤1048576)(x:an)(H:AH){p:AV}(hp:Ptr H p (v.c β)):T pQ Γ Fn.Uh [p,.agg (x.c false)] H fun r h'=>r=.agg ((cO v x).c false)∧h'=H:=by
 have L0:=eY β 12 false v.entities (aA.c β);have wl:IntKind.i64.wrap ((v.entities.length:Int)+1)=((v.entities.length+1:Nat):Int):=wN (by omega);refine Y0 (aC aG mixed [] _ _ _ ?_);unfold Ss;simp only[au,Aaa,Aab,vg,cK,an.c,hp.nil,hp.fld,hp.rd,ar.lX,Aak,ar.c,L0,wl];refine fD aG mixed [] (fun y:Nat×an×List (List AV)=>y.1≤v.entities.length+1∧cO v x=qy v.entities (v.entities.length+1-y.1) y.2.1∧y.2.2[([]:List (List AV)).length]? = some [.int .i64 y.2.1.kind,.int .i64 y.2.1.n]∧∃zz,y.2.2[([]:List (List AV)).length+1]? = some zz∧zz.length=2) (fun y=>v.entities.length+1-y.1)
  (fun y=>DJ p (.lp ([]:List (List AV)).length 0) (.lp (([]:List (List AV)).length+1) 0) (.int .i64 ((v.entities.length+1:Nat):Int)) (.int .i64 y.1) y.2.2 H) (0,x,_) ⟨by simp,rfl,rfl,⟨_,rfl,rfl⟩⟩ ⟨by simp[DJ,gW,gM],rfl,rfl⟩ ?_
 rintro⟨k,y,M⟩ ⟨hk,hl,hM1,zz,hM2,hzz⟩;simp only at hk hl hM1 hM2;have r1:∀(e:List AV) (h:AH) (off n:Nat),(St.mk e M h).cells (.lp ([]:List (List AV)).length off) n=sub [.int .i64 y.kind,.int .i64 y.n] off n:=fun e h off n=>de hM1;have s2:∀(e:List AV) (h:AH) (a b:Int),(St.mk e M h).store (.lp (([]:List (List AV)).length+1) 0) [.int .i64 a,.int .i64 b]=some ⟨e,M.set (([]:List (List AV)).length+1) [.int .i64 a,.int .i64 b],h⟩:=fun e h a b=>pP hM2 (by rw[hzz];rfl) rfl;have r2:∀(w:List AV) (e:List AV) (h:AH) (off n:Nat),(St.mk e (M.set (([]:List (List AV)).length+1) w) h).cells (.lp (([]:List (List AV)).length+1) off) n=sub w off n:=fun w e h off n=>de (mO hM2);have s1:∀(e:List AV) (h:AH) (a b:Int),(St.mk e M h).store (.lp ([]:List (List AV)).length 0) [.int .i64 a,.int .i64 b]=some ⟨e,M.set ([]:List (List AV)).length [.int .i64 a,.int .i64 b],h⟩:=fun e h a b=>pP hM1 rfl rfl;simp only[au,Aaa,Aab,vg,DJ];refine bz (fun hlt=>?_) (fun hge=>?_);rotate_left
 ·have hge:k=v.entities.length+1:=by simp at hge;omega
  subst hge;simp only[au,Aaa,Aab,vg];refine al.val (by simp only[EO]) (yy _) ?_;simp only[au,Aaa,Aab,vg,s2,bd,an.c,r2];rw[hl,Aaz];first|exact⟨rfl,rfl⟩|rfl
 have hlt:k<v.entities.length+1:=by simp at hlt;omega
 obtain⟨m,hm⟩:∃m,v.entities.length+1-k=m+1:=⟨v.entities.length-k,by omega⟩
 rw[hm]at hl;have stop:qD v.entities y=none→cO v x=y:=fun hn=>by rw[hl,zM hn]
 by_cases b1:y.kind=1;rotate_left
 ·simp only[au,Aaa,Aab,vg,r1,ae,ag,aW b1,s2,r2];have:=stop (zd b1);first|exact⟨rfl,by rw[this]⟩|(rw[this];done)|exact⟨rfl,by rw[this];rfl⟩
 simp only[au,Aaa,Aab,vg,r1,ae,ag,aR b1];refine al.ref (by simp only[EO,hp.out]) (Sh β v hv y.n H hp) ?_;rintro r H1 ⟨⟨j,hj,ej,rfl⟩|⟨ho,rfl⟩,eH⟩;rotate_left
 ·replace eH:H1=H:=eH;subst eH;simp only[au,Aaa,Aab,vg,r1,ae,ag,aR b1,s2,r2];have e1:bB y.n v.entities.length=false:=by
   cases hh:bB y.n v.entities.length
   ·rfl
   ·obtain⟨j,ej,hj⟩:=A1 hh;have:=ho j ej;omega
  have:=stop (Fb e1);first|exact⟨rfl,by rw[this]⟩|(rw[this];done)|exact⟨rfl,by rw[this];rfl⟩
 replace eH:H1=H:=eH;subst eH;have nx:=E1 (es:=v.entities) b1 hj ej;obtain⟨e,he⟩:∃e,e=v.entities[j]:=⟨_,rfl⟩
 rw[←he]at nx;by_cases b2:e.kind=2;rotate_left
 ·simp only[au,Aaa,Aab,vg,cK,←he,r1,aA.c,ae,ag,aW b2,s2,r2];have:=stop (by rw[nx,if_neg (fun h=>b2 h.1)]);first|exact⟨rfl,by rw[this]⟩|(rw[this];done)
 by_cases b3:e.state=2;rotate_left
 ·simp only[au,Aaa,Aab,vg,cK,←he,r1,aA.c,ae,ag,aR b2,aW b3,s2,r2];have:=stop (by rw[nx,if_neg (fun h=>b3 h.2)]);first|exact⟨rfl,by rw[this]⟩|(rw[this];done)
 simp only[au,Aaa,Aab,vg,cK,←he,r1,aA.c,ae,ag,aR b2,aR b3,s1];exact⟨(k+1,e.value,_),⟨hlt,by simp only;rw[hl,HK (by rw[nx,if_pos ⟨b2,b3⟩]),show v.entities.length+1-(k+1)=m by omega],mO hM1,⟨zz,nZ hM2 (by simp),hzz⟩⟩,by simp only;omega,⟨by rw[wN (by omega)];simp[DJ,gW,gM],rfl,rfl⟩⟩
theorem Am(β:Bool)(l:List an)(hl:l.length≤1048576)(h:AH):T pQ Γ Fn.kbs [.vs β 2 false (l.map (an.c β))] h (aX h [.c (.sl 2 (l.map an.cd))]):=
 xS aG mixed (fun hw=>kbs_e hw) (by omega) (by simp only[aU];omega) (fun x=>⟨rfl,rfl⟩) (fun x=>(an.bO false x).symm)
theorem Wo(β:Bool)(x:aK)(hx:x.ok 1048576)(h:AH):T pQ Γ Fn.kaI [.agg (x.c β)] h (aX h [.a x.cd]):=by
 refine T.jJ ?_;refine XO (aC aG mixed [] _ _ _ ?_);unfold NW;simp only[au,Aaa,Aab,KG,cK,ER,aK.c];refine al.ref (by simp only[EO]) (Am β x.args hx.2 _) ?_;rintro w H1 fr;replace fr:aX h _ _ _:=fr;obtain⟨fw,ow,nw,bw,ew⟩:=fr.c1;obtain⟨c1,c2,c3,c4⟩:=ow.cell;simp only[au,Aaa,Aab,KG,cK,ER,aK.c,c1,c2,c3];obtain⟨N,rfl⟩:=ew.out;refine⟨by simp[cY,gq,c4,c2,c3,uJ,vt],_,N,fw,rfl,rfl,?_,nw,bw⟩;have:fw=fw++[]:=by simp
 rw[this];exact .i (.s (.o ow (.i (.i (.i (.i .nil))))))
theorem Mt(β:Bool)(l:List aK)(hl:l.length≤1048576)(ho':∀x∈l,x.ok 1048576)(h:AH):T pQ Γ Fn.ka7 [.vs β 7 false (l.map (aK.c β))] h (aX h [.c (.sl 7 (l.map aK.cd))]):=by
 have L0:=eY β 7 false l (aK.c β);generalize e0:AV.vs β 7 false (l.map (aK.c β))=a0 at *;refine T.xC ?_;refine YH (aC aG mixed [] _ _ _ ?_);unfold Ra;simp only[au,Aaa,Aab,Dc,EA,L0];refine fD aG mixed [] (fun x:Nat×AV×AH×List Nat×List (List AV)=>x.1≤l.length∧b9 x.2.2.1 x.2.1 (.sl 7 ((l.take x.1).map aK.cd)) x.2.2.2.1∧x.2.2.2.1.Nodup∧(∀c∈x.2.2.2.1,h.length≤c)∧cQ h x.2.2.1) (fun x=>l.length-x.1)
  (fun x=>DV x.2.1 a0 (.int .i64 l.length) (.int .i64 x.1) x.2.2.2.2 x.2.2.1) (0,.gs h.length 0 0 0 0 7 true,h++[some (0,[])],[h.length],[]) ⟨by simp,gn h 7,by simp,by simp,cQ.app _ _⟩ ⟨by simp[DV,gW,gM],rfl,rfl⟩ ?_
 rintro⟨k,v,H,fp,L⟩ ⟨hk,ho,nd,hfp,hN⟩;simp only at hk ho nd hfp hN;simp only[au,Aaa,Aab,Dc,DV];refine bz (fun hlt=>?_) (fun hge=>?_);rotate_left
 ·have hge:k=l.length:=by simp at hge;omega
  subst hge;simp only[au,Aaa,Aab,Dc];rw[Aar]at ho;obtain⟨N,rfl⟩:=hN.out;exact⟨ho.cY,N,fp,rfl,ho,nd,hfp⟩
 have hlt:k<l.length:=by simpa using hlt
 have i0:=fI (β:=β) (sz:=7) (ex:=false) (ce:=aK.c β) hlt;rw[e0]at i0;have hox:=ho' _ (Aal hlt);simp only[au,Aaa,Aab,Dc,i0,aK.c];refine al.ref (by simp only[EO]) (Wo β l[k] hox _) ?_;rintro _ H1 fr;replace fr:aX H _ _ _:=fr;obtain⟨aw,fw,rfl,ow,nw,bw,ew⟩:=fr.a1;have hdis:(fp++fw).Nodup:=iG nd nw (fun c hc=>ho.lt c hc) bw;replace ho:=ho.ext ew;have hx1:=hN.trans ew;have oo:=ow;simp only[aK.cd,jv,jy,j6,oF,nF]at oo;obtain⟨_,_,_,_,rfl,_,⟨rfl,rfl⟩,⟨_,_,_,_,rfl,_,⟨rfl,rfl⟩,⟨a2,_,g2,_,rfl,_,u2,⟨_,_,_,_,rfl,_,⟨rfl,rfl⟩,⟨_,_,_,_,rfl,_,⟨rfl,rfl⟩,⟨_,_,_,_,rfl,_,⟨rfl,rfl⟩,⟨_,_,_,_,rfl,_,⟨rfl,rfl⟩,⟨rfl,_⟩⟩⟩⟩⟩⟩⟩⟩:=oo;obtain⟨c1,c2,c3,c4⟩:=u2.cell;obtain⟨v',H',fp',ea,o',nd',hf',hl',hm'⟩:=df (bytes:=80) ho hdis (by omega) rfl ow (by simp only[Aat,Aas,aU];omega);simp only[au,Aaa,Aab,Dc,EA,c1,c2,c3,ea];refine⟨(k+1,v',H',fp',_),⟨hlt,by simp only;rw[Aai hlt,Aau];exact o',nd',fun c hc=>?_,hx1.CZ hl' hf' hfp⟩,by simp only;omega,⟨by rw[wN (by omega)];simp[DV,gW,gM],rfl,rfl⟩⟩;have:=hN.len;have:=hx1.len;rcases hm' c hc with g|g|g
 ·exact hfp c g
 ·have:=bw c g;omega
 ·omega
theorem Lf(β:Bool)(l:List aK)(hl:l.length≤1048576)(ho':∀x∈l,x.ok 1048576)(h:AH):T pQ Γ Fn.kc8 [.vs β 7 false (l.map (aK.c β))] h (aX h [.c (.sl 7 (l.map aK.cd))]):=by
 have L0:=eY β 7 false l (aK.c β);generalize e0:AV.vs β 7 false (l.map (aK.c β))=a0 at *;refine T.xC ?_;refine VS (aC aG mixed [] _ _ _ ?_);unfold OZ;simp only[au,Aaa,Aab,Gb,EA,L0];refine fD aG mixed [] (fun x:Nat×AV×AH×List Nat×List (List AV)=>x.1≤l.length∧b9 x.2.2.1 x.2.1 (.sl 7 ((l.take x.1).map aK.cd)) x.2.2.2.1∧x.2.2.2.1.Nodup∧(∀c∈x.2.2.2.1,h.length≤c)∧cQ h x.2.2.1) (fun x=>l.length-x.1)
  (fun x=>D1 a0 x.2.1 (.int .i64 x.1) x.2.2.2.2 x.2.2.1) (0,.gs h.length 0 0 0 0 7 true,h++[some (0,[])],[h.length],[]) ⟨by simp,gn h 7,by simp,by simp,cQ.app _ _⟩ ⟨by simp[D1,gW,gM],rfl,rfl⟩ ?_
 rintro⟨k,v,H,fp,L⟩ ⟨hk,ho,nd,hfp,hN⟩;simp only at hk ho nd hfp hN;simp only[au,Aaa,Aab,Gb,D1,L0];refine bz (fun hlt=>?_) (fun hge=>?_);rotate_left
 ·have hge:k=l.length:=by simp at hge;omega
  subst hge;simp only[au,Aaa,Aab,Gb];rw[Aar]at ho;obtain⟨N,rfl⟩:=hN.out;exact⟨ho.cY,N,fp,rfl,ho,nd,hfp⟩
 have hlt:k<l.length:=by simpa using hlt
 have i0:=fI (β:=β) (sz:=7) (ex:=false) (ce:=aK.c β) hlt;rw[e0]at i0;have hox:=ho' _ (Aal hlt);have hal:l[k].args.length≤1048576:=hox.2;have ho1:=ho.ext (cQ.app H [some (0,[])]);obtain⟨w,H1,fw,eb,ow,nw,hfw,hlw,hmw⟩:=rY (bytes:=16) (gn H 2) (by simp) (by omega) (β:=β) (l:=l[k].args) (c:=an.c β) (fun x=>⟨rfl,rfl⟩) (fun x=>(an.bO false x).symm) (by simp only[Aae,aU];omega);have ew:cQ H H1:=(cQ.app H [some (0,[])]).CZ hlw hfw (by simp);have bw:∀c∈fw,H.length≤c:=fun c hc=>by
  rcases hmw c hc with g|g
  ·simp at g;omega
  ·simp at g;omega
 have hdis:(fp++(fw++[])).Nodup:=by rw[Aac];exact iG nd nw (fun c hc=>ho.lt c hc) bw
 replace ho:=ho.ext ew;have hx1:=hN.trans ew;obtain⟨c1,c2,c3,c4⟩:=ow.cell;have ow2:aM H1 [.int .i64 l[k].target,.str l[k].name,w,.int .i64 l[k].result,.int .i64 l[k].tag.vat,.int .i64 l[k].tag.entity,.int .i64 l[k].tag.seq] l[k].cd (fw++[]):=.i (.s (.o ow (.i (.i (.i (.i .nil))))));obtain⟨v',H',fp',ea,o',nd',hf',hl',hm'⟩:=df (bytes:=80) ho hdis (by omega) rfl ow2 (by simp only[Aat,Aas,aU];omega);simp only[au,Aaa,Aab,Gb,i0,aK.c,EA,cK,eb,c1,c2,c3,ea];refine⟨(k+1,v',H',fp',_),⟨hlt,by simp only;rw[Aai hlt,Aau];exact o',nd',fun c hc=>?_,hx1.CZ hl' hf' hfp⟩,by simp only;omega,⟨by rw[wN (by omega)];simp[D1,gW,gM],rfl,rfl⟩⟩;have:=hN.len;have:=hx1.len;rcases hm' c hc with g|g|g
 ·exact hfp c g
 ·have:=bw c (by simpa using g);omega
 ·omega
theorem FJ(β:Bool)(l:List cj)(hl:l.length≤1048576)(h:AH):T pQ Γ Fn.kbp [.vs β 2 false (l.map (cj.c β))] h (aX h [.c (.sl 2 (l.map cj.cd))]):=
 xS aG mixed (fun hw=>XK hw) (by omega) (by simp only[aU];omega) (fun x=>⟨rfl,rfl⟩) (fun x=>(cj.bO false x).symm)
theorem Eh(β:Bool)(l:List aE)(hl:l.length≤1048576)(h:AH):T pQ Γ Fn.kbq [.vs β 3 false (l.map (aE.c β))] h (aX h [.c (.sl 3 (l.map aE.cd))]):=
 xS aG mixed (fun hw=>YK hw) (by omega) (by simp only[aU];omega) (fun x=>⟨rfl,rfl⟩) (fun x=>(aE.bO false x).symm)
theorem qX(β:Bool)(l:List aB)(hl:l.length≤1048576)(h:AH):T pQ Γ Fn.kbr [.vs β 2 false (l.map (aB.c β))] h (aX h [.c (.sl 2 (l.map aB.cd))]):=
 xS aG mixed (fun hw=>kbr_e hw) (by omega) (by simp only[aU];omega) (fun x=>⟨rfl,rfl⟩) (fun x=>(aB.bO false x).symm)
theorem G4(β:Bool)(l:List aJ)(hl:l.length≤1048576)(h:AH):T pQ Γ Fn.kbt [.vs β 2 false (l.map (aJ.c β))] h (aX h [.c (.sl 2 (l.map aJ.cd))]):=
 xS aG mixed (fun hw=>Yd hw) (by omega) (by simp only[aU];omega) (fun x=>⟨rfl,rfl⟩) (fun x=>(aJ.bO false x).symm)
theorem aaa(β:Bool)(e:aA)(he:e.ok 1048576)(h:AH):T pQ Γ Fn.kad [.agg (e.c β)] h (aX h [.a e.cd]):=by
 refine T.jJ ?_;refine Yq (aC aG mixed [] _ _ _ ?_);unfold ON;simp only[au,Aaa,Aab,FQ,xR,qT,cK,ER,aA.c];refine al.ref (by simp only[EO]) (Am β e.slots he.1 _) ?_;rintro w1 H1 fr;replace fr:aX h _ _ _:=fr;obtain⟨f1,o1,n1,b1,e1⟩:=fr.c1;obtain⟨a1a,a1b,a1c,a1d⟩:=o1.cell;simp only[au,Aaa,Aab,FQ,xR,qT,cK,ER,aA.c,a1a,a1b,a1c];refine⟨(by first|exact e1.mem _ _ _|exact gh (e1.mem _ _ _)),?_⟩;refine al.ref (by simp only[EO]) (Mt β e.queue he.2.1 he.2.2.1 _) ?_;rintro w2 H2 fr;replace fr:aX H1 _ _ _:=fr;obtain⟨f2,o2,n2,b2,e2⟩:=fr.c1;obtain⟨a2a,a2b,a2c,a2d⟩:=o2.cell;simp only[au,Aaa,Aab,FQ,xR,qT,cK,ER,aA.c,a1a,a1b,a1c,a2a,a2b,a2c];refine⟨(by first|exact e2.mem _ _ _|exact gh (e2.mem _ _ _)),?_⟩;refine al.ref (by simp only[EO]) (FJ β e.askers he.2.2.2 _) ?_;rintro w3 H3 fr;replace fr:aX H2 _ _ _:=fr;obtain⟨f3,o3,n3,b3,e3⟩:=fr.c1;obtain⟨a3a,a3b,a3c,a3d⟩:=o3.cell;simp only[au,Aaa,Aab,FQ,xR,qT,cK,ER,aA.c,a1a,a1b,a1c,a2a,a2b,a2c,a3a,a3b,a3c];have n12:(f1++f2).Nodup:=iG n1 n2 (fun c hc=>o1.lt c hc) b2;have q1:=(o1.ext e2).ext e3;have q2:=o2.ext e3;have hl1:=e1.len;have hl2:=e2.len;have n123:((f1++f2)++f3).Nodup:=iG n12 n3 (fun c hc=>by
  rcases Aad.1 hc with g|g
  ·have:=o1.lt c g;omega
  ·exact o2.lt c g) b3
 obtain⟨N,hN⟩:=((e1.trans e2).trans e3).out;refine⟨by simp[cY,gq,a1b,a1c,a1d,a2b,a2c,a2d,a3b,a3c,a3d,uJ,vt,xp],_,N,f1++(f2++(f3++[])),rfl,hN,?_,by rw[Aac,←Aaj];exact n123,fun c hc=>?_⟩
 ·exact .i (.i (.o q1 (.i (.i (.i (.o q2 (.o o3 (.i (.i (.i (.i .nil)))))))))))
 ·simp only[Aac,Aad]at hc;rcases hc with g|g|g
  ·exact b1 c g
  ·have:=b2 c g;omega
  ·have:=b3 c g;omega
theorem Ws(β:Bool)(e:aF)(he:e.ok 1048576)(h:AH):T pQ Γ Fn.kau [.agg (e.c β)] h (aX h [.a e.cd]):=by
 refine T.jJ ?_;refine YO (aC aG mixed [] _ _ _ ?_);unfold Po;simp only[au,Aaa,Aab,Fj,yQ,qQ,cK,ER,aF.c];refine al.ref (by simp only[EO]) (Eh β e.exports he.1 _) ?_;rintro w1 H1 fr;replace fr:aX h _ _ _:=fr;obtain⟨f1,o1,n1,b1,e1⟩:=fr.c1;obtain⟨a1a,a1b,a1c,a1d⟩:=o1.cell;simp only[au,Aaa,Aab,Fj,yQ,qQ,cK,ER,aF.c,a1a,a1b,a1c];refine⟨(by first|exact e1.mem _ _ _|exact gh (e1.mem _ _ _)),?_⟩;refine al.ref (by simp only[EO]) (qX β e.questions he.2.1 _) ?_;rintro w2 H2 fr;replace fr:aX H1 _ _ _:=fr;obtain⟨f2,o2,n2,b2,e2⟩:=fr.c1;obtain⟨a2a,a2b,a2c,a2d⟩:=o2.cell;simp only[au,Aaa,Aab,Fj,yQ,qQ,cK,ER,aF.c,a1a,a1b,a1c,a2a,a2b,a2c];refine⟨(by first|exact e2.mem _ _ _|exact gh (e2.mem _ _ _)),?_⟩;refine al.ref (by simp only[EO]) (qX β e.answers he.2.2 _) ?_;rintro w3 H3 fr;replace fr:aX H2 _ _ _:=fr;obtain⟨f3,o3,n3,b3,e3⟩:=fr.c1;obtain⟨a3a,a3b,a3c,a3d⟩:=o3.cell;simp only[au,Aaa,Aab,Fj,yQ,qQ,cK,ER,aF.c,a1a,a1b,a1c,a2a,a2b,a2c,a3a,a3b,a3c];have n12:(f1++f2).Nodup:=iG n1 n2 (fun c hc=>o1.lt c hc) b2;have q1:=(o1.ext e2).ext e3;have q2:=o2.ext e3;have hl1:=e1.len;have hl2:=e2.len;have n123:((f1++f2)++f3).Nodup:=iG n12 n3 (fun c hc=>by
  rcases Aad.1 hc with g|g
  ·have:=o1.lt c g;omega
  ·exact o2.lt c g) b3
 obtain⟨N,hN⟩:=((e1.trans e2).trans e3).out;refine⟨by simp[cY,gq,a1b,a1c,a1d,a2b,a2c,a2d,a3b,a3c,a3d,uJ,vt,xp],_,N,f1++(f2++(f3++[])),rfl,hN,?_,by rw[Aac,←Aaj];exact n123,fun c hc=>?_⟩
 ·exact .i (.b (.o q1 (.i (.o q2 (.i (.o o3 .nil))))))
 ·simp only[Aac,Aad]at hc;rcases hc with g|g|g
  ·exact b1 c g
  ·have:=b2 c g;omega
  ·have:=b3 c g;omega
theorem Yy(β:Bool)(e:ah)(he:e.ok 1048576)(h:AH):T pQ Γ Fn.kaz [.agg (e.c β)] h (aX h [.a e.cd]):=by
 refine T.jJ ?_;refine Y4 (aC aG mixed [] _ _ _ ?_);unfold OP;simp only[au,Aaa,Aab,Lp,cK,ER,ah.c];refine al.ref (by simp only[EO]) (G4 β e.args he.2 _) ?_;rintro w1 H1 fr;replace fr:aX h _ _ _:=fr;obtain⟨f1,o1,n1,b1,e1⟩:=fr.c1;obtain⟨a1a,a1b,a1c,a1d⟩:=o1.cell;simp only[au,Aaa,Aab,Lp,cK,ER,ah.c,a1a,a1b,a1c];obtain⟨N,hN⟩:=e1.out;refine⟨by simp[cY,gq,a1b,a1c,a1d,uJ,vt,xp],_,N,f1++[],rfl,hN,?_,by rw[Aac];exact n1,fun c hc=>b1 c (by simpa using hc)⟩;exact .i (.i (.i (.i (.s (.o o1 (.i (.i (.i (.i (.i (.i .nil)))))))))))
theorem QC(β:Bool)(e:aA)(he:e.ok 1048576)(h:AH):T pQ Γ Fn.kc7 [.agg (e.c β)] h (aX h [.a e.cd]):=by
 refine T.jJ ?_;refine Vj (aC aG mixed [] _ _ _ ?_);unfold OU;obtain⟨w1,H1,f1,ea1,o1,n1,hf1,hl1,hm1⟩:=rY (bytes:=16) (gn h 2) (by simp) (by omega) (β:=β) (l:=e.slots) (c:=an.c β) (fun x=>⟨rfl,rfl⟩) (fun x=>(an.bO false x).symm) (by have:=he.1;simp only[Aae,aU];omega);have e1:cQ h H1:=(cQ.app h [some (0,[])]).CZ hl1 hf1 (by simp);have b1:∀c∈f1,h.length≤c:=fun c hc=>by
  rcases hm1 c hc with g|g
  ·simp at g;omega
  ·simp at g;omega
 obtain⟨a1a,a1b,a1c,a1d⟩:=o1.cell;simp only[au,Aaa,Aab,JT,cK,ER,aA.c,EA,ea1,a1a,a1b,a1c];refine al.ref (by simp only[EO]) (Lf β e.queue he.2.1 he.2.2.1 _) ?_;rintro w2 H2 fr;replace fr:aX H1 _ _ _:=fr;obtain⟨f2,o2,n2,b2,e2⟩:=fr.c1;obtain⟨a2a,a2b,a2c,a2d⟩:=o2.cell;obtain⟨w3,H3,f3,ea3,o3,n3,hf3,hl3,hm3⟩:=rY (bytes:=16) (gn H2 2) (by simp) (by omega) (β:=β) (l:=e.askers) (c:=cj.c β) (fun x=>⟨rfl,rfl⟩) (fun x=>(cj.bO false x).symm) (by have:=he.2.2.2;simp only[Aae,aU];omega);have e3:cQ H2 H3:=(cQ.app H2 [some (0,[])]).CZ hl3 hf3 (by simp);have b3:∀c∈f3,H2.length≤c:=fun c hc=>by
  rcases hm3 c hc with g|g
  ·simp at g;omega
  ·simp at g;omega
 obtain⟨a3a,a3b,a3c,a3d⟩:=o3.cell;simp only[au,Aaa,Aab,JT,cK,ER,aA.c,EA,ea1,a1a,a1b,a1c,a2a,a2b,a2c,ea3,a3a,a3b,a3c];have n12:(f1++f2).Nodup:=iG n1 n2 (fun c hc=>o1.lt c hc) b2;have q1:=(o1.ext e2).ext e3;have q2:=o2.ext e3;have l1':=e1.len;have l2':=e2.len;have n123:((f1++f2)++f3).Nodup:=iG n12 n3 (fun c hc=>by
  rcases Aad.1 hc with g|g
  ·have:=o1.lt c g;omega
  ·exact o2.lt c g) b3
 obtain⟨N,hN⟩:=((e1.trans e2).trans e3).out;refine⟨by simp[cY,gq,a1b,a1c,a1d,a2b,a2c,a2d,a3b,a3c,a3d,uJ,vt,xp],_,N,f1++(f2++(f3++[])),rfl,hN,?_,by rw[Aac,←Aaj];exact n123,fun c hc=>?_⟩
 ·exact .i (.i (.o q1 (.i (.i (.i (.o q2 (.o o3 (.i (.i (.i (.i .nil)))))))))))
 ·simp only[Aac,Aad]at hc;rcases hc with g|g|g
  ·exact b1 c g
  ·have:=b2 c g;omega
  ·have:=b3 c g;omega
theorem It(β:Bool)(e:aF)(he:e.ok 1048576)(h:AH):T pQ Γ Fn.kcp [.agg (e.c β)] h (aX h [.a e.cd]):=by
 refine T.jJ ?_;refine X9 (aC aG mixed [] _ _ _ ?_);unfold OQ;obtain⟨w1,H1,f1,ea1,o1,n1,hf1,hl1,hm1⟩:=rY (bytes:=24) (gn h 3) (by simp) (by omega) (β:=β) (l:=e.exports) (c:=aE.c β) (fun x=>⟨rfl,rfl⟩) (fun x=>(aE.bO false x).symm) (by have:=he.1;simp only[Aae,aU];omega);have e1:cQ h H1:=(cQ.app h [some (0,[])]).CZ hl1 hf1 (by simp);have b1:∀c∈f1,h.length≤c:=fun c hc=>by
  rcases hm1 c hc with g|g
  ·simp at g;omega
  ·simp at g;omega
 obtain⟨a1a,a1b,a1c,a1d⟩:=o1.cell;obtain⟨w2,H2,f2,ea2,o2,n2,hf2,hl2,hm2⟩:=rY (bytes:=16) (gn H1 2) (by simp) (by omega) (β:=β) (l:=e.questions) (c:=aB.c β) (fun x=>⟨rfl,rfl⟩) (fun x=>(aB.bO false x).symm) (by have:=he.2.1;simp only[Aae,aU];omega);have e2:cQ H1 H2:=(cQ.app H1 [some (0,[])]).CZ hl2 hf2 (by simp);have b2:∀c∈f2,H1.length≤c:=fun c hc=>by
  rcases hm2 c hc with g|g
  ·simp at g;omega
  ·simp at g;omega
 obtain⟨a2a,a2b,a2c,a2d⟩:=o2.cell;obtain⟨w3,H3,f3,ea3,o3,n3,hf3,hl3,hm3⟩:=rY (bytes:=16) (gn H2 2) (by simp) (by omega) (β:=β) (l:=e.answers) (c:=aB.c β) (fun x=>⟨rfl,rfl⟩) (fun x=>(aB.bO false x).symm) (by have:=he.2.2;simp only[Aae,aU];omega);have e3:cQ H2 H3:=(cQ.app H2 [some (0,[])]).CZ hl3 hf3 (by simp);have b3:∀c∈f3,H2.length≤c:=fun c hc=>by
  rcases hm3 c hc with g|g
  ·simp at g;omega
  ·simp at g;omega
 obtain⟨a3a,a3b,a3c,a3d⟩:=o3.cell;simp only[au,Aaa,Aab,N9,cK,ER,aF.c,EA,ea1,a1a,a1b,a1c,ea2,a2a,a2b,a2c,ea3,a3a,a3b,a3c];have n12:(f1++f2).Nodup:=iG n1 n2 (fun c hc=>o1.lt c hc) b2;have q1:=(o1.ext e2).ext e3;have q2:=o2.ext e3;have l1':=e1.len;have l2':=e2.len;have n123:((f1++f2)++f3).Nodup:=iG n12 n3 (fun c hc=>by
  rcases Aad.1 hc with g|g
  ·have:=o1.lt c g;omega
  ·exact o2.lt c g) b3
 obtain⟨N,hN⟩:=((e1.trans e2).trans e3).out;refine⟨by simp[cY,gq,a1b,a1c,a1d,a2b,a2c,a2d,a3b,a3c,a3d,uJ,vt,xp],_,N,f1++(f2++(f3++[])),rfl,hN,?_,by rw[Aac,←Aaj];exact n123,fun c hc=>?_⟩
 ·exact .i (.b (.o q1 (.i (.o q2 (.i (.o o3 .nil))))))
 ·simp only[Aac,Aad]at hc;rcases hc with g|g|g
  ·exact b1 c g
  ·have:=b2 c g;omega
  ·have:=b3 c g;omega
theorem VA(β:Bool)(e:ah)(he:e.ok 1048576)(h:AH):T pQ Γ Fn.kcs [.agg (e.c β)] h (aX h [.a e.cd]):=by
 refine T.jJ ?_;refine ZG (aC aG mixed [] _ _ _ ?_);unfold Nw;obtain⟨w1,H1,f1,ea1,o1,n1,hf1,hl1,hm1⟩:=rY (bytes:=16) (gn h 2) (by simp) (by omega) (β:=β) (l:=e.args) (c:=aJ.c β) (fun x=>⟨rfl,rfl⟩) (fun x=>(aJ.bO false x).symm) (by have:=he.2;simp only[Aae,aU];omega);have e1:cQ h H1:=(cQ.app h [some (0,[])]).CZ hl1 hf1 (by simp);have b1:∀c∈f1,h.length≤c:=fun c hc=>by
  rcases hm1 c hc with g|g
  ·simp at g;omega
  ·simp at g;omega
 obtain⟨a1a,a1b,a1c,a1d⟩:=o1.cell;simp only[au,Aaa,Aab,P3,cK,ER,ah.c,EA,ea1,a1a,a1b,a1c];obtain⟨N,hN⟩:=e1.out;refine⟨by simp[cY,gq,a1b,a1c,a1d,uJ,vt,xp],_,N,f1++[],rfl,hN,?_,by rw[Aac];exact n1,fun c hc=>b1 c (by simpa using hc)⟩;exact .i (.i (.i (.i (.s (.o o1 (.i (.i (.i (.i (.i (.i .nil)))))))))))
end Go.Proofs.YtolciaflplefcaaGreat
