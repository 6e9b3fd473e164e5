import Derived.Test.YtolciaflplefcaaGreatR6G20
import Derived.Test.YtolciaflplefcaaGreatAmG9
import Derived.Test.YtolciaflplefcaaGreatR6G19
import Derived.Test.YtolciaflplefcaaGreatAmG10
import Derived.Test.YtolciaflplefcaaGreatR6G14
import Derived.Test.YtolciaflplefcaaGreatR6G18
import Derived.Test.YtolciaflplefcaaGreatR6G15
set_option linter.unusedVariables false
set_option linter.unusedSimpArgs false
open Go.Proofs.Tryz renaming prog→pQ
open Nat renaming reduceAdd→Aaa,reduceBEq→Aab,le_refl→Aag,le_trans→Aao,zero_le→AaC
open Bool renaming and_eq_true→Aac,and_false→Aar,false_and→Aas,not_false→Aat,and_assoc→Aau,and_true→Aav,true_and→Aaw,or_false→Aax,false_or→Aay,not_true→Aaz,or_true→AaA,true_or→AaB
open List renaming getD_eq_getElem?_getD→Aad,getElem_mem→Aae,length_append→Aaf,getElem?_set→Aah,getElem?_eq_getElem→Aai,length_cons→Aaj,not_mem_nil→Aak,length_nil→Aal,mem_cons→Aam,mem_singleton→Aan,mem_append→Aap,foldl_cons→Aaq
namespace Go.Proofs.YtolciaflplefcaaGreat
open Go.AM
variable {Γ:bG}
theorem lI(a b c d:Int):fg .neq (.agg [.int .i64,.int .i64]) (.agg [.int .i64 a,.int .i64 b]) (.agg [.int .i64 c,.int .i64 d])=some (.bool !decide (a=c∧b=d)):=by
 simp[fg,sY,uO,xy,Bool.decide_and,ae]
theorem AD{g:FuncId}{caps:List AV}(hc:caps.all gq=true)(hc2:caps.all mo=true)(p:aJ→Bool)(β:Bool)(l:List aJ)(hl:l.length≤1048576){h:AH}(hp:∀x∈l,T pQ Γ g ([]++([.agg (x.c β)]++caps)) h fun v h'=>v=.bool (p x)∧h'=h):
 T pQ Γ Fn.kbw [.vs β 2 false (l.map (aJ.c β)),.fn g [] caps] h fun v h'=>v=.bool (l.any p)∧h'=h:=by
 have hcall:=my (P:=pQ) (Γ:=Γ) aG mixed (sz:=2) (agg:=true) (fun hw=>X2 hw) (β:=β) (l:=l) (c:=aJ.c β) (by omega) (fun x=>⟨⟨rfl,.inl rfl⟩,rfl⟩) (g:=g) (first:=[]) (caps:=caps) hc p (h:=h) hp;refine Ux (aC aG mixed [] _ _ _ ?_);unfold NQ;simp only[au,Aaa,Aab,KY];refine al.val (by simp only[EO,hc,hc2]) hcall ?_;simp only[au,Aaa,Aab,KY];rw[show decide (iq p l≥0)=l.any p from EE p l];first|exact⟨rfl,rfl⟩|exact rfl
theorem ZW(β:Bool)(w:aJ)(h:AH):T pQ Γ Fn.kbg [.agg (w.c β)] h fun v h'=>v=.bool (!k9 w)∧h'=h:=by
 refine kbg_e (aC aG mixed [] _ _ _ ?_);unfold Oa;simp only[au,Aaa,Aab,Ki,aJ.c];refine al.val (by simp only[EO]) (LR β w _) ?_;simp only[au,Aaa,Aab,Ki];first|exact⟨rfl,rfl⟩|exact rfl
set_option maxHeartbeats 16000000 in
set_option maxRecDepth 100000 in
theorem Ik(β:Bool)(m:ah)(hn:m.name.size≤1048576)(ha:m.args.length≤1048576)(h:AH):T pQ Γ Fn.kbf [.agg (m.c β)] h fun v h'=>v=.bool (pX m)∧h'=h:=by
 have L0:=eY β 2 false m.args (aJ.c β);have g0:decide ((m.args.length:Int)>0) = !decide ((m.args.length:Int)=0):=by
  by_cases e:(m.args.length:Int)=0
  ·rw[aR e,aW (by omega)];rfl
  ·rw[aW e,aR (by omega)];rfl
 have g0':decide ((0:Int)<(m.args.length:Int)) = !decide ((m.args.length:Int)=0):=g0;have hcw:=fun h=>AD (Γ:=Γ) (g:=Fn.kbg) (caps:=[]) rfl rfl (fun x=>!k9 x) β m.args ha (h:=h) (fun x hx=>ZW β x h);have haw:(m.args.any fun x=>!k9 x) = !(m.args.all k9):=by rw[←M7,Bool.not_not]
 rw[haw]at hcw;refine Yp (aC aG mixed [] _ _ _ ?_);unfold SW;have C:(m.kind=1∧decide (m.kind=1)=true∧decide (m.kind=2)=false∧decide (m.kind=3)=false∧decide (m.kind=4)=false∧decide (m.kind=5)=false∧decide (m.kind=6)=false)∨(m.kind=2∧decide (m.kind=1)=false∧decide (m.kind=2)=true∧decide (m.kind=3)=false∧decide (m.kind=4)=false∧decide (m.kind=5)=false∧decide (m.kind=6)=false)∨(m.kind=3∧decide (m.kind=1)=false∧decide (m.kind=2)=false∧decide (m.kind=3)=true∧decide (m.kind=4)=false∧decide (m.kind=5)=false∧decide (m.kind=6)=false)∨(m.kind=4∧decide (m.kind=1)=false∧decide (m.kind=2)=false∧decide (m.kind=3)=false∧decide (m.kind=4)=true∧decide (m.kind=5)=false∧decide (m.kind=6)=false)∨(m.kind=5∧decide (m.kind=1)=false∧decide (m.kind=2)=false∧decide (m.kind=3)=false∧decide (m.kind=4)=false∧decide (m.kind=5)=true∧decide (m.kind=6)=false)∨(m.kind=6∧decide (m.kind=1)=false∧decide (m.kind=2)=false∧decide (m.kind=3)=false∧decide (m.kind=4)=false∧decide (m.kind=5)=false∧decide (m.kind=6)=true)∨(True∧decide (m.kind=1)=false∧decide (m.kind=2)=false∧decide (m.kind=3)=false∧decide (m.kind=4)=false∧decide (m.kind=5)=false∧decide (m.kind=6)=false):=by
  by_cases q1:m.kind=1
  ·exact .inl ⟨q1,aR q1,aW (by omega),aW (by omega),aW (by omega),aW (by omega),aW (by omega)⟩
  by_cases q2:m.kind=2
  ·exact .inr (.inl ⟨q2,aW (by omega),aR q2,aW (by omega),aW (by omega),aW (by omega),aW (by omega)⟩)
  by_cases q3:m.kind=3
  ·exact .inr (.inr (.inl ⟨q3,aW (by omega),aW (by omega),aR q3,aW (by omega),aW (by omega),aW (by omega)⟩))
  by_cases q4:m.kind=4
  ·exact .inr (.inr (.inr (.inl ⟨q4,aW (by omega),aW (by omega),aW (by omega),aR q4,aW (by omega),aW (by omega)⟩)))
  by_cases q5:m.kind=5
  ·exact .inr (.inr (.inr (.inr (.inl ⟨q5,aW (by omega),aW (by omega),aW (by omega),aW (by omega),aR q5,aW (by omega)⟩))))
  by_cases q6:m.kind=6
  ·exact .inr (.inr (.inr (.inr (.inr (.inl ⟨q6,aW (by omega),aW (by omega),aW (by omega),aW (by omega),aW (by omega),aR q6⟩)))))
  exact .inr (.inr (.inr (.inr (.inr (.inr (⟨trivial,aW q1,aW q2,aW q3,aW q4,aW q5,aW q6⟩))))))
 rcases C with⟨q,kk1,kk2,kk3,kk4,kk5,kk6⟩|⟨q,kk1,kk2,kk3,kk4,kk5,kk6⟩|⟨q,kk1,kk2,kk3,kk4,kk5,kk6⟩|⟨q,kk1,kk2,kk3,kk4,kk5,kk6⟩|⟨q,kk1,kk2,kk3,kk4,kk5,kk6⟩|⟨q,kk1,kk2,kk3,kk4,kk5,kk6⟩|⟨q,kk1,kk2,kk3,kk4,kk5,kk6⟩
 all_goals simp only[au,Aaa,Aab,xr,cK,qH,ah.c,L0,ae,ag,dV,eU,g0,g0',lI,pb,kk1,kk2,kk3,kk4,kk5,kk6]
 all_goals repeat' (first
  | (guard_target =~ al _ _ Fn.kbl _ _ _;refine al.val (by simp only[EO]) (F8 _ _) ?_;simp only[au,Aaa,Aab,xr,cK,qH,ah.c,L0,ae,ag,dV,eU,g0,g0',lI,pb,kk1,kk2,kk3,kk4,kk5,kk6])
  | (guard_target =~ al _ _ Fn.kbh _ _ _;refine al.val (by simp only[EO]) (Zm _ hn _) ?_;simp only[au,Aaa,Aab,xr,cK,qH,ah.c,L0,ae,ag,dV,eU,g0,g0',lI,pb,kk1,kk2,kk3,kk4,kk5,kk6])
  | (guard_target =~ al _ _ Fn.kbw _ _ _;refine al.val (by simp only[EO]) (hcw _) ?_;simp only[au,Aaa,Aab,xr,cK,qH,ah.c,L0,ae,ag,dV,eU,g0,g0',lI,pb,kk1,kk2,kk3,kk4,kk5,kk6])
  | (guard_target =~ al _ _ Fn.kbj _ _ _;refine al.val (by simp only[EO]) (Zi β m.tag _) ?_;simp only[au,Aaa,Aab,xr,cK,qH,ah.c,L0,ae,ag,dV,eU,g0,g0',lI,pb,kk1,kk2,kk3,kk4,kk5,kk6])
  | (guard_target =~ al _ _ Fn.kbk _ _ _;refine al.val (by simp only[EO]) (LR β m.value _) ?_;simp only[au,Aaa,Aab,xr,cK,qH,ah.c,L0,ae,ag,dV,eU,g0,g0',lI,pb,kk1,kk2,kk3,kk4,kk5,kk6])
  | (refine pq (fun hh=>?_) (fun hh=>?_)<;>simp only[au,Aaa,Aab,xr,cK,qH,ah.c,L0,ae,ag,dV,eU,g0,g0',lI,pb,kk1,kk2,kk3,kk4,kk5,kk6,hh])
  | (refine oW (fun hh=>?_) (fun hh=>?_)<;>simp only[au,Aaa,Aab,xr,cK,qH,ah.c,L0,ae,ag,dV,eU,g0,g0',lI,pb,kk1,kk2,kk3,kk4,kk5,kk6,hh])
  | (refine bz (fun hh=>?_) (fun hh=>?_)<;>simp only[au,Aaa,Aab,xr,cK,qH,ah.c,L0,ae,ag,dV,eU,g0,g0',lI,pb,kk1,kk2,kk3,kk4,kk5,kk6,hh])
  | ((try simp only[Bool.not_eq_true',Bool.not_eq_false']at *);(try refine⟨AS _,?_⟩);(try refine⟨?_,rfl⟩);first|rfl|(simp[pX,tI,qE,tK, *];done)|(simp_all [pX,tI,qE,tK];done)|(simp only[pX,tI,qE,tK, *,cond_true,cond_false,Aav,Aaw,Aar,Aas,AaA,AaB,Aax,Aay,Aaz,Aat,Aau];done)|(simp[pX,tI,qE,tK, *,cond_true,cond_false,Aav,Aaw,Aar,Aas,AaA,AaB,Aax,Aay,Aaz,Aat,Aau];done)|(exfalso;simp_all;done)))
def jA(peer pos:Int)(e:aA):Bool:=decide (e.kind=3) && (decide (e.peer=peer) && decide (e.pos=pos))
theorem YP(β:Bool)(v:ar)(hv:v.entities.length≤1048576)(peer pos:Int)(h:AH):T pQ Γ Fn.kcc [.agg (v.c β),.int .i64 peer,.int .i64 pos] h fun r h'=>r=.int .i64 (iq (jA peer pos) v.entities)∧h'=h:=by
 have L0:=eY β 12 false v.entities (aA.c β);refine V9 (aC aG mixed [] _ _ _ ?_);unfold Su;simp only[au,Aaa,Aab,Aj,cK,ar.c];refine fD aG mixed [] (fun y:Nat×List (List AV)=>(y.1≤v.entities.length∧∀(i:Nat) (hi:i<v.entities.length),i<y.1→jA peer pos v.entities[i]=false)∧y.2[([]:List (List AV)).length]? = some (v.c β)) (fun y=>v.entities.length-y.1)
  (fun y=>GF (.int .i64 peer) (.int .i64 pos) (.lp ([]:List (List AV)).length 0) (.int .i64 y.1) y.2 h) (0,_) ⟨⟨by simp,fun i hi h=>by simp only at h;omega⟩,rfl⟩ ⟨by simp[GF,gW,gM],rfl,rfl⟩ ?_
 rintro⟨k,M⟩ ⟨⟨hk,ht⟩,hM0⟩;simp only at hk ht hM0;have r0:∀(e:List AV) (h:AH) (off n:Nat),(St.mk e M h).cells (.lp ([]:List (List AV)).length off) n=sub (v.c β) off n:=fun e h off n=>de hM0;simp only[au,Aaa,Aab,Aj,GF,r0,ar.c,L0];refine bz (fun hlt=>?_) (fun hge=>?_);rotate_left
 ·have hge:k=v.entities.length:=by simp at hge;omega
  subst hge;simp only[au,Aaa,Aab,Aj];have:=qU (p:=jA peer pos) (l:=v.entities) fun i hi=>ht i hi hi;rw[this];first|exact⟨rfl,rfl⟩|rfl|trivial
 have hlt:k<v.entities.length:=by simpa using hlt
 have i0:=fI (β:=β) (sz:=12) (ex:=false) (ce:=aA.c β) hlt;obtain⟨e,he⟩:∃e,e=v.entities[k]:=⟨_,rfl⟩
 rw[←he]at i0;have rl:∀(z:List AV) (e:List AV) (h:AH) (off n:Nat),(St.mk e (M++[z]) h).cells (.lp M.length off) n=sub z off n:=fun z e h off n=>de (xT _ _);have nxt:jA peer pos e=false→∀(i:Nat) (hi:i<v.entities.length),i<k+1→jA peer pos v.entities[i]=false:=fun hp i hi hik=>by
  rcases Nat.lt_or_ge i k with g|g
  ·exact ht i hi g
  ·have:i=k:=by omega
   subst this;rw[←he];exact hp
 have hM1:∀z,(M++[z])[([]:List (List AV)).length]? = some (v.c β):=fun z=>ju hM0 _;by_cases b1:e.kind=3;rotate_left
 ·simp only[au,Aaa,Aab,Aj,cK,r0,ar.c,L0,i0,aA.c,rl,ae,ag,aW b1];exact⟨(k+1,_),⟨⟨hlt,nxt (by simp[jA,b1])⟩,hM1 _⟩,by simp only;omega,⟨by rw[wN (by omega)];simp[gW,gM],rfl,rfl⟩⟩
 by_cases b2:e.peer=peer;rotate_left
 ·simp only[au,Aaa,Aab,Aj,cK,r0,ar.c,L0,i0,aA.c,rl,ae,ag,aR b1,aW b2];exact⟨(k+1,_),⟨⟨hlt,nxt (by simp[jA,b2])⟩,hM1 _⟩,by simp only;omega,⟨by rw[wN (by omega)];simp[gW,gM],rfl,rfl⟩⟩
 by_cases b3:e.pos=pos;rotate_left
 ·simp only[au,Aaa,Aab,Aj,cK,r0,ar.c,L0,i0,aA.c,rl,ae,ag,aR b1,aR b2,aW b3];exact⟨(k+1,_),⟨⟨hlt,nxt (by simp[jA,b3])⟩,hM1 _⟩,by simp only;omega,⟨by rw[wN (by omega)];simp[gW,gM],rfl,rfl⟩⟩
 simp only[au,Aaa,Aab,Aj,cK,r0,ar.c,L0,i0,aA.c,rl,ae,ag,aR b1,aR b2,aR b3];have:=wU (p:=jA peer pos) hlt ht (by rw[←he];simp[jA,b1,b2,b3]);rw[this];first|exact⟨rfl,rfl⟩|rfl|trivial
structure Fr (v v':ar):Prop where
 aq:v'.aq=v.aq
 out:v'.out=v.out
 fH:wE v'=wE v
 mu:mJ v'=mJ v
 w:wV v'=wV v
 len:v.entities.length≤v'.entities.length
 vi:VI v→VI v'
theorem Fr.refl(v:ar):Fr v v:=⟨rfl,rfl,rfl,rfl,rfl,Aag _,id⟩
theorem Fr.trans{a b c:ar}(h:Fr a b)(k:Fr b c):Fr a c:=⟨k.aq.trans h.aq,k.out.trans h.out,k.fH.trans h.fH,k.mu.trans h.mu,k.w.trans h.w,Aao h.len k.len,fun x=>k.vi (h.vi x)⟩
theorem yr(v:ar):wV v=wE v+v.out.length+(v.aq.map xK).sum:=rfl
theorem Fr.count{v:ar}{n:Int}(hn:bB n v.entities.length=true):Fr v (cT v n.toNat (cP (aD v n))):=by
 have b1:=uk hn (cP (aD v n));have b2:=ur hn (cP (aD v n));have g1:oq (cP (aD v n))=oq (aD v n):=rfl;have g2:BX (cP (aD v n))=BX (aD v n):=rfl;have e:=yr v;have e':=yr (cT v n.toNat (cP (aD v n)));have l1:(cT v n.toNat (cP (aD v n))).aq=v.aq:=rfl;have l2:(cT v n.toNat (cP (aD v n))).out=v.out:=rfl;rw[l1,l2]at e';exact⟨rfl,rfl,by omega,by omega,by omega,by rw[js];exact Aag _,fun h=>pw h _ _ (gZ h n)⟩
theorem Fr.add(v:ar){x:aA}(h1:x.slots.length≤100)(h2:x.queue=[])(h3:x.askers=[])(h4:BX x=0):Fr v (dv v x):=by
 unfold dv;split
 ·exact .refl v
 ·rename_i hl;have hx:oq x=0:=by simp[oq,h2,h3,sM]
  have e1:wE { v with entities:=v.entities++[x] }=wE v:=by simp[wE,hx]
  refine⟨rfl,rfl,e1,by simp[mJ,h4],by rw[yr,e1,yr],by simp,fun h=>⟨by simp only[Aaf,Aaj,Aal];omega,h.loop,h.aq,h.ans,fun y hy=>?_,h.lps,h.outs⟩⟩;rcases Aap.1 hy with g|g
  ·exact h.en y g
  ·rw[Aan.1 g];exact⟨h1,fun s hs=>by rw[h2]at hs;cases hs⟩
theorem LB.fr{K r:Nat}{v v':ar}(h:LB K r v)(f:Fr v v'):LB K r v':=by
 obtain⟨N,h1,h2,h3⟩:=h;exact⟨N,by rw[f.aq];exact h1,by rw[f.fH];exact h2,by rw[f.aq];exact h3⟩
theorem AU{α:Type}{p:α→Bool}{l:List α}(h:¬iq p l<0):bB (iq p l) l.length=true:=by
 rcases iB p l with⟨k,hk,e,_,_⟩|⟨e,_,_⟩
 ·rw[e];simp[bB,hk]
 ·rw[e]at h;omega
def pK(l:aF)(m:ah):Bool:=decide (gO l.exports m.pos<0) && (!decide (m.pos=0) || decide (iw l.answers m.answer<0))
theorem Wa(β β':Bool)(l:aF)(hl:l.ok 1048576)(m:ah)(h:AH):T pQ Γ Fn.kcP [.agg (l.c β),.agg (m.c β')] h fun r h'=>r=.bool (pK l m)∧h'=h:=by
 refine UY (aC aG mixed [] _ _ _ ?_);unfold Rt;simp only[au,Aaa,Aab,Dq,cK,qH,aF.c,ah.c,ag,ae];refine al.val (by simp only[EO]) (J3 β l hl.1 m.pos _) ?_;by_cases h1:gO l.exports m.pos<0;rotate_left
 ·simp only[au,Aaa,Aab,Dq,cK,qH,aF.c,ah.c,ag,ae,aW h1];have e:pK l m=false:=by simp[pK,h1]
  rw[e];first|exact⟨rfl,rfl⟩|rfl|trivial
 by_cases h2:m.pos=0;rotate_left
 ·simp only[au,Aaa,Aab,Dq,cK,qH,aF.c,ah.c,ag,ae,aR h1,aW h2];have e:pK l m=true:=by simp[pK,h1,h2]
  rw[e];first|exact⟨rfl,rfl⟩|rfl|trivial
 simp only[au,Aaa,Aab,Dq,cK,qH,aF.c,ah.c,ag,ae,aR h1,aR h2];refine al.val (by simp only[EO]) (K8 β l.answers hl.2.2 m.answer _) ?_;simp only[au,Aaa,Aab,Dq,cK,qH,aF.c,ah.c,ag,ae];have e:pK l m=decide (iw l.answers m.answer<0):=by rw[pK,aR h1,aR h2];simp
 rw[e];first|exact⟨rfl,rfl⟩|rfl|trivial|exact⟨AS _,rfl⟩
def ny(peer q:Int):aA:=⟨2,0,[],1,⟨0,0⟩,[],[⟨peer,q⟩],0,0,0,0⟩
def vI(l:aF)(q p:Int):aF:={ l with answers:=l.answers++[⟨q,p⟩] }
theorem GI.push{K:Nat}{v:ar}(g:GI K v)(p:Int)(m:ah)(hm:m.ok 100):GI (K+1) (e8 v p m):=by
 obtain⟨h1,h2,h3⟩:=jX v p m;exact⟨h3 g.vi hm,by have:=g.w;omega,LB.push (LB.mono (r':=0) (LB.more (c:=1) g.lb) (by omega)) _ _,by rw[h1.fH];exact g.ne⟩
theorem G2{K:Nat}{v:ar}(g:GI K v)(hK:K+10≤100)(hl:v.entities.length<200)(peer q p:Int){k:Nat}(hk:k<v.aq.length):
 VI (dU (dv v (ny peer q)) k (vI v.aq[k] q p))∧wV (dU (dv v (ny peer q)) k (vI v.aq[k] q p))≤K+2∧LB (K+10) 7 (dU (dv v (ny peer q)) k (vI v.aq[k] q p))∧0<(dU (dv v (ny peer q)) k (vI v.aq[k] q p)).entities.length:=by
 have e1:dv v (ny peer q)={ v with entities:=v.entities++[ny peer q] }:=by rw[dv,if_neg (by omega)]
 rw[e1];have hx:oq (ny peer q)=2:=rfl;have vi1:VI { v with entities:=v.entities++[ny peer q] }:=⟨by simp only[Aaf,Aaj,Aal];omega,g.vi.loop,g.vi.aq,g.vi.ans,fun y hy=>by
  rcases Aap.1 hy with q|q
  ·exact g.vi.en y q
  ·rw[Aan.1 q];exact⟨AaC _,fun s hs=>by cases hs⟩,g.vi.lps,g.vi.outs⟩
 have ew:wE { v with entities:=v.entities++[ny peer q] }=wE v+2:=by simp[wE,hx]
 have li:=g.lb.sg v.aq[k] (Aae hk);have lb1:LB (K+10) 8 { v with entities:=v.entities++[ny peer q] }:=by
  obtain⟨N,h1,h2,h3⟩:=g.lb;exact⟨N,h1,by rw[ew];omega,h3⟩
 refine⟨qg vi1 _ _ ?_,?_,lb1.dU _ _ fun N hN hl=>?_,by simp[dU]⟩
 ·have:=li.la;simp only[vI,Aaf,Aaj,Aal];omega
 ·have h1:=sj (v:={ v with entities:=v.entities++[ny peer q] }) k (vI v.aq[k] q p) (c:=0) (by
   have:(v.aq.getD k default)=v.aq[k]:=by simp[Aad,hk]
   rw[this];exact Aag _)
  have h2:=g.w;have e5:=yr { v with entities:=v.entities++[ny peer q] };rw[ew]at e5;rw[yr]at h2;simp only at e5;omega
 ·exact(hl _ (Aae hk)).ans _
theorem GI.aac{K:Nat}{v:ar}(h1:VI v)(h2:wV v≤K+2)(h3:LB (K+10) 7 v)(h4:0<v.entities.length)(hK:K+10≤100)(s:aK)(hs:s.ok 100)(ha:s.args.length≤4):GI (K+10) (aT (mJ v+1) v s):=by
 have d:=gr (mJ v+1);refine⟨d.vi v s h1 hs,by have:=d.w v s;omega,LB.mono (r:=1) (rk (mJ v+1) (K+10) 1 v s (by omega) (h3.mono (by omega))) (by omega),by rw[d.len];exact h4⟩
def vK(i:Int)(q:aB):Bool:=q.id == i
def nN(l:List aB)(i:Int):List aB:=l.filter fun q=>!vK i q
theorem wx(l:List aB)(i:Int):(nN l i).length≤l.length:=List.length_filter_le _ _
theorem Hm{i:Int}{l:List aB}{k:Nat}(hk:k<l.length):nN (l.take (k+1)) i=nN (l.take k) i++(if vK i l[k]=true then []else [l[k]]):=by
 rw[nN,List.take_succ_eq_append_getElem hk,List.filter_append];congr 1;by_cases h:vK i l[k]=true<;>simp[h]
theorem Sa(β:Bool)(l:List aB)(hl:l.length≤1048576)(i:Int)(h:AH):T pQ Γ Fn.kbU [.vs β 2 false (l.map (aB.c β)),.int .i64 i] h (aX h [.c (.sl 2 ((nN l i).map aB.cd))]):=by
 have L0:=eY β 2 false l (aB.c β);generalize e0:AV.vs β 2 false (l.map (aB.c β))=a0 at *;refine T.xC ?_;refine ZK (aC aG mixed [] _ _ _ ?_);unfold OI;simp only[au,Aaa,Aab,CL,EA,L0];refine fD aG mixed [] (fun x:Nat×AV×AH×List Nat=>x.1≤l.length∧b9 x.2.2.1 x.2.1 (.sl 2 ((nN (l.take x.1) i).map aB.cd)) x.2.2.2∧x.2.2.2.Nodup∧(∀c∈x.2.2.2,h.length≤c)∧∃N,x.2.2.1=h++N) (fun x=>l.length-x.1)
  (fun x=>Bh a0 (.int .i64 i) x.2.1 (.int .i64 x.1) [] x.2.2.1) (0,.gs h.length 0 0 0 0 2 true,h++[some (0,[])],[h.length]) ⟨by simp,gn h 2,by simp,by simp,_,rfl⟩ ⟨by simp[Bh,gW,gM],rfl,rfl⟩ ?_
 rintro⟨k,v,H,fp⟩ ⟨hk,ho,nd,hfp,N,hN⟩;simp only at hk ho nd hfp hN;subst hN;simp only[au,Aaa,Aab,CL,Bh,L0];refine bz (fun hlt=>?_) (fun hge=>?_);rotate_left
 ·have hge:k=l.length:=by simp at hge;omega
  subst hge;simp only[au,Aaa,Aab,CL];rw[List.take_length]at ho;exact⟨ho.cY,N,fp,rfl,ho,nd,hfp⟩
 have hlt:k<l.length:=by simpa using hlt
 have i0:=fI (β:=β) (sz:=2) (ex:=false) (ce:=aB.c β) hlt;rw[e0]at i0;have ht:=Hm (i:=i) hlt;by_cases hp:l[k].id=i
 ·have hd:vK i l[k]=true:=by simp[vK,hp]
  rw[if_pos hd,List.append_nil]at ht;simp only[au,Aaa,Aab,CL,i0,aB.c,ag,ae,aR hp];exact⟨(k+1,v,h++N,fp),⟨hlt,by simp only;rw[ht];exact ho,nd,hfp,N,rfl⟩,by simp only;omega,⟨by rw[wN (by omega)];simp[Bh,gW,gM],rfl,rfl⟩⟩
 have hd:¬vK i l[k]=true:=by simp[vK,hp]
 rw[if_neg hd]at ht;have hbl:=wx (l.take k) i;rw[List.length_take]at hbl;obtain⟨v',H',fp',ea,o',nd',hf',hl',hm'⟩:=df (bytes:=16) ho (ys:=[.int .i64 l[k].id,.int .i64 l[k].promise]) (row:=l[k].cd) (f2:=[]) (by simpa using nd) (by omega) rfl (.i (.i .nil)) (by simp only[List.length_map,aU];omega);obtain⟨N',rfl⟩:=Tt hl' hf' hfp;simp only[au,Aaa,Aab,CL,EA,i0,aB.c,ag,ae,aW hp,ea];refine⟨(k+1,v',h++N',fp'),⟨hlt,by simp only;rw[ht,List.map_append];exact o',nd',fun c hc=>?_,N',rfl⟩,by simp only;omega,⟨by rw[wN (by omega)];simp[Bh,gW,gM],rfl,rfl⟩⟩;rcases hm' c hc with g|g|g
 ·exact hfp c g
 ·simp at g
 ·simp at g;omega
def rG(l:aF)(q:Int):aF:={ l with questions:=nN l.questions q }
theorem kv.fin{N:Nat}{l:aF}(h:kv N l)(q:Int):kv N (rG l q):=
 ⟨h.nx,h.ak,h.ex,h.nd,fun x hx=>h.qs x (List.mem_filter.1 hx).1,h.le,Aao (wx _ _) h.lq,h.la⟩
theorem LB.TP{K r:Nat}{v:ar}(h:LB K r v)(k:Nat)(l:aF)(hl:∀N,(∀x∈v.aq,kv N x)→kv N l):LB K r (Go.Proofs.YtolciaflplefcaaGreat.dU v k l):=by
 obtain⟨N,h1,h2,h3⟩:=h;refine⟨N,fun x hx=>?_,h2,by simpa[Go.Proofs.YtolciaflplefcaaGreat.dU]using h3⟩;rcases List.mem_or_eq_of_mem_set hx with g|g
 ·exact h1 x g
 ·rw[g];exact hl N h1
theorem GI.fin{K:Nat}{v:ar}(g:GI K v){k:Nat}(hk:k<v.aq.length)(q:Int):GI K (dU v k (rG v.aq[k] q)):=by
 refine⟨qg g.vi _ _ (show v.aq[k].answers.length≤100 from g.vi.ans _ (Aae hk)),?_,g.lb.TP _ _ fun N hl=>(hl _ (Aae hk)).fin q,g.ne⟩;have h1:=sj (v:=v) k (rG v.aq[k] q) (c:=0) (by
  have:(v.aq.getD k default)=v.aq[k]:=by simp[Aad,hk]
  rw[this];have:=wx v.aq[k].questions q;simp only[xK,rG];omega)
 have:=g.w;omega
theorem GI.res{K:Nat}{v:ar}(g:GI K v)(hK:K≤1000)(n:Nat)(p:Int)(x:an):GI K (dD (aT n) v p x):=by
 obtain⟨r1,r2,r3,r4⟩:=Eg (gr n) v p x;exact⟨r4 g.vi,by have:=g.w;omega,(rk n).res hK v p x g.lb,by rw[r1];exact g.ne⟩
theorem GI.fr{K:Nat}{v v':ar}(g:GI K v)(f:Fr v v'):GI K v':=⟨f.vi g.vi,by rw[f.w];exact g.w,g.lb.fr f,Nat.lt_of_lt_of_le g.ne f.len⟩
def gU(k q:Int):ah:=⟨k,0,0,q,⟨#[]⟩,[],⟨0,0⟩,0,⟨0,0,0⟩⟩
def ctlC(k q:Int):List AV:=[.int .i64 k,.int .i64 0,.int .i64 0,.int .i64 q,.str ⟨#[]⟩,.nils,.int .i64 0,.int .i64 0,.int .i64 0,.int .i64 0,.int .i64 0,.int .i64 0]
theorem sC(H:AH)(k q:Int):aM H (ctlC k q) (gU k q).cd []:=.i (.i (.i (.i (.s (.o (.nil _) (.i (.i (.i (.i (.i (.i .nil)))))))))))
theorem GI.cT{K:Nat}{v:ar}(g:GI K v){n:Int}(hn:bB n v.entities.length=true)(e:aA)(hw:oq e=oq (aD v n))(hs:e.slots.length≤100∧∀s∈e.queue,s.ok 100):GI K (Go.Proofs.YtolciaflplefcaaGreat.cT v n.toNat e):=by
 have b1:=uk hn e;exact⟨pw g.vi _ _ hs,by have:=g.w;omega,g.lb.cT hn e (by omega),by rw[js];exact g.ne⟩
def Bt(q:List aK)(r:Int):Nat:=q.countP fun s=>decide (s.result=r)
def Dx(r:Int)(e:aA):Nat:=Bt e.queue r
def BW(v:ar)(r:Int):Nat:=(v.entities.map (Dx r)).sum
def IB(e:aA):Prop:=e.kind=2∧(e.state=3∨e.state=4)
structure RQ (q:List aK) (v:ar):Prop where
 one:∀r,Bt q r+BW v r≤1
 ok:∀r,0<Bt q r+BW v r→bB r v.entities.length=true∧¬IB (aD v r)
theorem lW(s:aK)(q:List aK)(r:Int):Bt (s::q) r=Bt q r+(if s.result=r then 1 else 0):=by
 simp only[Bt,List.countP_cons,decide_eq_true_eq]
theorem A4(a b:List aK)(r:Int):Bt (a++b) r=Bt a r+Bt b r:=by simp only[Bt,List.countP_append]
theorem yA(r:Int):Bt [] r=0:=rfl
theorem HI{v:ar}{n:Int}(h:bB n v.entities.length=true)(e:aA)(r:Int):BW (cT v n.toNat e) r+Dx r (aD v n)=BW v r+Dx r e:=by
 obtain⟨k,hk,_,e2,e3⟩:=cL h;have:=wF (Dx r) v.entities k e hk;rw[e2,e3];simp only[BW,cT];omega
theorem uY{n m:Int}{k:Nat}(hn:bB n k=true)(hm:bB m k=true)(h:n.toNat=m.toNat):n=m:=by
 simp only[bB,Aac,decide_eq_true_eq]at hn hm;omega
theorem jf{v:ar}{n m:Int}(hn:bB n v.entities.length=true)(hm:bB m v.entities.length=true)(e:aA):aD (cT v n.toNat e) m=if m=n then e else aD v m:=by
 obtain⟨k,hk,_,e2,_⟩:=cL hn;obtain⟨j,hj,_,f2,_⟩:=cL hm;unfold aD cT;simp only[Aad,Aah];by_cases h:m=n
 ·rw[if_pos h,h,if_pos rfl,if_pos (by omega)];rfl
 ·rw[if_neg h,if_neg fun g=>h (uY hm hn g.symm)]
theorem RQ.fH{q:List aK}{v v':ar}(h:v'.entities=v.entities)(r:RQ q v):RQ q v':=by
 have e1:∀x,BW v' x=BW v x:=fun x=>by unfold BW;rw[h]
 have e2:∀x,aD v' x=aD v x:=fun x=>by unfold Go.Proofs.YtolciaflplefcaaGreat.aD;rw[h]
 exact⟨fun x=>by rw[e1];exact r.one x,fun x hx=>by rw[e1]at hx;rw[e2,h];exact r.ok x hx⟩
theorem RQ.vD{s:aK}{q:List aK}{v:ar}(r:RQ (s::q) v):RQ q v:=
 ⟨fun x=>by have:=r.one x;rw[lW]at this;omega,fun x hx=>r.ok x (by rw[lW];omega)⟩
theorem RQ.head{s:aK}{q:List aK}{v:ar}(r:RQ (s::q) v):bB s.result v.entities.length=true∧¬IB (aD v s.result)∧Bt q s.result+BW v s.result=0:=by
 have h1:=r.one s.result;have h2:=r.ok s.result (by rw[lW,if_pos rfl];omega);rw[lW,if_pos rfl]at h1;exact⟨h2.1,h2.2,by omega⟩
theorem RQ.set{q q':List aK}{v:ar}{n:Int}(hn:bB n v.entities.length=true){e:aA}(r:RQ q v)
 (hc:∀x,Bt q' x+Dx x e≤Bt q x+Dx x (aD v n)) (ha:¬IB e∨Bt q' n+BW (cT v n.toNat e) n=0∨(IB e→IB (aD v n))):RQ q' (cT v n.toNat e):=by
 have key:∀x,Bt q' x+BW (cT v n.toNat e) x≤Bt q x+BW v x:=fun x=>by
  have:=hc x;have:=HI hn e x;omega
 refine⟨fun x=>Aao (key x) (r.one x),fun x hx=>?_⟩;obtain⟨o1,o2⟩:=r.ok x (by have:=key x;omega);refine⟨by rw[js];exact o1,?_⟩;rw[jf hn o1];by_cases h:x=n
 ·rw[if_pos h];subst h;rcases ha with g|g|g
  ·exact g
  ·omega
  ·exact fun hh=>o2 (g hh)
 ·rw[if_neg h];exact o2
theorem ru(v:ar)(s:aK)(peer pos ans:Int):(fW v s peer pos ans).entities=(cT v s.result.toNat (kT (aD v s.result) peer (sW (cm v s peer) peer s.result))).entities:=by
 unfold fW hZ;rw[(jX _ _ _).1.fH];simp only[cT];rw[(uo _ _ _).1.fH,(uf v s peer).1.fH]
theorem RQ.call{s:aK}{q:List aK}{v:ar}(r:RQ (s::q) v)(peer pos ans:Int):RQ ((aD v s.result).queue++q) (fW v s peer pos ans):=by
 obtain⟨h1,h2,h3⟩:=r.head;refine RQ.fH (ru v s peer pos ans) (RQ.set h1 r (fun x=>?_) (.inr (.inl ?_)))
 ·rw[A4,lW];have:Dx x (kT (aD v s.result) peer (sW (cm v s peer) peer s.result))=0:=rfl;have:Dx x (aD v s.result)=Bt (aD v s.result).queue x:=rfl;omega
 ·have:=HI h1 (kT (aD v s.result) peer (sW (cm v s peer) peer s.result)) s.result;have e0:Dx s.result (kT (aD v s.result) peer (sW (cm v s peer) peer s.result))=0:=rfl;have e1:Dx s.result (aD v s.result)=Bt (aD v s.result).queue s.result:=rfl;rw[A4];omega
theorem RQ.kept{q:List aK}{v:ar}(r:RQ q v){p:Int}(hp:bB p v.entities.length=true)(x:an):RQ ((aD v p).queue++q) (ky v p x):=by
 unfold ky;refine RQ.set hp r (fun y=>?_) (.inl ?_)
 ·rw[A4];have:Dx y (lJ (aD v p) (vC v p x))=0:=rfl;have:Dx y (aD v p)=Bt (aD v p).queue y:=rfl;omega
 ·rintro⟨_,g|g⟩<;>simp[lJ]at g
theorem RQ.same{q:List aK}{v:ar}(r:RQ q v){n:Int}(hn:bB n v.entities.length=true){e:aA}(h1:e.queue=(aD v n).queue)(h2:e.kind=(aD v n).kind)(h3:e.state=(aD v n).state):RQ q (cT v n.toNat e):=by
 refine RQ.set hn r (fun x=>by unfold Dx;rw[h1];exact Aag _) (.inr (.inr ?_));unfold IB;rw[h2,h3];exact id
theorem RQ.sh{s s':aK}{q:List aK}{v:ar}(r:RQ (s::q) v)(hs:s'.result=s.result){n:Int}(hn:bB n v.entities.length=true):RQ q (cT v n.toNat (sh (aD v n) s')):=by
 refine RQ.set hn r (fun x=>?_) (.inr (.inr id));have e1:Dx x (Go.Proofs.YtolciaflplefcaaGreat.sh (aD v n) s')=Dx x (aD v n)+(if s.result=x then 1 else 0):=by
  unfold Dx Go.Proofs.YtolciaflplefcaaGreat.sh;rw[A4,lW,yA,hs];omega
 rw[lW];omega
theorem RQ.step{q:List aK}{v:ar}(r:RQ q v)(y:an)(a:cj):RQ q (bF y v a):=by
 unfold bF;split
 ·rename_i hp;have hl:bB (cO v y).n v.entities.length=true:=by
   simp only[lM,Aac]at hp;exact hp.2.1
  exact r.same hl rfl rfl rfl
 ·exact r.fH ((oB v a.peer (cO v y)).1.trans (jX _ _ _).1).fH
theorem RQ.steps{q:List aK}(y:an):∀(l:List cj) {v:ar},RQ q v→RQ q (l.foldl (bF y) v)
 | [],_,r=>r
 | a::l,_,r=>RQ.steps y l (r.step y a)
def DR(D:ar→aK→ar):Prop:=∀(v:ar) (s:aK) (q:List aK),RQ (s::q) v→RQ q (D v s)
theorem DR.fold{D:ar→aK→ar}(h:DR D):∀(l:List aK) {q:List aK} {v:ar},RQ (l++q) v→RQ q (l.foldl D v)
 | [],_,_,r=>r
 | s::l,q,v,r=>DR.fold h l (h v s (l++q) r)
theorem DR.dp{D:ar→aK→ar}(h:DR D){v:ar}{s:aK}{q:List aK}(r:RQ (s::q) v)(peer pos ans:Int):RQ q (dp D v s peer pos ans):=by
 unfold Go.Proofs.YtolciaflplefcaaGreat.dp;split
 ·exact h.fold _ (r.call peer pos ans)
 ·exact r.vD
theorem DR.dD{D:ar→aK→ar}(h:DR D){v:ar}{q:List aK}(r:RQ q v)(p:Int)(x:an):RQ q (dD D v p x):=by
 unfold Go.Proofs.YtolciaflplefcaaGreat.dD;split
 ·rename_i hp;simp only[pd,Aac]at hp;exact RQ.steps _ _ (h.fold _ (r.kept hp.1 x))
 ·exact r
theorem RQ.nC{s:aK}{q:List aK}{v:ar}(r:RQ (s::q) v):RQ (nC v s::q) v:=
 ⟨fun x=>by have:=r.one x;rw[lW]at this ⊢;exact this,fun x hx=>r.ok x (by rw[lW]at hx ⊢;exact hx)⟩
theorem RQ.count{q:List aK}{v:ar}(r:RQ q v){n:Int}(hn:bB n v.entities.length=true):RQ q (cT v n.toNat (cP (aD v n))):=r.same hn rfl rfl rfl
theorem mq:∀n,DR (aT n)
 | 0=>fun v s q r=>r.vD
 | n+1=>fun v s q r=>by
  have h:=mq n;have ok:=gr n;have fail:RQ q (Go.Proofs.YtolciaflplefcaaGreat.dD (aT n) v s.result bd):=h.dD r.vD _ _;unfold aT;split
  rotate_left
  ·exact fail
  rename_i ht;simp only[Aac]at ht;split
  ·split
   ·exact RQ.fH (v:=v) (v':={ v with loop:=v.loop++[nC v s] }) rfl r.vD
   ·exact fail
  split
  ·split
   ·exact h.dp r.nC _ _ _
   ·exact fail
  split
  ·split
   ·split
    ·have hl:=(wK ok v (nC v s) (aD v (pC v s).n).peer 0 (aD v (pC v s).n).pos).1;exact(h.dp r.nC _ _ _).count (by rw[hl];exact ht.2)
    ·exact fail
   split
   ·exact fail
   split
   ·exact r.sh (s':=nC v s) rfl ht.2
   ·exact fail
  ·exact fail
structure KE (e e':aA):Prop where
 kind:e'.kind=e.kind
 held:e'.state=4→e.state=4
 away:IB e→e'.state=e.state
theorem KE.refl(e:aA):KE e e:=⟨rfl,id,fun _=>rfl⟩
theorem KE.of{e e':aA}(h1:e'.kind=e.kind)(h2:e'.state=e.state):KE e e':=⟨h1,fun h=>by rw[←h2];exact h,fun _=>h2⟩
theorem KE.aw{e e':aA}(k:KE e e')(h:IB e):IB e':=by
 unfold IB at h ⊢;rw[k.kind,k.away h];exact h
theorem KE.trans{a b c:aA}(h:KE a b)(k:KE b c):KE a c:=
 ⟨k.kind.trans h.kind,fun g=>h.held (k.held g),fun g=>(k.away (h.aw g)).trans (h.away g)⟩
theorem KE.set{v:ar}{n i:Int}(hn:bB n v.entities.length=true)(hi:bB i v.entities.length=true){e:aA}(h:KE (aD v n) e):KE (aD v i) (aD (cT v n.toNat e) i):=by
 rw[jf hn hi];by_cases g:i=n
 ·rw[if_pos g,g];exact h
 ·rw[if_neg g];exact .refl _
theorem rC{v v':ar}(h:v'.entities=v.entities)(i:Int):aD v' i=aD v i:=by unfold aD;rw[h]
def DK(D:ar→aK→ar):Prop:=∀(v:ar) (s:aK) (q:List aK) (i:Int),RQ (s::q) v→bB i v.entities.length=true→KE (aD v i) (aD (D v s) i)
theorem DK.fold{D:ar→aK→ar}(h:DK D)(hr:DR D)(ok:My D){i:Int}:∀(l:List aK) {q:List aK} {v:ar},RQ (l++q) v→bB i v.entities.length=true→KE (aD v i) (aD (l.foldl D v) i)
 | [],_,_,_,_=>.refl _
 | s::l,q,v,r,hi=>(h v s (l++q) i r hi).trans (DK.fold h hr ok l (hr v s (l++q) r) (by rw[ok.len];exact hi))
theorem Af{v:ar}{s:aK}{peer pos ans:Int}:(fW v s peer pos ans).entities.length=v.entities.length:=by rw[ru,js]
theorem DK.dp{D:ar→aK→ar}(h:DK D)(hr:DR D)(ok:My D){v:ar}{s:aK}{q:List aK}(r:RQ (s::q) v)(peer pos ans:Int){i:Int}(hi:bB i v.entities.length=true):KE (aD v i) (aD (dp D v s peer pos ans) i):=by
 unfold Go.Proofs.YtolciaflplefcaaGreat.dp;split
 ·rename_i hc;obtain⟨_,c2,c3,c4⟩:=xF hc;refine KE.trans ?_ (h.fold hr ok _ (r.call peer pos ans) (by rw[Af];exact hi));rw[rC (ru v s peer pos ans)];exact KE.set c2 hi ⟨rfl,fun g=>by simp[kT]at g,fun g=>by unfold IB at g;omega⟩
 ·exact .refl _
theorem KE.step(y:an)(v:ar)(a:cj){i:Int}(hi:bB i v.entities.length=true):KE (aD v i) (aD (bF y v a) i):=by
 unfold bF;split
 ·rename_i hp;have hl:bB (cO v y).n v.entities.length=true:=by
   simp only[lM,Aac]at hp;exact hp.2.1
  exact KE.set hl hi (.of rfl rfl)
 ·rw[rC ((oB v a.peer (cO v y)).1.trans (jX _ _ _).1).fH];exact .refl _
theorem KE.steps(y:an){i:Int}:∀(l:List cj) (v:ar),bB i v.entities.length=true→KE (aD v i) (aD (l.foldl (bF y) v) i)
 | [],_,_=>.refl _
 | a::l,v,hi=>(KE.step y v a hi).trans (KE.steps y l _ (by rw[(zk y v a).1];exact hi))
theorem DK.dD{D:ar→aK→ar}(h:DK D)(hr:DR D)(ok:My D){v:ar}{q:List aK}(r:RQ q v)(p:Int)(x:an){i:Int}(hi:bB i v.entities.length=true)(hp:i=p→¬IB (aD v p)):KE (aD v i) (aD (dD D v p x) i):=by
 unfold Go.Proofs.YtolciaflplefcaaGreat.dD;split
 ·rename_i ho;obtain⟨k1,_,_,_⟩:=zS ho x;simp only[pd,Aac]at ho;have hk:bB i (ky v p x).entities.length=true:=by rw[k1];exact hi
  have hf:=h.fold hr ok (i:=i) _ (r.kept ho.1 x) hk;refine KE.trans ?_ (hf.trans (KE.steps _ _ _ (by rw[(nj ok _ _).1];exact hk)));unfold ky;rw[jf ho.1 hi];by_cases g:i=p
  ·rw[if_pos g];subst g;exact⟨rfl,fun g=>by simp[lJ]at g,fun g=>absurd g (hp rfl)⟩
  ·rw[if_neg g];exact .refl _
 ·exact .refl _
theorem vF:∀n,DK (aT n)
 | 0=>fun v s q i r hi=>.refl _
 | n+1=>fun v s q i r hi=>by
  have h:=vF n;have hr:=mq n;have ok:=gr n;have fail:KE (aD v i) (aD (Go.Proofs.YtolciaflplefcaaGreat.dD (aT n) v s.result bd) i):=h.dD hr ok r.vD _ _ hi fun _=>r.head.2.1;unfold aT;split
  rotate_left
  ·exact fail
  rename_i ht;simp only[Aac]at ht;split
  ·split
   ·exact .refl _
   ·exact fail
  split
  ·split
   ·exact h.dp hr ok r.nC _ _ _ hi
   ·exact fail
  split
  ·split
   ·split
    ·have hl:=(wK ok v (nC v s) (aD v (pC v s).n).peer 0 (aD v (pC v s).n).pos).1;exact(h.dp hr ok r.nC _ _ _ hi).trans (KE.set (by rw[hl];exact ht.2) (by rw[hl];exact hi) (.of rfl rfl))
    ·exact fail
   split
   ·exact fail
   split
   ·exact KE.set ht.2 hi (.of rfl rfl)
   ·exact fail
  ·exact fail
def gN(v:ar)(a:Int):ar:=cT v a.toNat (cP (aD v a))
theorem rK(v:ar)(a:Int):(gN v a).entities.length=v.entities.length:=js _ _ _
theorem I8{v:ar}{a:Int}(ha:bB a v.entities.length=true)(k:Nat):(gN v a).entities.getD k default=if k=a.toNat then cP (aD v a)else v.entities.getD k default:=by
 obtain⟨j,hj,_,f2,_⟩:=cL ha;unfold gN cT;simp only[Aad,Aah];by_cases h:a.toNat=k
 ·rw[if_pos h,if_pos h.symm,if_pos (by omega)];rfl
 ·rw[if_neg h,if_neg fun g=>h g.symm]
theorem rE{v:ar}{a:Int}(ha:bB a v.entities.length=true)(m:Int):aD (gN v a) m=if m.toNat=a.toNat then cP (aD v a)else aD v m:=I8 ha _
theorem pQz{α:Type}(g:aA→α)(hg:∀e,g (cP e)=g e){v:ar}{a:Int}(ha:bB a v.entities.length=true)(m:Int):g (aD (gN v a) m)=g (aD v m):=by
 rw[rE ha];split
 ·rename_i h;rw[hg];unfold aD;rw[h]
 ·rfl
theorem Hg{v:ar}{a:Int}(ha:bB a v.entities.length=true)(x:an):qD (gN v a).entities x=qD v.entities x:=by
 obtain⟨j,hj,_,f2,f3⟩:=cL ha;unfold qD;split
 ·unfold gN cT;simp only[Aah];by_cases h:a.toNat=x.n.toNat
  ·rw[if_pos h,if_pos (by omega),←h,f2,Aai hj,f3];rfl
  ·rw[if_neg h]
 ·rfl
theorem Cn{v:ar}{a:Int}(ha:bB a v.entities.length=true):∀(n:Nat) (x:an),qy (gN v a).entities n x=qy v.entities n x
 | 0,_=>rfl
 | n+1,x=>by
  simp only[qy,Hg ha];split
  ·exact Cn ha n _
  ·rfl
theorem ug{v:ar}{a:Int}(ha:bB a v.entities.length=true)(x:an):cO (gN v a) x=cO v x:=by
 unfold cO;rw[rK,Cn ha]
theorem yh{v:ar}{a:Int}(ha:bB a v.entities.length=true)(peer:Int)(x:an):bq (gN v a) peer x=(gN (bq v peer x).1 a,(bq v peer x).2):=by
 have hk:=pQz aA.kind (fun _=>rfl) ha (cO v x).n;have hp:=pQz aA.peer (fun _=>rfl) ha (cO v x).n;have ho:=pQz aA.pos (fun _=>rfl) ha (cO v x).n;have hl:(gN v a).aq=v.aq:=rfl;unfold aD at hk hp ho;unfold bq;rw[ug ha,rK,hk,hp,ho,hl];by_cases c1:(decide ((cO v x).kind=0) && tZ (cO v x).n 0 999999)=true
 ·rw[if_pos c1,if_pos c1]
 rw[if_neg c1,if_neg c1];by_cases c2:(decide ((cO v x).kind=1) && (bB (cO v x).n v.entities.length && rO v.aq peer))=true
 ·rw[if_pos c2,if_pos c2];by_cases c3:(decide ((v.entities.getD (cO v x).n.toNat default).kind=3) && decide ((v.entities.getD (cO v x).n.toNat default).peer=peer))=true
  ·rw[if_pos c3,if_pos c3]
  ·rw[if_neg c3,if_neg c3];rfl
 ·rw[if_neg c2,if_neg c2]
theorem xm(peer:Int){a:Int}:∀(l:List an) {v:ar},bB a v.entities.length=true→aQ (gN v a) peer l=(gN (aQ v peer l).1 a,(aQ v peer l).2)
 | [],_,_=>rfl
 | x::l,v,ha=>by
  have he:bB a (bq v peer x).1.entities.length=true:=by rw[(oB v peer x).1.fH];exact ha
  simp only[aQ,yh ha,xm peer l he]
theorem Bf(v:ar)(a p:Int)(m:ah):e8 (gN v a) p m=gN (e8 v p m) a:=by
 unfold e8;have hl:(gN v a).aq=v.aq:=rfl;rw[hl];split<;>rfl
theorem Ji(v:ar){k j:Nat}(h:k≠j)(e f:aA):cT (cT v k e) j f=cT (cT v j f) k e:=by
 unfold cT;simp only[List.set_comm _ _ h]
theorem zg(v:ar)(k:Nat)(e f:aA):cT (cT v k e) k f=cT v k f:=by
 unfold cT;simp only[List.set_set]
theorem vM{v:ar}{a n:Int}(ha:bB a v.entities.length=true)(hn:bB n v.entities.length=true)(h:n≠a)(e:aA):cT (gN v a) n.toNat e=gN (cT v n.toNat e) a:=by
 have h2:a.toNat≠n.toNat:=fun g=>h (uY hn ha g.symm);unfold gN;rw[Ji v h2,jf hn ha,if_neg fun g=>h g.symm]
theorem Bd{f:aA→aA}(hf:∀e,f (cP e)=cP (f e)){v:ar}{a n:Int}(ha:bB a v.entities.length=true)(hn:bB n v.entities.length=true):cT (gN v a) n.toNat (f (aD (gN v a) n))=gN (cT v n.toNat (f (aD v n))) a:=by
 by_cases h:n=a
 ·subst h;rw[rE ha,if_pos rfl];unfold gN;rw[zg,zg,jf ha ha,if_pos rfl,hf]
 ·have h2:¬n.toNat=a.toNat:=fun g=>h (uY hn ha g);rw[rE ha,if_neg h2];exact vM ha hn h _
theorem uS{v:ar}{a:Int}(ha:bB a v.entities.length=true)(s:aK)(peer:Int):dT (gN v a) s peer=dT v s peer:=by
 have hl:(gN v a).aq=v.aq:=rfl;unfold dT;rw[hl,rK,pQz aA.kind (fun _=>rfl) ha,pQz aA.state (fun _=>rfl) ha]
theorem GB{v:ar}{a:Int}(ha:bB a v.entities.length=true){s:aK}(hs:bB s.result v.entities.length=true)(h:s.result≠a)(peer pos ans:Int):fW (gN v a) s peer pos ans=gN (fW v s peer pos ans) a:=by
 have hw:aQ (gN v a) peer s.args=(gN (aQ v peer s.args).1 a,(aQ v peer s.args).2):=xm peer _ ha;have e1:aD (gN v a) s.result=aD v s.result:=by
  rw[rE ha,if_neg fun g=>h (uY hs ha g)]
 have e2:cm (gN v a) s peer=gN (cm v s peer) a:=by unfold cm;rw[hw]
 have e3:oP (gN (cm v s peer) a) peer s.result=gN (oP (cm v s peer) peer s.result) a:=rfl;have e4:sW (gN (cm v s peer) a) peer s.result=sW (cm v s peer) peer s.result:=rfl;have ln:(oP (cm v s peer) peer s.result).entities.length=v.entities.length:=by rw[(uo _ _ _).1.fH,(uf v s peer).1.fH]
 unfold fW hZ;rw[e2,e3,e4,e1,hw,vM (by rw[ln];exact ha) (by rw[ln];exact hs) h,Bf]
def Gq(e:aA):Prop:=e.kind=2∧e.state=3
theorem Gq.aw{e:aA}(h:Gq e):IB e:=⟨h.1,.inl h.2⟩
theorem KE.Gq{e e':aA}(k:KE e e')(h:Gq e):Gq e':=⟨k.kind.trans h.1,(k.away h.aw).trans h.2⟩
def DB(D:ar→aK→ar):Prop:=∀(v:ar) (s:aK) (q:List aK) (a:Int),RQ (s::q) v→bB a v.entities.length=true→Gq (aD v a)→D (gN v a) s=gN (D v s) a
theorem DB.fold{D:ar→aK→ar}(h:DB D)(hk:DK D)(hr:DR D)(ok:My D){a:Int}:∀(l:List aK) {q:List aK} {v:ar},RQ (l++q) v→bB a v.entities.length=true→Gq (aD v a)→l.foldl D (gN v a)=gN (l.foldl D v) a
 | [],_,_,_,_,_=>rfl
 | s::l,q,v,r,ha,h3=>by
  simp only[Aaq];rw[h v s (l++q) a r ha h3];exact DB.fold h hk hr ok l (hr v s (l++q) r) (by rw[ok.len];exact ha) ((hk v s (l++q) a r ha).Gq h3)
theorem xN{v:ar}{s:aK}{q:List aK}{a:Int}(r:RQ (s::q) v)(h3:Gq (aD v a)):s.result≠a:=fun g=>r.head.2.1 (by rw[g];exact h3.aw)
theorem DB.dp{D:ar→aK→ar}(h:DB D)(hk:DK D)(hr:DR D)(ok:My D){v:ar}{s:aK}{q:List aK}(r:RQ (s::q) v)(peer pos ans:Int){a:Int}(ha:bB a v.entities.length=true)(h3:Gq (aD v a)):dp D (gN v a) s peer pos ans=gN (dp D v s peer pos ans) a:=by
 have hs:=r.head.1;have hne:=xN r h3;unfold Go.Proofs.YtolciaflplefcaaGreat.dp;rw[uS ha];split
 ·rw[pQz aA.queue (fun _=>rfl) ha,GB ha hs hne];refine h.fold hk hr ok _ (r.call peer pos ans) (by rw[Af];exact ha) ?_;rw[rC (ru v s peer pos ans),jf hs ha,if_neg fun g=>hne g.symm];exact h3
 ·rfl
theorem GA{v:ar}{a:Int}(ha:bB a v.entities.length=true)(x:an):lM (gN v a) x=lM v x:=by
 have:=pQz rQ (fun _=>rfl) ha x.n;unfold aD at this;unfold lM;rw[rK,this]
theorem Ep{v:ar}{a:Int}(ha:bB a v.entities.length=true)(y:an)(k:cj):bF y (gN v a) k=gN (bF y v k) a:=by
 unfold bF;rw[ug ha,GA ha,yh ha];split
 ·rename_i hp;have hl:bB (cO v y).n v.entities.length=true:=by
   simp only[lM,Aac]at hp;exact hp.2.1
  exact Bd (f:=fun e=>kV e k) (fun _=>rfl) ha hl
 ·exact Bf _ _ _ _
theorem xq(y:an){a:Int}:∀(l:List cj) {v:ar},bB a v.entities.length=true→l.foldl (bF y) (gN v a)=gN (l.foldl (bF y) v) a
 | [],_,_=>rfl
 | k::l,v,ha=>by
  simp only[Aaq];rw[Ep ha];exact xq y l (by rw[(zk y v k).1];exact ha)
theorem DB.dD{D:ar→aK→ar}(h:DB D)(hk:DK D)(hr:DR D)(ok:My D){v:ar}{q:List aK}(r:RQ q v){p:Int}(x:an){a:Int}(ha:bB a v.entities.length=true)(h3:Gq (aD v a))(hne:p≠a):dD D (gN v a) p x=gN (dD D v p x) a:=by
 have o1:pd (gN v a) p=pd v p:=by
  unfold pd;rw[rK,pQz rQ (fun _=>rfl) ha]
 have y1:vC (gN v a) p x=vC v p x:=by unfold vC;rw[ug ha,rK]
 unfold Go.Proofs.YtolciaflplefcaaGreat.dD;rw[o1,y1];split
 ·rename_i ho;have kl:=(zS ho x).1;simp only[pd,Aac]at ho;have e1:aD (gN v a) p=aD v p:=by rw[rE ha,if_neg fun g=>hne (uY ho.1 ha g)]
  have k1:ky (gN v a) p x=gN (ky v p x) a:=by
   unfold ky;rw[y1,e1,vM ha ho.1 hne]
  rw[k1,e1];have a1:bB a (ky v p x).entities.length=true:=by rw[kl];exact ha
  have a3:Gq (aD (ky v p x) a):=by
   unfold ky;rw[jf ho.1 ha,if_neg fun g=>hne g.symm];exact h3
  rw[h.fold hk hr ok _ (r.kept ho.1 x) a1 a3];exact xq _ _ (by rw[(nj ok _ _).1];exact a1)
 ·rfl
theorem BI:∀n,DB (aT n)
 | 0=>fun v s q a r ha h3=>rfl
 | n+1=>fun v s q a r ha h3=>by
  have h:=BI n;have hk:=vF n;have hr:=mq n;have ok:=gr n;have fail:Go.Proofs.YtolciaflplefcaaGreat.dD (aT n) (gN v a) s.result bd=gN (Go.Proofs.YtolciaflplefcaaGreat.dD (aT n) v s.result bd) a:=h.dD hk hr ok r.vD bd ha h3 (xN r h3);have t1:pC (gN v a) s=pC v s:=ug ha _;have t2:nC (gN v a) s=nC v s:=by unfold nC;rw[t1]
  have f1:=pQz aA.kind (fun _=>rfl) ha (pC v s).n;have f2:=pQz aA.state (fun _=>rfl) ha (pC v s).n;have f3:=pQz aA.peer (fun _=>rfl) ha (pC v s).n;have f4:=pQz aA.pos (fun _=>rfl) ha (pC v s).n;have f5:=pQz aA.queue (fun _=>rfl) ha (pC v s).n;have l1:(gN v a).loop=v.loop:=rfl;unfold aT;rw[t1,t2,rK,f1,f2,f3,f4,f5,l1];split
  rotate_left
  ·exact fail
  rename_i ht;simp only[Aac]at ht;split
  ·split
   ·rfl
   ·exact fail
  split
  ·rw[uS ha];split
   ·exact h.dp hk hr ok r.nC _ _ _ ha h3
   ·exact fail
  split
  ·split
   ·rw[uS ha];split
    ·have hl:=(wK ok v (nC v s) (aD v (pC v s).n).peer 0 (aD v (pC v s).n).pos).1;rw[h.dp hk hr ok r.nC _ _ _ ha h3];exact Bd (f:=cP) (fun _=>rfl) (by rw[hl];exact ha) (by rw[hl];exact ht.2)
    ·exact fail
   split
   ·exact fail
   split
   ·exact Bd (f:=fun e=>sh e (nC v s)) (fun _=>rfl) ha ht.2
   ·exact fail
  ·exact fail
theorem I7{n:Nat}{v:ar}{s:aK}{q:List aK}(r:RQ (s::q) v){a:Int}(ha:bB a v.entities.length=true)(h3:Gq (aD v a)){peer pos ans:Int}(hc:dT v s peer=true):
 (aD v s.result).queue.foldl (aT n) (gN (fW v s peer pos ans) a)=cT (dp (aT n) v s peer pos ans) a.toNat (cP (aD (dp (aT n) v s peer pos ans) a)):=by
 have hne:=xN r h3;have hs:=r.head.1;rw[(BI n).fold (vF n) (mq n) (gr n) _ (r.call peer pos ans) (by rw[Af];exact ha) (by
  rw[rC (ru v s peer pos ans),jf hs ha,if_neg fun g=>hne g.symm];exact h3)]
 unfold dp;rw[if_pos hc];rfl
def fJ(v:ar)(peer:Int):aF:=v.aq.getD (sg v peer) default
def gm(v:ar)(peer:Int)(w:aJ):ar×an:=
 if k9 w=false then (v,bd)
 else if w.kind=0 then (v,⟨0,w.n⟩)
 else if w.kind=3 then (v,bd)
 else if rO v.aq peer=false then (v,bd)
 else if w.kind=2 then (if gO (fJ v peer).exports w.n<0 then (v,bd)else (v,cO v ⟨1,gO (fJ v peer).exports w.n⟩))
 else if iq (jA peer w.n) v.entities<0 then (if k8 v<0 then (dv v (lC peer w.n),bd)else (dv v (lC peer w.n),⟨1,k8 v⟩))
 else (cT v (iq (jA peer w.n) v.entities).toNat (cP (aD v (iq (jA peer w.n) v.entities))),⟨1,iq (jA peer w.n) v.entities⟩)
theorem ib{v:ar}{peer:Int}{k:Nat}(hk:k<v.aq.length)(e:iq (fun l:aF=>l.peer == peer) v.aq=(k:Int)):fJ v peer=v.aq[k]:=by
 unfold fJ sg;rw[e,Int.toNat_natCast,Aad,Aai hk];rfl
theorem nG(v:ar)(peer:Int)(w:aJ):Fr v (gm v peer w).1:=by
 unfold gm;split
 ·exact .refl v
 split
 ·exact .refl v
 split
 ·exact .refl v
 split
 ·exact .refl v
 split
 ·split<;>exact .refl v
 split
 ·split<;>exact .add v (x:=lC peer w.n) (AaC _) rfl rfl rfl
 ·rename_i h;exact .count (AU h)
theorem CM{n:Int}(h0:0≤n)(h1:n≤999999):fg .rem .num (.int .i64 n) (.int .i64 1000000)=some (.int .i64 n)∧fg .rem .num (.int .i64 (n+1000000)) (.int .i64 1000000)=some (.int .i64 n)∧IntKind.i64.wrap (n+1000000)=n+1000000:=by
 have e1:n.tmod 1000000=n:=Int.tmod_eq_of_lt h0 (by omega);have e2:(n+1000000).tmod 1000000=n:=by rw[Int.tmod_eq_emod_of_nonneg (by omega)];omega
 refine⟨?_,?_,?_⟩
 ·simp only[fg,lF,if_true];rw[if_neg (by omega),e1]
 ·simp only[fg,lF,if_true];rw[if_neg (by omega),e2]
 ·have:n+1000000=(((n+1000000).toNat:Nat):Int):=by omega
  rw[this];exact jO (by omega) (by omega)
theorem UJ(n:Int)(h0:0≤n)(h1:n≤999999)(h:AH):T pQ Γ Fn.kb6 [.int .i64 n,.int .i64 1000000] h fun v h'=>v=.int .i64 n∧h'=h:=by
 obtain⟨e1,e2,w⟩:=CM h0 h1;refine Sy (aC aG mixed [] _ _ _ ?_);unfold LS;simp only[au,Aaa,Aab,FN];refine al.val (by simp only[EO]) (gQ _ _ _ _) ?_;simp only[au,Aaa,Aab,FN,show tZ 1000000 1 1000000000000=true from rfl,e1,w,e2];first|exact⟨rfl,rfl⟩|exact rfl|trivial
theorem Wj(n:Int)(h0:0≤n)(h1:n≤999999)(h:AH):T pQ Γ Fn.kbX [.int .i64 n] h fun v h'=>v=.agg ((an.mk 0 n).c false)∧h'=h:=by
 refine Py (aC aG mixed [] _ _ _ ?_);unfold LO;simp only[au,Aaa,Aab,Gk];refine al.val (by simp only[EO]) (UJ n h0 h1 _) ?_;simp only[au,Aaa,Aab,Gk,bC,an.c];first|exact⟨rfl,rfl⟩|exact rfl|trivial
set_option maxHeartbeats 8000000 in
set_option maxRecDepth 100000 in
theorem Rn(v:ar)(hvi:VI v)(hw:wV v≤400000)(peer:Int)(β:Bool)(w:aJ)(H:AH){b:Nat}{f:List Nat}(a:jr H b v f):
 T pQ Γ Fn.kcz [.gp b 0 0,.int .i64 peer,.agg (w.c β)] H fun r H'=>r=.agg (an.c false (gm v peer w).2)∧e9 H b (fun c=>c∈f) H' (gm v peer w).1:=by
 obtain⟨R,hR⟩:∃R,R=gm v peer w:=⟨_,rfl⟩
 rw[←hR];unfold gm at hR;obtain⟨wE,w2,wL,w4,fE,f2,fL,f4,rfl,o⟩:=a;have hE:v.entities.length≤1048576:=by have:=hvi.fH;omega
 have hL:v.aq.length≤1048576:=by have:=hvi.aq;omega
 have hb:=o.hb;have blt:=o.blt;have cb:=VO.Cp hb;obtain⟨a1,a2,a3,a4⟩:=o.oE.cell;obtain⟨b1,b2,b3,b4⟩:=o.o2.cell;obtain⟨c1,c2,c3,c4⟩:=o.oL.cell;obtain⟨d1,d2,d3,d4⟩:=o.o4.cell;have same:e9 H b (fun c=>c∈dh fE f2 fL f4) H v:=e9.refl o.at fun c hc=>hc;have fin:∀x:an,R=(v,x)→cY (AV.agg [.int .i64 x.kind,.int .i64 x.n])=true∧(AV.agg [.int .i64 x.kind,.int .i64 x.n])=.agg [.int .i64 R.2.kind,.int .i64 R.2.n]∧e9 H b (fun c=>c∈dh fE f2 fL f4) H R.1:=fun x e=>by rw[e];exact⟨rfl,rfl,same⟩
 refine VF (aC aG mixed [] _ _ _ ?_);unfold Sf;simp only[au,Aaa,Aab,kz,eG,dW,et,eK,cW,cU,cX,c6,cK,aJ.c,an.c,ae,cb,a1,a2,a3,b1,b2,b3,c1,c2,c3,d1,d2,d3];refine al.val (by simp only[EO]) (Ii false w _) ?_;cases hw1:k9 w
 ·simp only[au,Aaa,Aab,kz,eG,dW,et,eK,cW,cU,cX,c6,cK,aJ.c,an.c,ae,cb,a1,a2,a3,b1,b2,b3,c1,c2,c3,d1,d2,d3];refine al.val (by simp only[EO]) (xP _) ?_;simp only[au,Aaa,Aab,kz,eG,dW,et,eK,cW,cU,cX,c6,cK,aJ.c,an.c,ae,cb,a1,a2,a3,b1,b2,b3,c1,c2,c3,d1,d2,d3,bd];exact fin ⟨2,0⟩ (by rw[hR,hw1];rfl)
 rw[hw1,if_neg (by simp)]at hR;by_cases k0:w.kind=0
 ·simp only[au,Aaa,Aab,kz,eG,dW,et,eK,cW,cU,cX,c6,cK,aJ.c,an.c,ae,cb,a1,a2,a3,b1,b2,b3,c1,c2,c3,d1,d2,d3,aR k0];have hn:0≤w.n∧w.n≤999999:=by
   unfold k9 at hw1;rw[if_pos k0]at hw1;simpa[tZ]using hw1
  refine al.val (by simp only[EO]) (Wj w.n hn.1 hn.2 _) ?_;simp only[au,Aaa,Aab,kz,eG,dW,et,eK,cW,cU,cX,c6,cK,aJ.c,an.c,ae,cb,a1,a2,a3,b1,b2,b3,c1,c2,c3,d1,d2,d3];exact fin ⟨0,w.n⟩ (by rw[hR,if_pos k0])
 rw[if_neg k0]at hR;by_cases k3:w.kind=3
 ·simp only[au,Aaa,Aab,kz,eG,dW,et,eK,cW,cU,cX,c6,cK,aJ.c,an.c,ae,cb,a1,a2,a3,b1,b2,b3,c1,c2,c3,d1,d2,d3,aW k0,aR k3];refine al.val (by simp only[EO]) (xP _) ?_;simp only[au,Aaa,Aab,kz,eG,dW,et,eK,cW,cU,cX,c6,cK,aJ.c,an.c,ae,cb,a1,a2,a3,b1,b2,b3,c1,c2,c3,d1,d2,d3,bd];exact fin ⟨2,0⟩ (by rw[hR,if_pos k3];rfl)
 rw[if_neg k3]at hR;simp only[au,Aaa,Aab,kz,eG,dW,et,eK,cW,cU,cX,c6,cK,aJ.c,an.c,ae,cb,a1,a2,a3,b1,b2,b3,c1,c2,c3,d1,d2,d3,aW k0,aW k3];refine al.fk (by simp only[EO,a3,b3,c3,d3]) (aI (aM.fk (ar.bO true v) o.own) (aI (.same _) aZ)) (fun h=>pg true v hL peer h) (.bool _) ?_;cases hu:rO v.aq peer
 ·simp only[au,Aaa,Aab,kz,eG,dW,et,eK,cW,cU,cX,c6,cK,aJ.c,an.c,ae,cb,a1,a2,a3,b1,b2,b3,c1,c2,c3,d1,d2,d3];refine al.val (by simp only[EO]) (xP _) ?_;simp only[au,Aaa,Aab,kz,eG,dW,et,eK,cW,cU,cX,c6,cK,aJ.c,an.c,ae,cb,a1,a2,a3,b1,b2,b3,c1,c2,c3,d1,d2,d3,bd];exact fin ⟨2,0⟩ (by rw[hR,if_pos hu];rfl)
 rw[hu,if_neg (by simp)]at hR;obtain⟨k,hk,ek,ef⟩:=pM hu;rw[ib hk ek]at hR;by_cases k2:w.kind=2
 ·simp only[au,Aaa,Aab,kz,eG,dW,et,eK,cW,cU,cX,c6,cK,aJ.c,an.c,ae,cb,a1,a2,a3,b1,b2,b3,c1,c2,c3,d1,d2,d3,aR k2];refine al.fk (by simp only[EO,a3,b3,c3,d3]) (aI (aM.fk (ar.bO true v) o.own) (aI (.same _) aZ)) (fun h=>yF true v hL peer h) (.int _ _) ?_;rw[ek];refine⟨lG fun r hr=>by
   simp only[Aam,Aak,or_false]at hr;rcases hr with rfl|rfl<;>first|exact .inl ⟨_,_,rfl⟩|exact .inr ⟨_,_,_,rfl,rfl⟩,?_⟩
  obtain⟨bL,gL,n,row,f0,iL,rL,oR,_,_,_⟩:=o.vq hk;have hlx:v.aq[k].exports.length≤1048576:=by have:=KZ (Aae hk);unfold xK at this;omega
  obtain⟨wX,wQ,wA,fX,fQ,fA,rfl,rfl,oX,oQ,oA⟩:=ck oR;obtain⟨x1,x2,x3,x4⟩:=oX.cell;obtain⟨y1,y2,y3,y4⟩:=oQ.cell;obtain⟨z1,z2,z3,z4⟩:=oA.cell;simp only[au,Aaa,Aab,kz,eG,dW,et,eK,cW,cU,cX,c6,cK,aJ.c,an.c,ae,cb,a1,a2,a3,b1,b2,b3,c1,c2,c3,d1,d2,d3,iL,rL,x1,x2,x3,y1,y2,y3,z1,z2,z3];refine al.fk (by simp only[EO,x3,y3,z3]) (aI (aM.fk (aF.bO true v.aq[k]) oR) (aI (.same _) aZ)) (fun h=>J3 true v.aq[k] hlx w.n h) (.int _ _) ?_;by_cases kn:gO v.aq[k].exports w.n<0
  ·simp only[au,Aaa,Aab,kz,eG,dW,et,eK,cW,cU,cX,c6,cK,aJ.c,an.c,ae,cb,a1,a2,a3,b1,b2,b3,c1,c2,c3,d1,d2,d3,aR kn];refine al.val (by simp only[EO]) (xP _) ?_;simp only[au,Aaa,Aab,kz,eG,dW,et,eK,cW,cU,cX,c6,cK,aJ.c,an.c,ae,cb,a1,a2,a3,b1,b2,b3,c1,c2,c3,d1,d2,d3,bd];exact fin ⟨2,0⟩ (by rw[hR,if_pos k2,if_pos kn];rfl)
  simp only[au,Aaa,Aab,kz,eG,dW,et,eK,cW,cU,cX,c6,cK,aJ.c,an.c,ae,cb,a1,a2,a3,b1,b2,b3,c1,c2,c3,d1,d2,d3,aW kn];refine al.val (by simp only[EO]) (Az _ _) ?_;refine⟨lG fun r hr=>by
   simp only[Aam,Aak,or_false]at hr;subst hr;first|exact .inl ⟨_,_,rfl⟩|exact .inr ⟨_,_,_,rfl,rfl⟩,?_⟩
  simp only[au,Aaa,Aab,kz,eG,dW,et,eK,cW,cU,cX,c6,cK,aJ.c,an.c,ae,cb,a1,a2,a3,b1,b2,b3,c1,c2,c3,d1,d2,d3];refine al.fk (by simp only[EO,a3,b3,c3,d3]) (aI (aM.fk (ar.bO true v) o.own) (aI (.same _) aZ)) (fun h=>ux true v hE ⟨1,gO v.aq[k].exports w.n⟩ h) (.agg _ (by intro z hz;simp only[an.c,Aam,Aak,or_false]at hz;rcases hz with rfl|rfl<;>exact .int _ _)) ?_;simp only[au,Aaa,Aab,kz,eG,dW,et,eK,cW,cU,cX,c6,cK,aJ.c,an.c,ae,cb,a1,a2,a3,b1,b2,b3,c1,c2,c3,d1,d2,d3];exact fin (cO v ⟨1,gO v.aq[k].exports w.n⟩) (by rw[hR,if_pos k2,if_neg kn])
 rw[if_neg k2]at hR;simp only[au,Aaa,Aab,kz,eG,dW,et,eK,cW,cU,cX,c6,cK,aJ.c,an.c,ae,cb,a1,a2,a3,b1,b2,b3,c1,c2,c3,d1,d2,d3,aW k2];refine al.fk (by simp only[EO,a3,b3,c3,d3]) (aI (aM.fk (ar.bO true v) o.own) (aI (.same _) (aI (.same _) aZ))) (fun h=>YP true v hE peer w.n h) (.int _ _) ?_;by_cases kp:iq (jA peer w.n) v.entities<0;rotate_left
 ·have hE1:=AU kp;obtain⟨j,hj,ej,ej2,ej3⟩:=cL hE1;simp only[au,Aaa,Aab,kz,eG,dW,et,eK,cW,cU,cX,c6,cK,aJ.c,an.c,ae,cb,a1,a2,a3,b1,b2,b3,c1,c2,c3,d1,d2,d3,show decide (iq (jA peer w.n) v.entities≥0)=true from aR (by omega)];obtain⟨bS,gS,nS,row2,fT,iS,rS,lS,oS2,nfT,sT,bmS,bnS,wrS⟩:=o.jY hj;obtain⟨e1,he1⟩:∃e1,e1=aD v (iq (jA peer w.n) v.entities):=⟨_,rfl⟩
  rw[←ej3,←he1]at oS2;obtain⟨wS2,wQ2,wA2,fS2,fQ2,fA2,rfl,rfl,oSS,oQQ,oAA⟩:=c5 oS2;obtain⟨rd2,H2,f2',s2,l2'',r2,o2,m2⟩:=wrS H 10 [.int .i64 (IntKind.i64.wrap (e1.count+1))] (cP e1) (fS2++(fQ2++fA2)) [] (Aag _) (fun c hc=>by cases hc) (fun _ _ _ _=>rfl) (by simp) rfl
   (by
    have:=jo (e:=cP e1) oSS oQQ oAA;exact this) nfT (fun c hc=>.inl hc)
  have rd10:∀(e:List AV) (L:List (List AV)),(St.mk e L H).cells (.gp bS gS (nS+10)) 1=some [.int .i64 e1.count]:=fun e L=>(rd2 e L 10 1).resolve_right (by omega);have iS':fh 12 wE (iq (jA peer w.n) v.entities)=some (.gp bS gS nS):=by rw[ej];exact iS
  simp only[au,Aaa,Aab,kz,eG,dW,et,eK,cW,cU,cX,c6,A3,aJ.c,an.c,ae,cb,a1,a2,a3,b1,b2,b3,c1,c2,c3,d1,d2,d3,iS',rd10,s2];refine al.val (by simp only[EO]) (Az _ _) ?_;simp only[au,Aaa,Aab,kz,eG,dW,et,eK,cW,cU,cX,c6,A3,aJ.c,an.c,ae,cb,a1,a2,a3,b1,b2,b3,c1,c2,c3,d1,d2,d3];have ev:({ v with entities:=v.entities.set j (cP e1) }:ar)=cT v (iq (jA peer w.n) v.entities).toNat (cP e1):=by rw[cT,ej2]
  rw[ev]at o2;rw[hR,if_neg kp,←he1];refine⟨rfl,rfl,f2',o2,by omega,fun c hc=>by
   rcases m2 c hc with⟨g,_⟩|g
   ·exact .inl g
   ·exact .inl (aO.2 (.inl (sT c g))),fun c h1 h2 h3=>r2 c (fun e=>h1 (aO.2 (.inl (e▸bmS))))⟩
 simp only[au,Aaa,Aab,kz,eG,dW,et,eK,cW,cU,cX,c6,cK,aJ.c,an.c,ae,cb,a1,a2,a3,b1,b2,b3,c1,c2,c3,d1,d2,d3,show decide (iq (jA peer w.n) v.entities≥0)=false from aW (by omega)];refine al.val (by simp only[EO]) (Ks _ _ _) ?_;simp only[au,Aaa,Aab,kz,eG,dW,et,eK,cW,cU,cX,c6,cK,aJ.c,an.c,ae,cb,a1,a2,a3,b1,b2,b3,c1,c2,c3,d1,d2,d3];refine al.ref (by simp only[EO,pG]) (Lc v (lC peer w.n) H o.at (wu H peer w.n) List.nodup_nil (fun c hc=>by cases hc)) ?_;rintro _ H1 ⟨rfl,u⟩;replace u:e9 H b (fun c=>c∈dh fE f2 fL f4∨c∈[]) H1 _:=u;rw[if_pos kp]at hR;have fin2:∀x:an,R=(dv v (lC peer w.n),x)→cY (AV.agg [.int .i64 x.kind,.int .i64 x.n])=true∧(AV.agg [.int .i64 x.kind,.int .i64 x.n])=.agg [.int .i64 R.2.kind,.int .i64 R.2.n]∧e9 H b (fun c=>c∈dh fE f2 fL f4) H1 R.1:=fun x e=>by rw[e];exact⟨rfl,rfl,u.mono fun c hc=>hc.elim id fun h=>by cases h⟩
 by_cases ka:k8 v<0
 ·simp only[au,Aaa,Aab,kz,eG,dW,et,eK,cW,cU,cX,c6,cK,aJ.c,an.c,ae,cb,a1,a2,a3,b1,b2,b3,c1,c2,c3,d1,d2,d3,aR ka];refine al.val (by simp only[EO]) (xP _) ?_;simp only[au,Aaa,Aab,kz,eG,dW,et,eK,cW,cU,cX,c6,cK,aJ.c,an.c,ae,cb,a1,a2,a3,b1,b2,b3,c1,c2,c3,d1,d2,d3,bd];exact fin2 ⟨2,0⟩ (by rw[hR,if_pos ka];rfl)
 simp only[au,Aaa,Aab,kz,eG,dW,et,eK,cW,cU,cX,c6,cK,aJ.c,an.c,ae,cb,a1,a2,a3,b1,b2,b3,c1,c2,c3,d1,d2,d3,aW ka];refine al.val (by simp only[EO]) (Az _ _) ?_;simp only[au,Aaa,Aab,kz,eG,dW,et,eK,cW,cU,cX,c6,cK,aJ.c,an.c,ae,cb,a1,a2,a3,b1,b2,b3,c1,c2,c3,d1,d2,d3];exact fin2 ⟨1,k8 v⟩ (by rw[hR,if_neg ka])
end Go.Proofs.YtolciaflplefcaaGreat
