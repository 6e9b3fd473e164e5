import Derived.Test.YtolciaflplefcaaGreatR6G12
import Derived.Test.YtolciaflplefcaaGreatAmG9
import Derived.Test.YtolciaflplefcaaGreatR6G14
import Derived.Test.YtolciaflplefcaaGreatAmG10
import Derived.Test.YtolciaflplefcaaGreatCodeFnReturns
set_option linter.unusedVariables false
set_option linter.unusedSimpArgs false
open Nat renaming reduceAdd→Aaa,reduceBEq→Aab,le_refl→Aai,zero_le→Aay,le_succ→AaA
open List renaming nodup_append→Aac,mem_append→Aad,getD_eq_getElem?_getD→Aae,take_succ_eq_append_getElem→Aaf,length_cons→Aag,mem_append_right→Aaj,map_cons→Aak,sum_cons→Aal,length_map→Aam,map_append→Aan,length_append→Aao,mem_singleton→Aap,mem_or_eq_of_mem_set→Aaq,getElem_mem→Aar,length_take→Aas,take_length→Aat,getElem_cons_succ→Aau,length_nil→Aav,mem_append_left→Aaw,mem_of_getElem?→Aax,getElem_of_mem→Aaz,append_nil→AaB,foldl_cons→AaC,all_cons→AaD,all_nil→AaE
open Bool renaming and_eq_true→Aah
namespace Go.Proofs.YtolciaflplefcaaGreat
open Go.AM
variable {Γ:bG}
set_option maxHeartbeats 4000000 in
set_option maxRecDepth 100000 in
theorem Aq(β:Bool)(v:ar)(hv:v.ok 1048576)(h:AH):T Tryz.prog Γ Fn.kcw [.agg (v.c β)] h (aX h [.a v.cd]):=by
 have L0:=eY β 12 false v.entities (aA.c β);have L1:=eY β 7 false v.aq (aF.c β);have L2:=eY β 13 false v.out (aY.c β);obtain⟨hv1,hv2,hv3,hv4,hv5,hv6,hv7,hv8⟩:=hv;refine T.jJ ?_;refine UG (aC aG mixed [] _ _ _ ?_);unfold P1;simp only[au,Aaa,Aab,qw,jC,jU,jI,jQ,ig,hO,hH,hJ,cK,ER,ar.c];refine⟨?_,?_⟩;refine al.ref (by simp only[EO]) (Lf β v.loop hv3 hv4 _) ?_;rintro w1 H1 fr;replace fr:aX h _ _ _:=fr;obtain⟨f1,o1,n1,b1,e1⟩:=fr.c1;obtain⟨a1,a2,a3,a4⟩:=o1.cell;simp only[au,Aaa,Aab,qw,jC,jU,jI,jQ,ig,hO,hH,hJ,cK,ER,ar.c,a1,a2,a3,L0];refine⟨(by first|exact e1.mem _ _ _|exact gh (e1.mem _ _ _)),(by first|exact Mem.loc ⟨_,([]:List (List AV))++[_,_],H1⟩ _ [_]|exact gh (Mem.loc ⟨_,([]:List (List AV))++[_,_],H1⟩ _ [_])),?_⟩;rotate_left;refine⟨(by first|exact Mem.loc ⟨_,([]:List (List AV))++[_,_],h⟩ _ [_]|exact gh (Mem.loc ⟨_,([]:List (List AV))++[_,_],h⟩ _ [_])),?_⟩;refine al.ref (by simp only[EO]) (Lf β v.loop hv3 hv4 _) ?_;rintro w1 H1 fr;replace fr:aX h _ _ _:=fr;obtain⟨f1,o1,n1,b1,e1⟩:=fr.c1;obtain⟨a1,a2,a3,a4⟩:=o1.cell;simp only[au,Aaa,Aab,qw,jC,jU,jI,jQ,ig,hO,hH,hJ,cK,ER,ar.c,a1,a2,a3,L0];refine⟨(by first|exact e1.mem _ _ _|exact gh (e1.mem _ _ _)),?_⟩;rotate_left;all_goals (
  refine fD aG mixed [] (fun y:Nat×AV×AH×List Nat×List (List AV)=>y.1≤v.entities.length∧b9 y.2.2.1 y.2.1 (.sl 12 ((v.entities.take y.1).map aA.cd)) y.2.2.2.1∧y.2.2.2.1.Nodup∧(∀c∈y.2.2.2.1,H1.length≤c)∧cQ H1 y.2.2.1∧y.2.2.2.2[([]:List (List AV)).length]? = some (v.c β)∧(∃zzE,y.2.2.2.2[([]:List (List AV)).length+1]? = some zzE∧zzE.length=5)∧y.2.2.2.2[([]:List (List AV)).length+2]? = some [AV.int .i64 v.id,y.2.1,w1,.nils,.nils]) (fun y=>v.entities.length-y.1)
   (fun y=>D4 (.lp ([]:List (List AV)).length 0) (.lp (([]:List (List AV)).length+1) 0) (.lp (([]:List (List AV)).length+2) 0) (.int .i64 y.1) y.2.2.2.2 y.2.2.1) (0,.nils,H1,[],_) ⟨by simp,.nil _,by simp,by simp,cQ.refl _,rfl,⟨_,rfl,rfl⟩,rfl⟩ ⟨by simp[D4,gW,gM],rfl,rfl⟩ ?_
  rintro⟨k,wE,HE,fpE,ME⟩ ⟨hk,hoE,ndE,hfpE,hxE,hM0E,⟨zzE,hM1E,hzzE⟩,hM2E⟩;simp only at hk hoE ndE hfpE hxE hM0E hM1E hM2E;obtain⟨k1E,k2E,k3E,k4E⟩:=hoE.cell;have r0E:∀(e:List AV) (h:AH) (off n:Nat),(St.mk e ME h).cells (.lp ([]:List (List AV)).length off) n=sub (v.c β) off n:=fun e h off n=>de hM0E;have r2E:∀(e:List AV) (h:AH) (off n:Nat),(St.mk e ME h).cells (.lp (([]:List (List AV)).length+2) off) n=sub [AV.int .i64 v.id,wE,w1,.nils,.nils] off n:=fun e h off n=>de hM2E;have s2E:∀(e:List AV) (h:AH) (a:AV),cn a=true→(St.mk e ME h).store (.lp (([]:List (List AV)).length+2) 1) [a]=some ⟨e,ME.set (([]:List (List AV)).length+2) (c8 [AV.int .i64 v.id,wE,w1,.nils,.nils] 1 [a]),h⟩:=fun e h a ha=>tR hM2E (by simp) ha;simp only[au,Aaa,Aab,qw,jC,jU,jI,jQ,ig,hO,hH,hJ,D4,r0E,ar.c,L0];refine bz (fun hlt=>?_) (fun hge=>?_)
  ·have hlt:k<v.entities.length:=by simpa using hlt
   have i0:=fI (β:=β) (sz:=12) (ex:=false) (ce:=aA.c β) hlt;have he:=hv2 _ (Aar hlt);generalize hxe:v.entities[k]=x at *;simp only[au,Aaa,Aab,qw,jC,jU,jI,jQ,ig,hO,hH,hJ,i0,aA.c,cK,r0E,ar.c,r2E,k1E,k2E,k3E];refine al.ref (by simp only[EO]) (QC β x he _) ?_;rintro _ Hc fr;replace fr:aX HE _ _ _:=fr;obtain⟨aw,fw,rfl,ow,nw,bw,ew⟩:=fr.a1;have hdis:(fpE++fw).Nodup:=iG ndE nw (fun c hc=>hoE.lt c hc) bw;replace hoE:=hoE.ext ew;have hx1:=hxE.trans ew;have oo:=ow;simp only[aA.cd,jv,jy,j6,oF,nF]at oo;obtain⟨_,_,_,_,rfl,_,⟨rfl,rfl⟩,⟨_,_,_,_,rfl,_,⟨rfl,rfl⟩,⟨az2,_,_,_,rfl,_,uz2,⟨_,_,_,_,rfl,_,⟨rfl,rfl⟩,⟨_,_,_,_,rfl,_,⟨rfl,rfl⟩,⟨_,_,_,_,rfl,_,⟨rfl,rfl⟩,⟨az6,_,_,_,rfl,_,uz6,⟨az7,_,_,_,rfl,_,uz7,⟨_,_,_,_,rfl,_,⟨rfl,rfl⟩,⟨_,_,_,_,rfl,_,⟨rfl,rfl⟩,⟨_,_,_,_,rfl,_,⟨rfl,rfl⟩,⟨_,_,_,_,rfl,_,⟨rfl,rfl⟩,⟨rfl,_⟩⟩⟩⟩⟩⟩⟩⟩⟩⟩⟩⟩⟩:=oo;obtain⟨cz2a,cz2b,cz2c,cz2d⟩:=uz2.cell;obtain⟨cz6a,cz6b,cz6c,cz6d⟩:=uz6.cell;obtain⟨cz7a,cz7b,cz7c,cz7d⟩:=uz7.cell;obtain⟨v',H',fp',ea,o',nd',hf',hl',hm'⟩:=df (bytes:=144) hoE hdis (by omega) rfl ow (by simp only[Aam,Aas,aU];omega);obtain⟨j1,j2,j3,j4⟩:=o'.cell;simp only[au,Aaa,Aab,qw,jC,jU,jI,jQ,ig,hO,hH,hJ,EA,cK,ER,cz2a,cz2b,cz2c,cz6a,cz6b,cz6c,cz7a,cz7b,cz7c,r2E,k1E,k2E,k3E,ea,j1,j2,j3,s2E _ _ _ j2];have hl9:=hxE.len;have hl8:=hx1.len;have hb':∀c∈fp',H1.length≤c:=fun c hc=>by
    rcases hm' c hc with g|g|g
    ·exact hfpE c g
    ·have:=bw c g;omega
    ·omega
   refine⟨(by first|exact ew.mem _ _ _|exact gh (ew.mem _ _ _)),?_⟩;exact⟨(k+1,v',H',fp',_),⟨hlt,by simp only;rw[Aaf hlt,Aan,hxe];exact o',nd',hb',hx1.CZ hl' hf' hfpE,nZ hM0E (by simp),⟨zzE,nZ hM1E (by simp),hzzE⟩,mO hM2E⟩,by simp only;omega,⟨by rw[wN (by omega)];simp[D4,gW,gM],rfl,rfl⟩⟩
  have hge:k=v.entities.length:=by simp at hge;omega
  subst hge;rw[Aat]at hoE;simp only[au,Aaa,Aab,qw,jC,jU,jI,jQ,ig,hO,hH,hJ,ER,cK];refine fD aG mixed [] (fun y:Nat×AV×AH×List Nat×List (List AV)=>y.1≤v.aq.length∧b9 y.2.2.1 y.2.1 (.sl 7 ((v.aq.take y.1).map aF.cd)) y.2.2.2.1∧y.2.2.2.1.Nodup∧(∀c∈y.2.2.2.1,HE.length≤c)∧cQ HE y.2.2.1∧y.2.2.2.2[([]:List (List AV)).length]? = some (v.c β)∧(∃zzL,y.2.2.2.2[([]:List (List AV)).length+1]? = some zzL∧zzL.length=5)∧y.2.2.2.2[([]:List (List AV)).length+2]? = some [AV.int .i64 v.id,wE,w1,y.2.1,.nils]) (fun y=>v.aq.length-y.1)
   (fun y=>Ex (.lp ([]:List (List AV)).length 0) (.lp (([]:List (List AV)).length+1) 0) (.lp (([]:List (List AV)).length+2) 0) (.int .i64 y.1) y.2.2.2.2 y.2.2.1) (0,.nils,HE,[],_) ⟨by simp,.nil _,by simp,by simp,cQ.refl _,hM0E,⟨zzE,hM1E,hzzE⟩,hM2E⟩ ⟨by simp[Ex,gW,gM],rfl,rfl⟩ ?_
  rintro⟨k,wL,HL,fpL,ML⟩ ⟨hk,hoL,ndL,hfpL,hxL,hM0L,⟨zzL,hM1L,hzzL⟩,hM2L⟩;simp only at hk hoL ndL hfpL hxL hM0L hM1L hM2L;obtain⟨k1L,k2L,k3L,k4L⟩:=hoL.cell;have r0L:∀(e:List AV) (h:AH) (off n:Nat),(St.mk e ML h).cells (.lp ([]:List (List AV)).length off) n=sub (v.c β) off n:=fun e h off n=>de hM0L;have r2L:∀(e:List AV) (h:AH) (off n:Nat),(St.mk e ML h).cells (.lp (([]:List (List AV)).length+2) off) n=sub [AV.int .i64 v.id,wE,w1,wL,.nils] off n:=fun e h off n=>de hM2L;have s2L:∀(e:List AV) (h:AH) (a:AV),cn a=true→(St.mk e ML h).store (.lp (([]:List (List AV)).length+2) 3) [a]=some ⟨e,ML.set (([]:List (List AV)).length+2) (c8 [AV.int .i64 v.id,wE,w1,wL,.nils] 3 [a]),h⟩:=fun e h a ha=>tR hM2L (by simp) ha;simp only[au,Aaa,Aab,qw,jC,jU,jI,jQ,ig,hO,hH,hJ,Ex,r0L,ar.c,L1];refine bz (fun hlt=>?_) (fun hge=>?_)
  ·have hlt:k<v.aq.length:=by simpa using hlt
   have i0:=fI (β:=β) (sz:=7) (ex:=false) (ce:=aF.c β) hlt;have he:=hv6 _ (Aar hlt);generalize hxe:v.aq[k]=x at *;simp only[au,Aaa,Aab,qw,jC,jU,jI,jQ,ig,hO,hH,hJ,i0,aF.c,cK,r0L,ar.c,r2L,k1L,k2L,k3L];refine al.ref (by simp only[EO]) (It β x he _) ?_;rintro _ Hc fr;replace fr:aX HL _ _ _:=fr;obtain⟨aw,fw,rfl,ow,nw,bw,ew⟩:=fr.a1;have hdis:(fpL++fw).Nodup:=iG ndL nw (fun c hc=>hoL.lt c hc) bw;replace hoL:=hoL.ext ew;have hx1:=hxL.trans ew;have oo:=ow;simp only[aF.cd,jv,jy,j6,oF,nF]at oo;obtain⟨_,_,_,_,rfl,_,⟨rfl,rfl⟩,⟨_,_,_,_,rfl,_,⟨rfl,rfl⟩,⟨az2,_,_,_,rfl,_,uz2,⟨_,_,_,_,rfl,_,⟨rfl,rfl⟩,⟨az4,_,_,_,rfl,_,uz4,⟨_,_,_,_,rfl,_,⟨rfl,rfl⟩,⟨az6,_,_,_,rfl,_,uz6,⟨rfl,_⟩⟩⟩⟩⟩⟩⟩⟩:=oo;obtain⟨cz2a,cz2b,cz2c,cz2d⟩:=uz2.cell;obtain⟨cz4a,cz4b,cz4c,cz4d⟩:=uz4.cell;obtain⟨cz6a,cz6b,cz6c,cz6d⟩:=uz6.cell;obtain⟨v',H',fp',ea,o',nd',hf',hl',hm'⟩:=df (bytes:=104) hoL hdis (by omega) rfl ow (by simp only[Aam,Aas,aU];omega);obtain⟨j1,j2,j3,j4⟩:=o'.cell;simp only[au,Aaa,Aab,qw,jC,jU,jI,jQ,ig,hO,hH,hJ,EA,cK,ER,cz2a,cz2b,cz2c,cz4a,cz4b,cz4c,cz6a,cz6b,cz6c,r2L,k1L,k2L,k3L,ea,j1,j2,j3,s2L _ _ _ j2];have hl9:=hxL.len;have hl8:=hx1.len;have hb':∀c∈fp',HE.length≤c:=fun c hc=>by
    rcases hm' c hc with g|g|g
    ·exact hfpL c g
    ·have:=bw c g;omega
    ·omega
   refine⟨(by first|exact ew.mem _ _ _|exact gh (ew.mem _ _ _)),?_⟩;exact⟨(k+1,v',H',fp',_),⟨hlt,by simp only;rw[Aaf hlt,Aan,hxe];exact o',nd',hb',hx1.CZ hl' hf' hfpL,nZ hM0L (by simp),⟨zzL,nZ hM1L (by simp),hzzL⟩,mO hM2L⟩,by simp only;omega,⟨by rw[wN (by omega)];simp[Ex,gW,gM],rfl,rfl⟩⟩
  have hge:k=v.aq.length:=by simp at hge;omega
  subst hge;rw[Aat]at hoL;simp only[au,Aaa,Aab,qw,jC,jU,jI,jQ,ig,hO,hH,hJ,ER,cK];refine fD aG mixed [] (fun y:Nat×AV×AH×List Nat×List (List AV)=>y.1≤v.out.length∧b9 y.2.2.1 y.2.1 (.sl 13 ((v.out.take y.1).map aY.cd)) y.2.2.2.1∧y.2.2.2.1.Nodup∧(∀c∈y.2.2.2.1,HL.length≤c)∧cQ HL y.2.2.1∧y.2.2.2.2[([]:List (List AV)).length]? = some (v.c β)∧(∃zzO,y.2.2.2.2[([]:List (List AV)).length+1]? = some zzO∧zzO.length=5)∧y.2.2.2.2[([]:List (List AV)).length+2]? = some [AV.int .i64 v.id,wE,w1,wL,y.2.1]) (fun y=>v.out.length-y.1)
   (fun y=>Er (.lp ([]:List (List AV)).length 0) (.lp (([]:List (List AV)).length+1) 0) (.lp (([]:List (List AV)).length+2) 0) (.int .i64 y.1) y.2.2.2.2 y.2.2.1) (0,.nils,HL,[],_) ⟨by simp,.nil _,by simp,by simp,cQ.refl _,hM0L,⟨zzL,hM1L,hzzL⟩,hM2L⟩ ⟨by simp[Er,gW,gM],rfl,rfl⟩ ?_
  rintro⟨k,wO,HO,fpO,MO⟩ ⟨hk,hoO,ndO,hfpO,hxO,hM0O,⟨zzO,hM1O,hzzO⟩,hM2O⟩;simp only at hk hoO ndO hfpO hxO hM0O hM1O hM2O;obtain⟨k1O,k2O,k3O,k4O⟩:=hoO.cell;have r0O:∀(e:List AV) (h:AH) (off n:Nat),(St.mk e MO h).cells (.lp ([]:List (List AV)).length off) n=sub (v.c β) off n:=fun e h off n=>de hM0O;have r2O:∀(e:List AV) (h:AH) (off n:Nat),(St.mk e MO h).cells (.lp (([]:List (List AV)).length+2) off) n=sub [AV.int .i64 v.id,wE,w1,wL,wO] off n:=fun e h off n=>de hM2O;have s2O:∀(e:List AV) (h:AH) (a:AV),cn a=true→(St.mk e MO h).store (.lp (([]:List (List AV)).length+2) 4) [a]=some ⟨e,MO.set (([]:List (List AV)).length+2) (c8 [AV.int .i64 v.id,wE,w1,wL,wO] 4 [a]),h⟩:=fun e h a ha=>tR hM2O (by simp) ha;simp only[au,Aaa,Aab,qw,jC,jU,jI,jQ,ig,hO,hH,hJ,Er,r0O,ar.c,L2];refine bz (fun hlt=>?_) (fun hge=>?_)
  ·have hlt:k<v.out.length:=by simpa using hlt
   have i0:=fI (β:=β) (sz:=13) (ex:=false) (ce:=aY.c β) hlt;have he:=hv8 _ (Aar hlt);generalize hxe:v.out[k]=x at *;simp only[au,Aaa,Aab,qw,jC,jU,jI,jQ,ig,hO,hH,hJ,i0,aY.c,cK,r0O,ar.c,r2O,k1O,k2O,k3O];refine al.ref (by simp only[EO]) (VA β x.message he _) ?_;rintro _ Hc fr;replace fr:aX HO _ _ _:=fr;obtain⟨aw,fw,rfl,ow,nw,bw,ew⟩:=fr.a1;have hdis:(fpO++fw).Nodup:=iG ndO nw (fun c hc=>hoO.lt c hc) bw;replace hoO:=hoO.ext ew;have hx1:=hxO.trans ew;have oo:=ow;simp only[ah.cd,jv,jy,j6,oF,nF]at oo;obtain⟨_,_,_,_,rfl,_,⟨rfl,rfl⟩,⟨_,_,_,_,rfl,_,⟨rfl,rfl⟩,⟨_,_,_,_,rfl,_,⟨rfl,rfl⟩,⟨_,_,_,_,rfl,_,⟨rfl,rfl⟩,⟨_,_,_,_,rfl,_,⟨rfl,rfl⟩,⟨az5,_,_,_,rfl,_,uz5,⟨_,_,_,_,rfl,_,⟨rfl,rfl⟩,⟨_,_,_,_,rfl,_,⟨rfl,rfl⟩,⟨_,_,_,_,rfl,_,⟨rfl,rfl⟩,⟨_,_,_,_,rfl,_,⟨rfl,rfl⟩,⟨_,_,_,_,rfl,_,⟨rfl,rfl⟩,⟨_,_,_,_,rfl,_,⟨rfl,rfl⟩,⟨rfl,_⟩⟩⟩⟩⟩⟩⟩⟩⟩⟩⟩⟩⟩:=oo;obtain⟨cz5a,cz5b,cz5c,cz5d⟩:=uz5.cell;obtain⟨v',H',fp',ea,o',nd',hf',hl',hm'⟩:=df (bytes:=128) hoO hdis (by omega) rfl (aM.i (k:=.i64) (n:=x.to_) ow) (by simp only[Aam,Aas,aU];omega);obtain⟨j1,j2,j3,j4⟩:=o'.cell;simp only[au,Aaa,Aab,qw,jC,jU,jI,jQ,ig,hO,hH,hJ,EA,cK,ER,cz5a,cz5b,cz5c,r2O,k1O,k2O,k3O,ea,j1,j2,j3,s2O _ _ _ j2];have hl9:=hxO.len;have hl8:=hx1.len;have hb':∀c∈fp',HL.length≤c:=fun c hc=>by
    rcases hm' c hc with g|g|g
    ·exact hfpO c g
    ·have:=bw c g;omega
    ·omega
   refine⟨(by first|exact ew.mem _ _ _|exact gh (ew.mem _ _ _)),?_⟩;exact⟨(k+1,v',H',fp',_),⟨hlt,by simp only;rw[Aaf hlt,Aan,hxe];exact o',nd',hb',hx1.CZ hl' hf' hfpO,nZ hM0O (by simp),⟨zzO,nZ hM1O (by simp),hzzO⟩,mO hM2O⟩,by simp only;omega,⟨by rw[wN (by omega)];simp[Er,gW,gM],rfl,rfl⟩⟩
  have hge:k=v.out.length:=by simp at hge;omega
  subst hge;rw[Aat]at hoO;simp only[au,Aaa,Aab,qw,jC,jU,jI,jQ,ig,hO,hH,hJ,show ∀(e:List AV) (h:AH) (off n:Nat),(St.mk e MO h).cells (.lp (([]:List (List AV)).length+2) off) n=sub [AV.int .i64 v.id,wE,w1,wL,wO] off n from fun e h off n=>de hM2O,show ∀(e:List AV) (h:AH),(St.mk e MO h).store (.lp (([]:List (List AV)).length+1) 0) [AV.int .i64 v.id,wE,w1,wL,wO]=some ⟨e,MO.set (([]:List (List AV)).length+1) [AV.int .i64 v.id,wE,w1,wL,wO],h⟩ from fun e h=>pP hM1O (by rw[hzzO];rfl) (by simp[MS,k2E,a2,k2L,k2O]),show ∀(e:List AV) (h:AH) (off n:Nat),(St.mk e (MO.set (([]:List (List AV)).length+1) [AV.int .i64 v.id,wE,w1,wL,wO]) h).cells (.lp (([]:List (List AV)).length+1) off) n=sub [AV.int .i64 v.id,wE,w1,wL,wO] off n from fun e h off n=>de (mO hM1O),ER,cK];have z1:=((o1.ext hxE).ext hxL).ext hxO;have zE:=(hoE.ext hxL).ext hxO;have zL:=hoL.ext hxO;have y1:=e1.len;have yE:=hxE.len;have yL:=hxL.len;have hE2:∀c∈fpE,c<HE.length:=fun c hc=>hoE.lt c hc;have hL2:∀c∈fpL,c<HL.length:=fun c hc=>hoL.lt c hc;have h12:∀c∈f1,c<H1.length:=fun c hc=>o1.lt c hc;obtain⟨N,hN⟩:=(((e1.trans hxE).trans hxL).trans hxO).out;refine⟨by simp[cY,gq,a2,a3,a4,k2E,k3E,k4E,k2L,k3L,k4L,k2O,k3O,k4O,uJ,vt,xp],_,N,fpE++(f1++(fpL++(fpO++[]))),rfl,hN,.i (.o zE (.o z1 (.o zL (.o hoO .nil)))),?_,fun c hc=>?_⟩
  ·rw[AaB];refine Aac.2 ⟨ndE,Aac.2 ⟨n1,Aac.2 ⟨ndL,ndO,fun x hx y hy=>?_⟩,fun x hx y hy=>?_⟩,fun x hx y hy=>?_⟩
   ·have:=hL2 x hx;have:=hfpO y hy;omega
   ·have:=h12 x hx;rcases Aad.1 hy with g|g
    ·have:=hfpL y g;omega
    ·have:=hfpO y g;omega
   ·have:=hE2 x hx;have:=hfpE x hx;rcases Aad.1 hy with g|g
    ·have:=h12 y g;omega
    ·rcases Aad.1 g with g|g
     ·have:=hfpL y g;omega
     ·have:=hfpO y g;omega
  ·simp only[AaB,Aad]at hc;rcases hc with g|g|g|g
   ·have:=hfpE c g;omega
   ·have:=b1 c g;omega
   ·have:=hfpL c g;omega
   ·have:=hfpO c g;omega)
set_option maxHeartbeats 4000000 in
set_option maxRecDepth 100000 in
theorem kbM_T(β:Bool)(v:ar)(hv:v.ok 1048576)(x:aA)(hx:x.ok 1048576)(h:AH):T Tryz.prog Γ Fn.kbM [.agg (v.c β),.agg (x.c β)] h (aX h [.a (dv v x).cd,.c (.i .i64 (k8 v))]):=by
 have LE:=eY β 12 false v.entities (aA.c β);refine T.AZ rfl ?_;refine Xv (aC aG mixed [] _ _ _ ?_);unfold OX;simp only[au,Aaa,Aab,F6,yI,yd,qN,qP,cK,qH,ER,ar.c,aA.c];refine al.ref (by simp only[EO]) (Aq β v hv _) ?_;rintro _ H1 fr;replace fr:aX h _ _ _:=fr;obtain⟨aw,fw,rfl,ow,nw,bw,ew⟩:=fr.a1;obtain⟨wE,w2,wL,w4,fE,f2,fL,f4,rfl,rfl,oE,o2,oL,o4⟩:=wR ow;obtain⟨a1,a2,a3,a4⟩:=oE.cell;obtain⟨b1,b2,b3,b4⟩:=o2.cell;obtain⟨c1,c2,c3,c4⟩:=oL.cell;obtain⟨d1,d2,d3,d4⟩:=o4.cell;by_cases hf:200≤v.entities.length
 ·have e:dv v x=v:=by rw[dv,if_pos hf]
  have e2:k8 v = -1:=by rw[k8,if_pos hf]
  simp only[au,Aaa,Aab,F6,yI,yd,qN,qP,cK,qH,ER,ar.c,aA.c,LE,a1,a2,a3,b1,b2,b3,c1,c2,c3,d1,d2,d3,show decide ((v.entities.length:Int)≥200)=true from aR (by omega),show decide ((200:Int)≤(v.entities.length:Int))=true from aR (by omega)];obtain⟨N,rfl⟩:=ew.out;exact⟨by simp only[AaD,AaE,EO,a3,b3,c3,d3],_,N,_,by rw[e2,CD.mY],rfl,by rw[e];exact ow,nw,bw⟩
 simp only[au,Aaa,Aab,F6,yI,yd,qN,qP,cK,qH,ER,ar.c,aA.c,LE,a1,a2,a3,b1,b2,b3,c1,c2,c3,d1,d2,d3,show decide ((v.entities.length:Int)≥200)=false from aW (by omega),show decide ((200:Int)≤(v.entities.length:Int))=false from aW (by omega)];refine al.ref (by simp only[EO]) (QC β x hx _) ?_;rintro _ H2 fr;replace fr:aX H1 _ _ _:=fr;obtain⟨ax,fx,rfl,ox,nx,bx,ex⟩:=fr.a1;have nE:fE.Nodup:=(Aac.1 nw).1;have nd2:(fE++fx).Nodup:=Aac.2 ⟨nE,nx,fun c hc d hd e=>by have:=oE.lt c hc;have:=bx d hd;omega⟩;obtain⟨v',H3,fE',ea,o',nd',hf',hl',hm'⟩:=df (bytes:=144) (oE.ext ex) nd2 (by omega) (by rw[ox.len];rfl) ox (by simp only[Aam,aU];omega);obtain⟨j1,j2,j3,j4⟩:=o'.cell;refine⟨gI rfl,?_⟩;obtain⟨wS,wQ,wA,fS,fQ,fA,rfl,_,oS,oQ,oA⟩:=c5 ox;obtain⟨x1,x2,x3,x4⟩:=oS.cell;obtain⟨x5,x6,x7,x8⟩:=oQ.cell;obtain⟨x9,xa,xb,xc⟩:=oA.cell;simp only[au,Aaa,Aab,F6,yI,yd,qN,qP,EA,cK,qH,ER,ar.c,aA.c,LE,a1,a2,a3,b1,b2,b3,c1,c2,c3,d1,d2,d3,x1,x2,x3,x5,x6,x7,x9,xa,xb,ea,j1,j2,j3];refine⟨fun r hr=>?_,?_⟩
 ·have:r=22:=by simpa using hr
  subst this;exact fun n cs hc=>hc
 have hEx:=ex.len;have hEw:=ew.len;obtain⟨nE',nR,dER⟩:=Aac.1 nw;have ltw:=fun c hc=>ow.lt c hc;have oth:∀c∈f2++(fL++f4),H3[c]? = H1[c]?:=fun c hc=>by
  have hl:=ltw c (Aaj _ hc);rw[hf' c (fun h=>dER c h c hc rfl) (by omega),ex.fr c hl]
 have e:dv v x={ v with entities:=v.entities++[x] }:=by rw[dv,if_neg hf]
 have e2:k8 v=(v.entities.length:Int):=by rw[k8,if_neg hf]
 have own:aM H3 [.int .i64 v.id,v',w2,wL,w4] (dv v x).cd (fE'++(f2++(fL++f4))):=by
  rw[e];have:=aM.i (k:=.i64) (n:=v.id) (aM.o (by simpa using o':b9 H3 v' (.sl 12 ((v.entities++[x]).map aA.cd)) fE') (aM.o (o2.frame fun c hc=>oth c (by simp[hc])) (aM.o (oL.frame fun c hc=>oth c (by simp[hc])) (aM.o (o4.frame fun c hc=>oth c (by simp[hc])) (.nil)))));simpa[ar.cd]using this
 have ex3:cQ h H3:=⟨by omega,fun c hc=>by
  rw[hf' c (fun g=>by have:=bw c (Aaw _ g);omega) (by omega),ex.fr c (by omega),ew.fr c hc]⟩
 obtain⟨N,hN⟩:=ex3.out;have AG:∀c∈fE'++(f2++(fL++f4)),h.length≤c:=fun c hc=>by
  rcases Aad.1 hc with g|g
  ·rcases hm' c g with q|q|q
   ·exact bw c (Aaw _ q)
   ·have:=bx c q;omega
   ·omega
  ·exact bw c (Aaj _ g)
 have ndd:(fE'++(f2++(fL++f4))).Nodup:=Aac.2 ⟨nd',nR,fun c hc d hd e=>by
  subst e;have hl:=ltw c (Aaj _ hd);rcases hm' c hc with q|q|q
  ·exact dER c q c hd rfl
  ·have:=bx c q;omega
  ·omega⟩
 first|exact⟨by simp only[AaD,AaE,EO,j3,j4,b3,b4,c3,c4,d3,d4],_,N,_,by rw[e2,CD.mY],hN,own,ndd,AG⟩|exact⟨_,N,_,by rw[e2,CD.mY],hN,own,ndd,AG⟩|trace_state
def aD(v:ar)(n:Int):aA:=v.entities.getD n.toNat default
def cT(v:ar)(k:Nat)(e:aA):ar:={ v with entities:=v.entities.set k e }
def dU(v:ar)(k:Nat)(l:aF):ar:={ v with aq:=v.aq.set k l }
def sg(v:ar)(peer:Int):Nat:=(iq (fun l:aF=>l.peer == peer) v.aq).toNat
def oP(v:ar)(peer p:Int):ar:=dU v (sg v peer) (lO (v.aq.getD (sg v peer) default) p).1
def sW(v:ar)(peer p:Int):Int:=(lO (v.aq.getD (sg v peer) default) p).2
def kT(r:aA)(peer q:Int):aA:={ r with state:=3,peer:=peer,pos:=q,count:=0,queue:=[] }
def lN(s:aK)(pos ans q:Int)(ws:List aJ):ah:=⟨1,pos,ans,q,s.name,ws,⟨0,0⟩,0,s.tag⟩
def cm(v:ar)(s:aK)(peer:Int):ar:=(aQ v peer s.args).1
def hZ(v:ar)(s:aK)(peer:Int):ar:=cT (oP (cm v s peer) peer s.result) s.result.toNat (kT (aD v s.result) peer (sW (cm v s peer) peer s.result))
def fW(v:ar)(s:aK)(peer pos ans:Int):ar:=e8 (hZ v s peer) peer (lN s pos ans (sW (cm v s peer) peer s.result) (aQ v peer s.args).2)
def dT(v:ar)(s:aK)(peer:Int):Bool:=rO v.aq peer && (bB s.result v.entities.length && (decide ((aD v s.result).kind=2) && decide ((aD v s.result).state=1)))
def dp(D:ar→aK→ar)(v:ar)(s:aK)(peer pos ans:Int):ar:=if dT v s peer=true then (aD v s.result).queue.foldl D (fW v s peer pos ans)else v
def vC(v:ar)(p:Int)(x:an):an:=if (nB (cO v x) v.entities.length && !decide (cO v x=⟨1,p⟩))=true then cO v x else bd
def lJ(e:aA)(y:an):aA:={ e with state:=2,value:=y,queue:=[],askers:=[],peer:=0,pos:=0,count:=0 }
def od(q:Int)(w:aJ):ah:=⟨2,0,0,q,⟨#[]⟩,[],w,0,⟨0,0,0⟩⟩
def kV(e:aA)(a:cj):aA:={ e with askers:=e.askers++[a] }
def sh(e:aA)(s:aK):aA:={ e with queue:=e.queue++[s] }
def bF(y:an)(v:ar)(a:cj):ar:=
 if lM v (cO v y)=true then cT v (cO v y).n.toNat (kV (aD v (cO v y).n) a)
 else e8 (bq v a.peer (cO v y)).1 a.peer (od a.question (bq v a.peer (cO v y)).2)
def pd(v:ar)(p:Int):Bool:=bB p v.entities.length && rQ (aD v p)
def ky(v:ar)(p:Int)(x:an):ar:=cT v p.toNat (lJ (aD v p) (vC v p x))
def dD(D:ar→aK→ar)(v:ar)(p:Int)(x:an):ar:=
 if pd v p=true then (aD v p).askers.foldl (bF (vC v p x)) ((aD v p).queue.foldl D (ky v p x))else v
def pC(v:ar)(s:aK):an:=cO v ⟨1,s.target⟩
def nC(v:ar)(s:aK):aK:={ s with target:=(pC v s).n }
def cP(e:aA):aA:={ e with count:=IntKind.i64.wrap (e.count+1) }
def aT:Nat→ar→aK→ar
 | 0,v,_=>v
 | n+1,v,s=>
  if (decide ((pC v s).kind=1) && bB (pC v s).n v.entities.length)=true then
   (if (aD v (pC v s).n).kind=1 then (if v.loop.length<60 then { v with loop:=v.loop++[nC v s] }else dD (aT n) v s.result bd)
   else if (aD v (pC v s).n).kind=3 then
    (if dT v (nC v s) (aD v (pC v s).n).peer=true then dp (aT n) v (nC v s) (aD v (pC v s).n).peer (aD v (pC v s).n).pos 0 else dD (aT n) v s.result bd)
   else if (aD v (pC v s).n).kind=2 then
    (if (aD v (pC v s).n).state=3 then
     (if dT v (nC v s) (aD v (pC v s).n).peer=true then
      cT (dp (aT n) v (nC v s) (aD v (pC v s).n).peer 0 (aD v (pC v s).n).pos) (pC v s).n.toNat (cP (aD (dp (aT n) v (nC v s) (aD v (pC v s).n).peer 0 (aD v (pC v s).n).pos) (pC v s).n))
     else dD (aT n) v s.result bd)
    else if (aD v (pC v s).n).state=2 then dD (aT n) v s.result bd
    else (if (aD v (pC v s).n).queue.length<40 then cT v (pC v s).n.toNat (sh (aD v (pC v s).n) (nC v s))else dD (aT n) v s.result bd))
   else dD (aT n) v s.result bd)
  else dD (aT n) v s.result bd
def sM(l:List aK):Nat:=(l.map fun s=>2+s.args.length).sum
def oq(e:aA):Nat:=sM e.queue+2*e.askers.length
def xK(l:aF):Nat:=l.exports.length+l.questions.length
def wV(v:ar):Nat:=(v.entities.map oq).sum+v.out.length+(v.aq.map xK).sum
def BX(e:aA):Nat:=if e.kind=2 then (if e.state=1 then 2 else if e.state=3∨e.state=4 then 1 else 0)else 0
def mJ(v:ar):Nat:=(v.entities.map BX).sum
theorem wF{α:Type}(g:α→Nat):∀(l:List α) (k:Nat) (x:α) (h:k<l.length),((l.set k x).map g).sum+g l[k]=(l.map g).sum+g x
 | a::l,0,x,h=>by simp;omega
 | a::l,k+1,x,h=>by
  have:=wF g l k x (by simpa using h);simp only[List.set_cons_succ,Aak,Aal,Aau];omega
theorem DU{α:Type}(g:α→Nat):∀(l:List α) (k:Nat) (h:k<l.length),g l[k]≤(l.map g).sum
 | a::l,0,h=>by simp
 | a::l,k+1,h=>by
  have:=DU g l k (by simpa using h);simp only[Aak,Aal,Aau];omega
structure VI (v:ar):Prop where
 fH:v.entities.length≤200
 loop:v.loop.length≤60
 aq:v.aq.length≤100
 ans:∀l∈v.aq,l.answers.length≤100
 en:∀e∈v.entities,e.slots.length≤100∧∀s∈e.queue,s.ok 100
 lps:∀s∈v.loop,s.ok 100
 outs:∀o∈v.out,o.ok 100
theorem KZ{v:ar}{l:aF}(h:l∈v.aq):xK l≤wV v:=by
 obtain⟨k,hk,rfl⟩:=Aaz h;have:=DU xK v.aq k hk;unfold wV;omega
theorem GS{v:ar}{e:aA}(h:e∈v.entities):oq e≤wV v:=by
 obtain⟨k,hk,rfl⟩:=Aaz h;have:=DU oq v.entities k hk;unfold wV;omega
theorem vV(l:List aK):2*l.length≤sM l:=by
 induction l with
 | nil=>simp[sM]
 | cons a l ih=>simp only[sM,Aak,Aal,Aag]at *;omega
theorem VI.Cu{v:ar}(h:VI v):IM (wV v+100) v:=fun l hl=>by
 have h1:=KZ hl;have h2:=h.ans l hl;unfold xK at h1;exact⟨by omega,by omega,by omega⟩
theorem VI.Gt{v:ar}(h:VI v):v.ok (wV v+200):=by
 refine⟨by have:=h.fH;omega,fun e he=>?_,by have:=h.loop;omega,fun s hs=>(h.lps s hs).mono (by omega),by have:=h.aq;omega,fun l hl=>(h.Cu l hl).mono (by omega),by unfold wV;omega,fun o ho=>(h.outs o ho).mono (by omega)⟩;have h1:=GS he;have h2:=vV e.queue;have h3:=h.en e he;unfold oq at h1;exact⟨by omega,by omega,fun s hs=>(h3.2 s hs).mono (by omega),by omega⟩
theorem cL{v:ar}{n:Int}(h:bB n v.entities.length=true):∃k:Nat,∃hk:k<v.entities.length,n=(k:Int)∧n.toNat=k∧aD v n=v.entities[k]:=by
 simp only[bB,Aah,decide_eq_true_eq]at h;have hk:n.toNat<v.entities.length:=by omega
 exact⟨n.toNat,hk,by omega,rfl,by simp[aD,Aae,hk]⟩
theorem uk{v:ar}{n:Int}(h:bB n v.entities.length=true)(e:aA):wV (cT v n.toNat e)+oq (aD v n)=wV v+oq e:=by
 obtain⟨k,hk,_,e2,e3⟩:=cL h;have:=wF oq v.entities k e hk;rw[e2,e3];simp only[wV,cT];omega
theorem ur{v:ar}{n:Int}(h:bB n v.entities.length=true)(e:aA):mJ (cT v n.toNat e)+BX (aD v n)=mJ v+BX e:=by
 obtain⟨k,hk,_,e2,e3⟩:=cL h;have:=wF BX v.entities k e hk;rw[e2,e3];simp only[mJ,cT];omega
theorem js(v:ar)(k:Nat)(e:aA):(cT v k e).entities.length=v.entities.length:=by simp[cT]
theorem pw{v:ar}(h:VI v)(k:Nat)(e:aA)(he:e.slots.length≤100∧∀s∈e.queue,s.ok 100):VI (cT v k e):=
 ⟨by rw[js];exact h.fH,h.loop,h.aq,h.ans,fun x hx=>by
  rcases Aaq hx with g|g
  ·exact h.en x g
  ·rw[g];exact he,h.lps,h.outs⟩
theorem gZ{v:ar}(h:VI v)(n:Int):(aD v n).slots.length≤100∧∀s∈(aD v n).queue,s.ok 100:=by
 unfold aD;rw[Aae];cases hk:v.entities[n.toNat]? with
 | some e=>exact h.en e (Aax hk)
 | none=>exact⟨Aay _,fun s hs=>by cases hs⟩
structure vH (v v':ar):Prop where
 fH:v'.entities=v.entities
 loop:v'.loop=v.loop
 id:v'.id=v.id
theorem vH.refl(v:ar):vH v v:=⟨rfl,rfl,rfl⟩
theorem vH.trans{a b c:ar}(h:vH a b)(k:vH b c):vH a c:=⟨k.fH.trans h.fH,k.loop.trans h.loop,k.id.trans h.id⟩
theorem vH.mu{v v':ar}(h:vH v v'):mJ v'=mJ v:=by rw[mJ,h.fH,mJ]
theorem GV(l:aF)(e:Int):xK (jq l e).1≤xK l+1:=by
 obtain⟨h1,h2,_⟩:=tT l e;unfold xK;rw[h2];omega
theorem sj{v:ar}(k:Nat)(l:aF){c:Nat}(hl:xK l≤xK (v.aq.getD k default)+c):wV (dU v k l)≤wV v+c:=by
 by_cases hk:k<v.aq.length
 ·have:=wF xK v.aq k l hk;rw[Aae,List.getElem?_eq_getElem hk,Option.getD_some]at hl;simp only[wV,dU];omega
 ·simp only[wV,dU];rw[List.set_eq_of_length_le (by omega)];omega
theorem E7{v:ar}(h:VI v)(k:Nat):(v.aq.getD k default).answers.length≤100:=by
 rw[Aae];cases hk:v.aq[k]? with
 | some l=>exact h.ans l (Aax hk)
 | none=>exact Aay _
theorem qg{v:ar}(h:VI v)(k:Nat)(l:aF)(hl:l.answers.length≤100):VI (dU v k l):=
 ⟨h.fH,h.loop,by simpa[dU]using h.aq,fun x hx=>by
  rcases Aaq hx with g|g
  ·exact h.ans x g
  ·rw[g];exact hl,h.en,h.lps,h.outs⟩
theorem oB(v:ar)(peer:Int)(x:an):vH v (bq v peer x).1∧wV (bq v peer x).1≤wV v+1∧(bq v peer x).1.out=v.out∧(VI v→VI (bq v peer x).1):=by
 unfold bq;split
 ·exact⟨.refl _,AaA _,rfl,id⟩
 ·split
  ·split
   ·exact⟨.refl _,AaA _,rfl,id⟩
   ·refine⟨⟨rfl,rfl,rfl⟩,sj (v:=v) _ _ (GV _ _),rfl,fun h=>qg h _ _ ?_⟩;rw[(tT _ _).2.2];exact E7 h _
  ·exact⟨.refl _,AaA _,rfl,id⟩
theorem um(peer:Int):∀(l:List an) (v:ar),vH v (aQ v peer l).1∧wV (aQ v peer l).1≤wV v+l.length∧(aQ v peer l).1.out=v.out∧(VI v→VI (aQ v peer l).1)
 | [],v=>⟨.refl _,by simp[aQ],rfl,id⟩
 | x::l,v=>by
  obtain⟨h1,h2,h3,h4⟩:=oB v peer x;obtain⟨k1,k2,k3,k4⟩:=um peer l (bq v peer x).1;simp only[aQ,Aag];exact⟨h1.trans k1,by omega,k3.trans h3,fun h=>k4 (h4 h)⟩
theorem jX(v:ar)(p:Int)(m:ah):vH v (e8 v p m)∧wV (e8 v p m)≤wV v+1∧(VI v→m.ok 100→VI (e8 v p m)):=by
 unfold e8;split
 ·refine⟨⟨rfl,rfl,rfl⟩,by simp only[wV,Aao,Aag,Aav];omega,fun h hm=>⟨h.fH,h.loop,h.aq,h.ans,h.en,h.lps,fun o ho=>?_⟩⟩;rcases Aad.1 ho with g|g
  ·exact h.outs o g
  ·rw[Aap.1 g];exact hm
 ·exact⟨.refl _,by omega,fun h _=>h⟩
theorem uo(v:ar)(peer p:Int):vH v (oP v peer p)∧wV (oP v peer p)≤wV v+1∧(VI v→VI (oP v peer p)):=by
 refine⟨⟨rfl,rfl,rfl⟩,sj _ _ (by simp[xK,lO];omega),fun h=>qg h _ _ ?_⟩;simp only[lO];exact E7 h _
theorem vH.aD{v v':ar}(h:vH v v')(n:Int):aD v' n=aD v n:=by unfold Go.Proofs.YtolciaflplefcaaGreat.aD;rw[h.fH]
theorem uf(v:ar)(s:aK)(peer:Int):vH v (cm v s peer)∧wV (cm v s peer)≤wV v+s.args.length∧(VI v→VI (cm v s peer)):=
 let ⟨h1,h2,_,h4⟩:=um peer s.args v
 ⟨h1,h2,h4⟩
theorem xF{v:ar}{s:aK}{peer:Int}(h:dT v s peer=true):rO v.aq peer=true∧bB s.result v.entities.length=true∧(aD v s.result).kind=2∧(aD v s.result).state=1:=by
 simp only[dT,Aah,decide_eq_true_eq]at h;exact⟨h.1,h.2.1,h.2.2.1,h.2.2.2⟩
theorem AW{v:ar}{s:aK}{peer pos ans:Int}(h:dT v s peer=true):(fW v s peer pos ans).entities.length=v.entities.length∧wV (fW v s peer pos ans)+sM (aD v s.result).queue≤wV v+2+s.args.length∧mJ (fW v s peer pos ans)+1=mJ v∧(VI v→s.ok 100→VI (fW v s peer pos ans)):=by
 obtain⟨_,h2,h3,h4⟩:=xF h;obtain⟨w1,w2,w3⟩:=uf v s peer;obtain⟨a1,a2,a3⟩:=uo (cm v s peer) peer s.result;have sm:=w1.trans a1;have hl:bB s.result (oP (cm v s peer) peer s.result).entities.length=true:=by rw[sm.fH];exact h2
 have e0:=sm.aD s.result;have b1:=uk hl (kT (aD v s.result) peer (sW (cm v s peer) peer s.result));have b2:=ur hl (kT (aD v s.result) peer (sW (cm v s peer) peer s.result));rw[e0]at b1 b2;have m1:BX (aD v s.result)=2:=by simp[BX,h3,h4]
 have m2:BX (kT (aD v s.result) peer (sW (cm v s peer) peer s.result))=1:=by simp[BX,kT,h3]
 have g1:oq (kT (aD v s.result) peer (sW (cm v s peer) peer s.result))+sM (aD v s.result).queue=oq (aD v s.result):=by simp[oq,kT,sM];omega
 obtain⟨p1,p2,p3⟩:=jX (hZ v s peer) peer (lN s pos ans (sW (cm v s peer) peer s.result) (aQ v peer s.args).2);refine⟨?_,?_,?_,fun hv hs=>p3 ?_ ?_⟩
 ·show(e8 _ _ _).entities.length=_
  rw[p1.fH];unfold hZ;rw[js,sm.fH]
 ·show wV (e8 _ _ _)+_≤_
  unfold hZ at p2 ⊢;omega
 ·show mJ (e8 _ _ _)+1=_
  rw[p1.mu];unfold hZ;have:=sm.mu;omega
 ·unfold hZ;exact pw (a3 (w3 hv)) _ _ ⟨(gZ hv s.result).1,fun x hx=>by simp[kT]at hx⟩
 ·exact⟨hs.1,by rw[show(lN s pos ans (sW (cm v s peer) peer s.result) (aQ v peer s.args).2).args=(aQ v peer s.args).2 from rfl,qF];exact hs.2⟩
structure My (D:ar→aK→ar):Prop where
 len:∀v s,(D v s).entities.length=v.entities.length
 w:∀v s,wV (D v s)≤wV v+2+s.args.length
 mu:∀v s,mJ (D v s)≤mJ v
 vi:∀v s,VI v→s.ok 100→VI (D v s)
theorem nj{D:ar→aK→ar}(h:My D):∀(q:List aK) (v:ar),(q.foldl D v).entities.length=v.entities.length∧wV (q.foldl D v)≤wV v+sM q∧mJ (q.foldl D v)≤mJ v∧(VI v→(∀s∈q,s.ok 100)→VI (q.foldl D v))
 | [],v=>⟨rfl,by simp[sM],Aai _,fun h _=>h⟩
 | s::q,v=>by
  obtain⟨k1,k2,k3,k4⟩:=nj h q (D v s);have h1:=h.len v s;have h2:=h.w v s;have h3:=h.mu v s;simp only[AaC];refine⟨k1.trans h1,by simp only[sM,Aak,Aal]at *;omega,by omega,fun hv hq=>k4 (h.vi v s hv (hq s (by simp))) fun x hx=>hq x (by simp[hx])⟩
theorem wK{D:ar→aK→ar}(h:My D)(v:ar)(s:aK)(peer pos ans:Int):(dp D v s peer pos ans).entities.length=v.entities.length∧wV (dp D v s peer pos ans)≤wV v+2+s.args.length∧mJ (dp D v s peer pos ans)≤mJ v∧(VI v→s.ok 100→VI (dp D v s peer pos ans)):=by
 unfold dp;split
 ·rename_i hc;obtain⟨c1,c2,c3,c4⟩:=AW (pos:=pos) (ans:=ans) hc;obtain⟨f1,f2,f3,f4⟩:=nj h (aD v s.result).queue (fW v s peer pos ans);exact⟨f1.trans c1,by omega,by omega,fun hv hs=>f4 (c4 hv hs) (gZ hv _).2⟩
 ·exact⟨rfl,by omega,Aai _,fun hv _=>hv⟩
theorem zk(y:an)(v:ar)(a:cj):(bF y v a).entities.length=v.entities.length∧wV (bF y v a)≤wV v+2∧mJ (bF y v a)≤mJ v∧(VI v→VI (bF y v a)):=by
 unfold bF;split
 ·rename_i hp;have hl:bB (cO v y).n v.entities.length=true:=by
   simp only[lM,Aah]at hp;exact hp.2.1
  have b1:=uk hl (kV (aD v (cO v y).n) a);have b2:=ur hl (kV (aD v (cO v y).n) a);refine⟨js _ _ _,?_,?_,fun hv=>pw hv _ _ (gZ hv _)⟩
  ·have g:oq (kV (aD v (cO v y).n) a)=oq (aD v (cO v y).n)+2:=by simp only[oq,kV,Aao,Aag,Aav];omega
   omega
  ·have g:BX (kV (aD v (cO v y).n) a)=BX (aD v (cO v y).n):=rfl;omega
 ·obtain⟨t1,t2,_,t4⟩:=oB v a.peer (cO v y);obtain⟨p1,p2,p3⟩:=jX (bq v a.peer (cO v y)).1 a.peer (od a.question (bq v a.peer (cO v y)).2);have sm:=t1.trans p1;exact⟨by rw[sm.fH],by omega,by rw[sm.mu];exact Aai _,fun hv=>p3 (t4 hv) ⟨Aay _,Aay _⟩⟩
theorem wG(y:an):∀(l:List cj) (v:ar),(l.foldl (bF y) v).entities.length=v.entities.length∧wV (l.foldl (bF y) v)≤wV v+2*l.length∧mJ (l.foldl (bF y) v)≤mJ v∧(VI v→VI (l.foldl (bF y) v))
 | [],v=>⟨rfl,by simp,Aai _,id⟩
 | a::l,v=>by
  obtain⟨k1,k2,k3,k4⟩:=wG y l (bF y v a);obtain⟨h1,h2,h3,h4⟩:=zk y v a;simp only[AaC,Aag];exact⟨k1.trans h1,by omega,by omega,fun hv=>k4 (h4 hv)⟩
theorem zS{v:ar}{p:Int}(h:pd v p=true)(x:an):(ky v p x).entities.length=v.entities.length∧wV (ky v p x)+oq (aD v p)=wV v∧mJ (ky v p x)+1≤mJ v∧(VI v→VI (ky v p x)):=by
 simp only[pd,Aah]at h;have b1:=uk h.1 (lJ (aD v p) (vC v p x));have b2:=ur h.1 (lJ (aD v p) (vC v p x));have m1:BX (lJ (aD v p) (vC v p x))=0:=by simp[BX,lJ]
 have m2:1≤BX (aD v p):=by
  have hp:=h.2;simp only[rQ,Aah,Bool.or_eq_true,decide_eq_true_eq]at hp;unfold BX;rw[if_pos hp.1];rcases hp.2 with g|g|g
  ·rw[if_pos g];omega
  ·rw[if_neg (by omega),if_pos (.inl g)];omega
  ·rw[if_neg (by omega),if_pos (.inr g)];omega
 have g1:oq (lJ (aD v p) (vC v p x))=0:=by simp[oq,lJ,sM]
 refine⟨js _ _ _,?_,?_,fun hv=>pw hv _ _ ⟨(gZ hv p).1,fun s hs=>by simp[lJ]at hs⟩⟩
 ·unfold ky;omega
 ·unfold ky;omega
theorem Eg{D:ar→aK→ar}(h:My D)(v:ar)(p:Int)(x:an):(dD D v p x).entities.length=v.entities.length∧wV (dD D v p x)≤wV v∧mJ (dD D v p x)≤mJ v∧(VI v→VI (dD D v p x)):=by
 unfold dD;split
 ·rename_i hr;obtain⟨k1,k2,k3,k4⟩:=zS hr x;obtain⟨f1,f2,f3,f4⟩:=nj h (aD v p).queue (ky v p x);obtain⟨a1,a2,a3,a4⟩:=wG (vC v p x) (aD v p).askers ((aD v p).queue.foldl D (ky v p x));refine⟨a1.trans (f1.trans k1),?_,by omega,fun hv=>a4 (f4 (k4 hv) (gZ hv p).2)⟩;unfold oq at k2;omega
 ·exact⟨rfl,by omega,Aai _,id⟩
theorem gr:∀n,My (aT n)
 | 0=>⟨fun _ _=>rfl,fun _ _=>by simp only[aT];omega,fun _ _=>Aai _,fun _ _ h _=>h⟩
 | n+1=>by
  have h:=gr n;have all:∀v s,(aT (n+1) v s).entities.length=v.entities.length∧wV (aT (n+1) v s)≤wV v+2+s.args.length∧mJ (aT (n+1) v s)≤mJ v∧(VI v→s.ok 100→VI (aT (n+1) v s)):=by
   intro v s;have fail:(dD (aT n) v s.result bd).entities.length=v.entities.length∧wV (dD (aT n) v s.result bd)≤wV v+2+s.args.length∧mJ (dD (aT n) v s.result bd)≤mJ v∧(VI v→s.ok 100→VI (dD (aT n) v s.result bd)):=by
    obtain⟨r1,r2,r3,r4⟩:=Eg h v s.result bd;exact⟨r1,by omega,r3,fun hv _=>r4 hv⟩
   have call:=fun peer pos ans=>wK h v (nC v s) peer pos ans;unfold aT;split
   rotate_left
   ·exact fail
   rename_i ht;have hl:bB (pC v s).n v.entities.length=true:=by simp only[Aah]at ht;exact ht.2
   split
   ·split
    ·refine⟨rfl,by simp only[wV];omega,Aai _,fun hv hs=>⟨hv.fH,?_,hv.aq,hv.ans,hv.en,fun x hx=>?_,hv.outs⟩⟩
     ·simp only[Aao,Aag,Aav];omega
     ·rcases Aad.1 hx with g|g
      ·exact hv.lps x g
      ·rw[Aap.1 g];exact hs
    ·exact fail
   split
   ·split
    ·exact call _ _ _
    ·exact fail
   split
   ·split
    ·split
     ·obtain⟨c1,c2,c3,c4⟩:=call (aD v (pC v s).n).peer 0 (aD v (pC v s).n).pos;generalize dp (aT n) v (nC v s) (aD v (pC v s).n).peer 0 (aD v (pC v s).n).pos=v' at c1 c2 c3 c4;have hl':bB (pC v s).n v'.entities.length=true:=by rw[c1];exact hl
      have b1:=uk hl' (cP (aD v' (pC v s).n));have b2:=ur hl' (cP (aD v' (pC v s).n));have g1:oq (cP (aD v' (pC v s).n))=oq (aD v' (pC v s).n):=rfl;have g2:BX (cP (aD v' (pC v s).n))=BX (aD v' (pC v s).n):=rfl;have g3:(nC v s).args=s.args:=rfl;rw[g3]at c2;exact⟨(js _ _ _).trans c1,by omega,by omega,fun hv hs=>pw (c4 hv hs) _ _ (gZ (c4 hv hs) _)⟩
     ·exact fail
    split
    ·exact fail
    split
    ·have b1:=uk hl (sh (aD v (pC v s).n) (nC v s));have b2:=ur hl (sh (aD v (pC v s).n) (nC v s));refine⟨js _ _ _,?_,?_,fun hv hs=>pw hv _ _ ⟨(gZ hv _).1,fun x hx=>?_⟩⟩
     ·have g:oq (sh (aD v (pC v s).n) (nC v s))=oq (aD v (pC v s).n)+(2+s.args.length):=by simp only[oq,sh,sM,Aan,Aak,List.map_nil,List.sum_append,Aal,List.sum_nil,nC];omega
      omega
     ·have g:BX (sh (aD v (pC v s).n) (nC v s))=BX (aD v (pC v s).n):=rfl;omega
     ·rcases Aad.1 hx with g|g
      ·exact(gZ hv _).2 x g
      ·rw[Aap.1 g];exact hs
    ·exact fail
   ·exact fail
  exact⟨fun v s=>(all v s).1,fun v s=>(all v s).2.1,fun v s=>(all v s).2.2.1,fun v s=>(all v s).2.2.2⟩
def KJ:C:=.seq (.regD zj zp) (.seq (.reg [mV 100 0,mV 101 2,mV 102 3,mV 103 4,mV 104 15,mF 105 1 6,mL 106 1 105,mV 107 12,mF 108 4 6,mG 109 3 108,⟨(some 110),none,.build [.int .i64 0,.int .i64 0,.int .i64 0,.int .i64 0,.str ⟨#[]⟩,.nils,.int .i64 0,.int .i64 0,.int .i64 0,.int .i64 0,.int .i64 0,.int .i64 0] [(0,1,.c (.int .i64 1)),(1,1,.t 102),(2,1,.t 103),(3,1,.t 104),(4,1,.t 106),(5,1,.t 107),(9,3,.t 109)]⟩,mC 111 Fn.TL [.t 100,.t 101,.t 110]]) (.seq (.seq (.reg [mK 17 0]) (.block 0 (.loop (.seq (.seq (.reg [mV 112 17,mV 113 16,mN 114 113,mB 115 .lss 112 114]) (.cond (.t 115) .skip (.exit 0))) (.seq (.block 1 (.reg [mV 118 0,mV 119 16,mV 120 17,mX 121 7 119 120,mG 122 7 121,mC 123 Fn.Tv [.t 118,.t 122]])) (.reg [mV 116 17,mI 117 .add 116 1,mV 17 117])))))) (.seq (.reg [mT 10 true]) .ret)))
def Me:C:=.seq (.regD zn zI) (.seq (.reg [mF 82 3 11,⟨none,none,.store 1 (.t 82) (.c (.int .i64 3))⟩]) (.seq (.reg [mV 83 2,mF 84 8 11,mS 1 84 83]) (.seq (.reg [mV 85 15,mF 86 9 11,mS 1 86 85]) (.seq (.reg [mF 87 10 11,⟨none,none,.store 1 (.t 87) (.c (.int .i64 0))⟩]) (.seq (.reg [mF 88 6 11,mL 89 1 88,mV 16 89]) (.seq (.reg [⟨(some 90),none,.bsl 7 0 [.int .i64 0,.str ⟨#[]⟩,.nils,.int .i64 0,.int .i64 0,.int .i64 0,.int .i64 0] []⟩,mF 91 6 11,mS 1 91 90]) (KJ)))))))
def Mr:C:=.seq (.regD Ae zX) (Me)
def Eu:C:=.seq (.regD zf zt) (.seq (.seq (.reg [mF 44 0 11,mL 45 1 44,mI 46 .neq 45 2,mV 47 46,⟨(some 48),(some (3,false)),.fld 3 (.t 11)⟩,⟨(some 49),(some (3,false)),.load 1 false (.t 48)⟩,⟨(some 50),(some (3,false)),.bin .neq (.num) (.t 49) (.c (.int .i64 1))⟩,⟨(some 51),none,.pick (.t 47) (.c (.bool true)) (.t 50)⟩]) (.cond (.t 51) (.seq (.reg [mT 10 false]) .ret) .skip)) (.seq (.reg [mV 52 0,mV 53 2,mF 54 2 6,mL 55 1 54,mC 56 Fn.kcE [.t 52,.t 53,.t 55],mV 12 56]) (.seq (.reg [mV 57 0,⟨(some 58),none,.nilchk (.t 57)⟩,mG 59 5 58,mV 60 2,mC 61 Fn.Uc [.t 59,.t 60],mV 13 61]) (Mr))))
def Kx:C:=.seq (.reg [mA 6 1,mT 10 false]) (.seq (.seq (.regD Aa zZ) (.cond (.t 35) (.seq (.reg [mT 10 false]) .ret) .skip)) (Eu))
theorem Tm:Oe=Kx:=rfl
def K7:C:=.seq (.regD vP vY) (.seq (.reg [mT 5 false]) (.seq (.seq (.regD vZ wg) (.cond (.t 27) (.seq (.regD vT vS) (.seq (.reg [mF 36 1 4,mL 37 1 36,mF 38 0 3,mS 1 38 37]) (.block 0 (.seq (.reg [mF 40 0 6,mL 41 1 40,mI 42 .eql 41 1,mV 39 42]) (.cond (.t 39) (.seq (.reg [mV 43 0,⟨(some 44),none,.nilchk (.t 43)⟩,mF 45 2 44,mL 46 1 45,mN 47 46,mI 48 .lss 47 60]) (.cond (.t 48) (.seq (.regD vW wb) (.reg [mT 5 true])) .skip)) (.seq (.reg [mF 60 0 6,mL 61 1 60,mI 62 .eql 61 3,mV 59 62]) (.cond (.t 59) (.reg [mV 63 0,mG 64 7 3,mF 65 8 6,mL 66 1 65,mF 67 9 6,mL 68 1 67,mC 69 Fn.Pp [.t 63,.t 64,.t 66,.t 68,.c (.int .i64 0)],mV 5 69]) (.seq (.reg [mF 71 0 6,mL 72 1 71,mI 73 .eql 72 2,mV 74 73,⟨(some 75),(some (3,true)),.fld 3 (.t 6)⟩,⟨(some 76),(some (3,true)),.load 1 false (.t 75)⟩,⟨(some 77),(some (3,true)),.bin .eql (.num) (.t 76) (.c (.int .i64 3))⟩,⟨(some 78),none,.pick (.t 74) (.t 77) (.c (.bool false))⟩,mV 70 78]) (.cond (.t 70) (.seq (.reg [mV 79 0,mG 80 7 3,mF 81 8 6,mL 82 1 81,mF 83 9 6,mL 84 1 83,mC 85 Fn.Pp [.t 79,.t 80,.t 82,.c (.int .i64 0),.t 84],mV 5 85]) (.seq (.reg [mV 86 5]) (.cond (.t 86) (.regD wH wi) .skip))) (.seq (.reg [mF 106 0 6,mL 107 1 106,mI 108 .eql 107 2,mV 109 108,⟨(some 110),(some (3,true)),.fld 3 (.t 6)⟩,⟨(some 111),(some (3,true)),.load 1 false (.t 110)⟩,⟨(some 112),(some (3,true)),.bin .neq (.num) (.t 111) (.c (.int .i64 2))⟩,⟨(some 113),none,.pick (.t 109) (.t 112) (.c (.bool false))⟩,mV 105 113]) (.cond (.t 105) (.seq (.reg [mF 114 6 6,mL 115 1 114,mN 116 115,mI 117 .lss 116 40]) (.cond (.t 117) (.seq (.regD wz wc) (.reg [mT 5 true])) .skip)) .skip))))))))))) .skip)) (.seq (.reg [mV 131 5,mU 132 131]) (.cond (.t 132) (.regD vO wI) .skip))))
def KP:C:=.seq (.reg [mA 3 1]) (K7)
theorem TX:Ru=KP:=rfl
def Ly:C:=.seq (.regD vN we) (.seq (.seq (.reg [mK 9 0]) (.block 0 (.loop (.seq (.seq (.reg [mV 78 9,mF 79 6 7,mL 80 1 79,mN 81 80,mB 82 .lss 78 81]) (.cond (.t 82) .skip (.exit 0))) (.seq (.block 1 (.reg [mV 85 0,mF 86 6 7,mL 87 1 86,mV 88 9,mX 89 7 87 88,mG 90 7 89,mC 91 Fn.Tv [.t 85,.t 90]])) (.reg [mV 83 9,mI 84 .add 83 1,mV 9 84])))))) (.seq (.reg [mK 10 0]) (.block 2 (.loop (.seq (.seq (.reg [mV 92 10,mF 93 7 7,mL 94 1 93,mN 95 94,mB 96 .lss 92 95]) (.cond (.t 96) .skip (.exit 2))) (.seq (.block 3 (.seq (.regD wm wj) (.seq (.seq (.reg [mV 104 0,mG 105 2 11,mC 106 Fn.U7 [.t 104,.t 105]]) (.cond (.t 106) (.seq (.regD wo vX) (.exit 3)) .skip)) (.seq (.regD tB wJ) (.regD wP wT))))) (.reg [mV 97 10,mI 98 .add 97 1,mV 10 98])))))))
def Ke:C:=.seq (.regD zU zw) (.seq (.seq (.regD zm zl) (.cond (.t 51) (.reg [mC 52 Fn.Uk [],mS 2 6 52]) .skip)) (.seq (.reg [mV 53 0,⟨(some 54),none,.nilchk (.t 53)⟩,mF 55 1 54,mL 56 1 55,mV 57 1,mX 58 12 56 57,mG 59 12 58,⟨(some 7),none,.alloc [.int .i64 0,.int .i64 0,.nils,.int .i64 0,.int .i64 0,.int .i64 0,.nils,.nils,.int .i64 0,.int .i64 0,.int .i64 0,.int .i64 0]⟩,mS 12 7 59]) (.seq (.reg [mG 60 12 7,⟨(some 8),none,.alloc [.int .i64 0,.int .i64 0,.nils,.int .i64 0,.int .i64 0,.int .i64 0,.nils,.nils,.int .i64 0,.int .i64 0,.int .i64 0,.int .i64 0]⟩,mS 12 8 60]) (.seq (.reg [mF 61 3 8,⟨none,none,.store 1 (.t 61) (.c (.int .i64 2))⟩]) (.seq (.reg [mG 62 2 6,mF 63 4 8,mS 2 63 62]) (.seq (.reg [⟨(some 64),none,.bsl 7 0 [.int .i64 0,.str ⟨#[]⟩,.nils,.int .i64 0,.int .i64 0,.int .i64 0,.int .i64 0] []⟩,mF 65 6 8,mS 1 65 64]) (.seq (.reg [⟨(some 66),none,.bsl 2 0 [.int .i64 0,.int .i64 0] []⟩,mF 67 7 8,mS 1 67 66]) (.seq (.reg [mF 68 8 8,⟨none,none,.store 1 (.t 68) (.c (.int .i64 0))⟩]) (.seq (.reg [mF 69 9 8,⟨none,none,.store 1 (.t 69) (.c (.int .i64 0))⟩]) (.seq (.reg [mF 70 10 8,⟨none,none,.store 1 (.t 70) (.c (.int .i64 0))⟩]) (Ly)))))))))))
def Mf:C:=.seq (.reg [mA 5 2]) (.seq (.seq (.reg [mV 13 1,mV 14 0,⟨(some 15),none,.nilchk (.t 14)⟩,mF 16 1 15,mL 17 1 16,mN 18 17,mI 19 .sub 18 1,mC 20 Fn.xG [.t 13,.c (.int .i64 0),.t 19],mU 21 20,mV 22 21,⟨(some 23),(some (9,false)),.mov (.t 0)⟩,⟨(some 24),(some (9,false)),.nilchk (.t 23)⟩,⟨(some 25),(some (9,false)),.fld 1 (.t 24)⟩,⟨(some 26),(some (9,false)),.load 1 false (.t 25)⟩,⟨(some 27),(some (9,false)),.mov (.t 1)⟩,⟨(some 28),(some (9,false)),.idxs 12 (.t 26) (.t 27)⟩,⟨(some 29),(some (9,false)),.load 12 true (.t 28)⟩,⟨(some 30),(some (9,false)),.call (.c (.fn Fn.kb0 [] [])) [.t 29]⟩,⟨(some 31),(some (9,false)),.un .not (.t 30)⟩,⟨(some 32),none,.pick (.t 22) (.c (.bool true)) (.t 31)⟩]) (.cond (.t 32) .ret .skip)) (Ke))
theorem TE:P6=Mf:=rfl
end Go.Proofs.YtolciaflplefcaaGreat
