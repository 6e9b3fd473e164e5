import Derived.Test.YtolciaflplefcaaGreatR6G23
import Derived.Test.YtolciaflplefcaaGreatR6G21
import Derived.Test.YtolciaflplefcaaGreatAmG10
set_option linter.unusedVariables false
set_option linter.unusedSimpArgs false
open Go.Proofs.Tryz renaming prog→pQ
open Nat renaming reduceAdd→Aaa,reduceBEq→Aab,reduceLeDiff→Aah,le_refl→Aai,zero_le→Aaj,zero_add→AaC
open List renaming take_succ_eq_append_getElem→Aac,length_map→Aad,getD_eq_getElem?_getD→Aae,getElem?_append_left→Aaf,drop_drop→Aak,drop_eq_getElem_cons→Aal,mem_of_find?_eq_some→Aam,getElem?_set_ne→Aan,mem_singleton→Aao,length_append→Aap,filter_append→Aaq,mem_replicate→Aar,find?_eq_none→Aas,filter_cons→Aau,take_length→Aav,getElem_mem→Aaw,map_append→Aax,mem_append→Aay,append_nil→Aaz,mem_map→AaB,all→AaD
open Bool renaming and_eq_true→Aag,true_and→AaA
open Int renaming toNat_natCast→Aat
namespace Go.Proofs.YtolciaflplefcaaGreat
open Go.AM
variable {Γ:bG}
theorem oC{n:Int}{a b:Nat}(h:bB n a=true)(hab:a≤b):bB n b=true:=by
 simp only[bB,Aag,decide_eq_true_eq]at h ⊢;omega
theorem zO{v:ar}{x:aA}{i:Int}(hi:bB i v.entities.length=true):aD (dv v x) i=aD v i:=by
 unfold dv;split
 ·rfl
 ·obtain⟨k,hk,_,e2,_⟩:=cL hi;unfold aD;simp only[Aae];rw[e2,Aaf hk]
theorem E6(v:ar)(x:aA):v.entities.length≤(dv v x).entities.length:=by
 unfold dv;split
 ·exact Aai _
 ·simp
theorem RQ.add{q:List aK}{v:ar}(r:RQ q v){x:aA}(hx:x.queue=[]):RQ q (dv v x):=by
 have e1:∀y,BW (dv v x) y=BW v y:=fun y=>by
  unfold dv;split
  ·rfl
  ·simp[BW,Dx,hx,Bt]
 exact⟨fun y=>by rw[e1];exact r.one y,fun y hy=>by
  rw[e1]at hy;obtain⟨o1,o2⟩:=r.ok y hy;exact⟨oC o1 (E6 v x),by rw[zO o1];exact o2⟩⟩
theorem KI.add{v:ar}(h:KI v){x:aA}(hx:x.kind=1∨x.kind=2∨x.kind=3):KI (dv v x):=by
 unfold dv;split
 ·exact h
 ·intro k hk;simp only[gF,Aax,List.map_cons,List.map_nil,Aay,Aao]at hk;rcases hk with g|g
  ·exact h k g
  ·rw[g];exact hx
structure Kp (v v':ar):Prop where
 len:v.entities.length≤v'.entities.length
 ent:∀i,bB i v.entities.length=true→(aD v' i).kind=(aD v i).kind∧(aD v' i).state=(aD v i).state∧(aD v' i).queue=(aD v i).queue
 rq:∀q,RQ q v→RQ q v'
 ki:KI v→KI v'
theorem Kp.refl(v:ar):Kp v v:=⟨Aai _,fun _ _=>⟨rfl,rfl,rfl⟩,fun _=>id,id⟩
theorem Kp.trans{a b c:ar}(h:Kp a b)(k:Kp b c):Kp a c:=⟨Nat.le_trans h.len k.len,fun i hi=>by
 obtain⟨h1,h2,h3⟩:=h.ent i hi;obtain⟨k1,k2,k3⟩:=k.ent i (oC hi h.len);exact⟨k1.trans h1,k2.trans h2,k3.trans h3⟩,fun q r=>k.rq q (h.rq q r),fun x=>k.ki (h.ki x)⟩
theorem Kp.count{v:ar}{n:Int}(hn:bB n v.entities.length=true):Kp v (cT v n.toNat (cP (aD v n))):=
 ⟨by rw[js];exact Aai _,fun i hi=>by
  rw[jf hn hi];by_cases h:i=n
  ·rw[if_pos h,h];exact⟨rfl,rfl,rfl⟩
  ·rw[if_neg h];exact⟨rfl,rfl,rfl⟩,fun q r=>r.count hn,fun h=>by unfold KI at h ⊢;rw[kt _ _ (cP _) rfl];exact h⟩
theorem Kp.add(v:ar){x:aA}(hx:x.queue=[])(hk:x.kind=1∨x.kind=2∨x.kind=3):Kp v (dv v x):=
 ⟨E6 v x,fun i hi=>by rw[zO hi];exact⟨rfl,rfl,rfl⟩,fun q r=>r.add hx,fun h=>h.add hk⟩
theorem yw(v:ar)(peer:Int)(w:aJ):Kp v (gm v peer w).1:=by
 unfold gm;split
 ·exact .refl v
 split
 ·exact .refl v
 split
 ·exact .refl v
 split
 ·exact .refl v
 split
 ·split<;>exact .refl v
 split
 ·split<;>exact .add v (x:=lC peer w.n) rfl (.inr (.inr rfl))
 ·rename_i h;exact .count (AU h)
theorem wh(peer:Int)(l:List aJ)(v:ar):Kp v (lZ v peer l).1∧Fr v (lZ v peer l).1∧(lZ v peer l).2.length=l.length:=by
 have key:∀(l:List aJ) (a:ar×List an),Kp a.1 (l.foldl (oZ peer) a).1∧Fr a.1 (l.foldl (oZ peer) a).1∧(l.foldl (oZ peer) a).2.length=a.2.length+l.length:=fun l=>by
  induction l with
  | nil=>exact fun a=>⟨.refl _,.refl _,rfl⟩
  | cons x l ih=>
   intro a;obtain⟨i1,i2,i3⟩:=ih (oZ peer a x);refine⟨(yw a.1 peer x).trans i1,(nG a.1 peer x).trans i2,?_⟩;rw[List.foldl_cons,i3];simp[oZ];omega
 obtain⟨k1,k2,k3⟩:=key l (v,[]);exact⟨k1,k2,by unfold lZ;rw[k3];simp⟩
theorem uU{q:List aK}{v:ar}(r:RQ q v)(k:Nat)(l:aF):RQ q (dU v k l):=RQ.fH (v:=v) (v':=dU v k l) rfl r
theorem vd{q:List aK}{v:ar}(r:RQ q v)(p:Int)(m:ah):RQ q (e8 v p m):=r.fH (jX v p m).1.fH
theorem xM{v:ar}(h:KI v)(k:Nat)(l:aF):KI (dU v k l):=h
theorem xU{v:ar}(h:KI v)(p:Int)(m:ah):KI (e8 v p m):=by unfold KI at h ⊢;rw[(jX v p m).1.kinds];exact h
theorem IP{v:ar}(r:RQ [] v)(peer q p:Int)(x:an):RQ [] (ta v peer q p x):=(mq _).dD (vd (uU r _ _) _ _) _ _
theorem IK{v:ar}(h:KI v)(peer q p:Int)(x:an):KI (ta v peer q p x):=by
 have:=xU (xM h (sg v peer) (rG (fJ v peer) q)) peer (gU 5 q);unfold KI at this ⊢;unfold ta;rw[xu (mD _)];exact this
theorem HS{K:Nat}{v:ar}(g:GI K v)(hK:K+1≤1000){peer:Int}(hu:rO v.aq peer=true)(q p:Int)(x:an):GI (K+1) (ta v peer q p x):=by
 obtain⟨k,hk,ek,_⟩:=pM hu;have g1:=g.fin hk q;have e:dU v (sg v peer) (rG (fJ v peer) q)=dU v k (rG v.aq[k] q):=by rw[ib hk ek,sg,ek];rfl
 unfold ta qJ;rw[e];exact(g1.push peer (gU 5 q) ⟨Aaj _,Aaj _⟩).res (by omega) _ p x
theorem tA{v:ar}{peer q st:Int}(h:¬fN v peer q st<0):bB (fN v peer q st) v.entities.length=true∧(aD v (fN v peer q st)).kind=2∧(aD v (fN v peer q st)).state=st:=by
 unfold fN at h ⊢;split at h
 ·rename_i hh;rw[if_pos hh];exact⟨hh.1,hh.2.1,hh.2.2.1⟩
 ·omega
theorem FX{K:Nat}{v:ar}(g:GI K v)(hK:K+1≤1000)(peer:Int)(m:ah):GI (K+1) (nJ v peer m)∧(RQ [] v→RQ [] (nJ v peer m))∧(KI v→KI (nJ v peer m)):=by
 unfold nJ;split
 ·rename_i h;exact⟨HS g hK h.2.2.1 _ _ _,fun r=>IP r _ _ _ _,fun k=>IK k _ _ _ _⟩
 ·exact⟨g.mono (by omega),id,id⟩
theorem Gr{K:Nat}{v:ar}(g:GI K v)(hK:K+1≤1000)(peer:Int)(m:ah):GI (K+1) (ng v peer m)∧(RQ [] v→RQ [] (ng v peer m))∧(KI v→KI (ng v peer m)):=by
 unfold ng;split
 ·rename_i h;have F:=nG v peer m.value;have Kk:=yw v peer m.value;obtain⟨p,hp⟩:∃p,p=fN v peer m.question 3:=⟨_,rfl⟩
  obtain⟨p1,p2,p3⟩:=tA h.2.2.2;rw[←hp]at p1 p2 p3 ⊢;obtain⟨w,hw⟩:∃w,w=(gm v peer m.value).1:=⟨_,rfl⟩
  obtain⟨x,hx⟩:∃x,x=(gm v peer m.value).2:=⟨_,rfl⟩
  rw[←hw]at F Kk ⊢;rw[←hx];have gw:=g.fr F;have p1':=oC p1 Kk.len;obtain⟨e1,e2,e3⟩:=Kk.ent p p1;split
  ·have vi:=gZ gw.vi p;refine⟨(gw.cT p1' (uB (aD w p) x) rfl vi).push peer (gU 3 m.question) ⟨Aaj _,Aaj _⟩,fun r=>vd (RQ.set (e:=uB (aD w p) x) p1' (Kk.rq _ r) (fun _=>Aai _) (.inr (.inr fun _=>⟨by rw[e1];exact p2,.inl (by rw[e2];exact p3)⟩))) _ _,fun k=>xU ?_ _ _⟩
   ·have:=Kk.ki k;unfold KI at this ⊢;rw[kt _ _ (uB _ _) rfl];exact this
  ·exact⟨HS gw hK (by rw[F.aq];exact h.2.2.1) _ _ _,fun r=>IP (Kk.rq _ r) _ _ _ _,fun k=>IK (Kk.ki k) _ _ _ _⟩
 ·exact⟨g.mono (by omega),id,id⟩
theorem KK{v:ar}{x:aA}(hl:v.entities.length<200):aD (dv v x) (v.entities.length:Int)=x∧bB (v.entities.length:Int) (dv v x).entities.length=true:=by
 unfold dv;rw[if_neg (by omega)];constructor
 ·simp[aD,Aae]
 ·simp only[bB,Aap,List.length_cons,List.length_nil,Aag,decide_eq_true_eq];omega
theorem RQ.fresh{v:ar}(r:RQ [] v){x:aA}(hx:x.queue=[])(ha:¬IB x)(hl:v.entities.length<200){s:aK}(hs:s.result=(v.entities.length:Int)):RQ [s] (dv v x):=by
 have r':=r.add hx;obtain⟨n1,n2⟩:=KK (x:=x) hl;have c0:BW (dv v x) (v.entities.length:Int)=0:=by
  have e1:BW (dv v x) (v.entities.length:Int)=BW v (v.entities.length:Int):=by
   unfold dv;split
   ·rfl
   ·simp[BW,Dx,hx,Bt]
  rw[e1];rcases Nat.eq_zero_or_pos (BW v (v.entities.length:Int))with h|h
  ·exact h
  ·have h2:0<Bt [] (v.entities.length:Int)+BW v (v.entities.length:Int):=by rw[yA];omega
   have:=(r.ok _ h2).1;simp only[bB,Aag,decide_eq_true_eq]at this;omega
 refine⟨fun y=>?_,fun y hy=>?_⟩
 ·have:=r'.one y;rw[lW,yA];rw[yA]at this;split
  ·rename_i h;rw[←h,hs,c0];omega
  ·omega
 ·by_cases h:s.result=y
  ·rw[←h,hs,n1];exact⟨n2,ha⟩
  ·rw[lW,if_neg h]at hy;exact r'.ok y hy
theorem Cr{K:Nat}{v:ar}(g:GI K v)(hK:K+10≤100)(peer:Int)(m:ah)(hm:m.args.length≤4)(hn:m.name.size≤100):GI (K+10) (km v peer m)∧(RQ [] v→RQ [] (km v peer m))∧(KI v→KI (km v peer m)):=by
 unfold km;split
 ·rename_i h;split
  ·exact⟨(g.push peer (od m.question ⟨3,0⟩) ⟨Aaj _,Aaj _⟩).mono (by omega),fun r=>vd r _ _,fun k=>xU k _ _⟩
  ·rename_i hf;have hl:v.entities.length<200:=Nat.lt_of_not_le fun h'=>hf (.inr h');obtain⟨k,hk,ek,_⟩:=pM h.2.2.1;obtain⟨ck1,ck2,ck3,ck4⟩:=G2 g hK hl peer m.question (v.entities.length:Int) hk;have eW:nz v peer m=dU (dv v (ny peer m.question)) k (vI v.aq[k] m.question (v.entities.length:Int)):=by rw[nz,ib hk ek,sg,ek];rfl
   rw[←eW]at ck1 ck2 ck3 ck4;obtain⟨kp,F,lx⟩:=wh peer m.args (nz v peer m);have hs:(vy v peer m).ok 100:=⟨hn,by show(lZ (nz v peer m) peer m.args).2.length≤100;omega⟩
   refine⟨GI.aac (F.vi ck1) (by rw[F.w];exact ck2) (ck3.fr F) (Nat.lt_of_lt_of_le ck4 F.len) hK _ hs (by show(lZ (nz v peer m) peer m.args).2.length≤4;omega),fun r=>?_,fun ki=>?_⟩
   ·have r1:=r.fresh (x:=ny peer m.question) rfl (fun h=>by rcases h.2 with g|g<;>cases g) hl (s:=vy v peer m) rfl;exact mq _ _ _ _ (kp.rq _ (uU r1 _ _))
   ·have k1:=kp.ki (xM (ki.add (x:=ny peer m.question) (.inr (.inl rfl))) _ _);unfold KI at k1 ⊢;rw[mD];exact k1
 ·exact⟨g.mono (by omega),id,id⟩
theorem Fi{K:Nat}{v:ar}(g:GI K v)(r:RQ [] v)(peer:Int)(m:ah)(hl:v.entities.length<200):RQ [vy v peer m] (lZ (nz v peer m) peer m.args).1:=
 (wh peer m.args (nz v peer m)).1.rq _ (uU (r.fresh (x:=ny peer m.question) rfl (fun h=>by rcases h.2 with g|g<;>cases g) hl (s:=vy v peer m) rfl) _ _)
theorem PG(β:Bool)(l:List aB)(hl:l.length≤1048576)(id:Int)(h:AH):T pQ Γ Fn.kaj [.vs β 2 false (l.map (aB.c β)),.int .i64 id] h fun v h'=>v=.int .i64 (iw l id)∧h'=h:=by
 have L0:=eY β 2 false l (aB.c β);refine Vf (aC aG mixed [] _ _ _ ?_);unfold NU;simp only[au,Aaa,Aab,Dk,L0];refine fD aG mixed [] (fun x:Nat×List (List AV)=>x.1≤l.length∧∀(i:Nat) (hi:i<l.length),i<x.1→(l[i].id == id)=false) (fun x=>l.length-x.1)
  (fun x=>ET (.int .i64 id) (.vs β 2 false (l.map (aB.c β))) (.int .i64 l.length) (.int .i64 x.1) x.2 h) (0,[]) ⟨by simp,fun i hi h=>by simp at h⟩ ⟨by simp[ET,gW,gM],rfl,rfl⟩ ?_
 rintro⟨k,L⟩ ⟨hk,ht⟩;simp only at hk ht;simp only[au,Aaa,Aab,Dk,ET,L0];refine bz (fun hlt=>?_) (fun hge=>?_)
 ·have hlt:k<l.length:=by simpa using hlt
  have i0:=fI (β:=β) (sz:=2) (ex:=false) (ce:=aB.c β) hlt;cases hp:l[k].id == id
  ·simp only[au,Aaa,Aab,Dk,i0,aB.c,hp];exact⟨(k+1,_),⟨hlt,qK (P:=fun q:aB=>(q.id == id)=false) ht hp⟩,by simp only;omega,⟨by rw[wN (by omega)];simp[ET,gW,gM],rfl,rfl⟩⟩
  ·simp only[au,Aaa,Aab,Dk,i0,aB.c,hp];exact⟨rfl,by simp only[iw,DH (p:=fun q:aB=>q.id == id) hlt ht hp]⟩
 ·have hge:k=l.length:=by simp at hge;omega
  subst hge;simp only[au,Aaa,Aab,Dk];exact⟨rfl,by simp only[iw,zR (p:=fun q:aB=>q.id == id) ht]⟩
def Br:aB:=⟨0,0⟩
theorem filter_all{α:Type}{p:α→Bool}:∀{l:List α},(∀x∈l,p x=true)→l.filter p=l
 | [],_=>rfl
 | x::l,h=>by simp only[Aau,h x (by simp),if_true];rw[filter_all fun y hy=>h y (List.mem_cons_of_mem _ hy)]
theorem sZ(l:List aB):(l.map aB.cd).flatten.all CD.flat=true:=by
 rw[List.all_flatten,List.all_eq_true];intro y hy;obtain⟨x,_,rfl⟩:=AaB.1 hy;rfl
theorem tn(l:List aB):(l.map (aB.c false)).flatten=(l.map aB.cd).flatten.map (CD.av false):=yx (fun x=>(aB.bO false x).symm) l
theorem OY(β:Bool)(x:aB)(vat:Int)(H:AH){p:AV}(hp:Ptr H p [.int .i64 vat]):T pQ Γ Fn.Uj [.agg (x.c β),p] H fun v h'=>v=.bool (vK vat x)∧h'=H:=by
 refine W5 (aC aG mixed [] _ _ _ ?_);unfold P2;have hc:∀(e:List AV) (l:List (List AV)),(St.mk e l H).cells p 1=some [.int .i64 vat]:=fun e l=>hp.rd0 e l 0 (by simp);simp only[au,Aaa,Aab,NF,aB.c,hc];first|exact⟨rfl,rfl⟩|rfl
theorem TM(β:Bool)(l:List aB)(hl:l.length≤1048577)(vat:Int)(H:AH){p:AV}(hp:Ptr H p [.int .i64 vat]):T pQ Γ Fn.kbK [.vs β 2 false (l.map (aB.c β)),.fn Fn.Uj [] [p]] H fun v h'=>v=.int .i64 (iq (vK vat) l)∧h'=H:=
 my (P:=pQ) (Γ:=Γ) aG mixed (sz:=2) (agg:=true) (fun hw=>Rv hw) (β:=β) (l:=l) (c:=aB.c β) (by omega) (fun x=>⟨⟨rfl,.inl rfl⟩,rfl⟩) (g:=Fn.Uj) (first:=[]) (caps:=[p]) (by simp[hp.out]) (vK vat) (h:=H) (fun x hx=>OY β x vat _ hp)
theorem M0(l:List aB)(hl:l.length≤1048577)(vat:Int)(H:AH){a:AV}{fp:List Nat}(o:b9 H a (.sl 2 (l.map aB.cd)) fp)(nd:fp.Nodup){q:Nat}(hq:cF H q=some (0,[.int .i64 vat]))(hqf:q∉fp):
 T pQ Γ Fn.kbx [a,.fn Fn.Uj [] [.gp q 0 0]] H fun v h'=>(h'.length=H.length∧(∀c,c∉fp→h'[c]? = H[c]?)∧b9 h' v (.sl 2 ((nN l vat).map aB.cd)) fp):=by
 obtain⟨ac1,ac2,ac3,ac4⟩:=o.cell;have La:=(dc o).2;rw[Aad]at La;have hp0:Ptr H (.gp q 0 0) [.int .i64 vat]:=Ptr.Ud hq;refine YW (aC aG mixed [] _ _ _ ?_);unfold Ph;simp only[au,Aaa,Aab,yK,ac1,ac2,ac3];refine al.fk (by simp only[EO,ac4]) (aI (b9.fk (aB.bO true) o) (aI (IN (Hq hq)) aZ)) (fun h=>TM true l hl vat h (Ptr.ip h true _)) (.int _ _) ?_;rcases iB (vK vat) l with⟨k,hk,e1,e2,e3⟩|⟨e1,e2,e3⟩
 rotate_left
 ·simp only[au,Aaa,Aab,yK,ac1,ac2,ac3,e1,show((-1:Int) == -1)=true from rfl];refine⟨o.cY,by simp,?_⟩;have:nN l vat=l:=filter_all fun x hx=>by simp[e3 x hx]
  rw[this];exact o
 have hfirst:=Fz e1;rcases o.qZ with⟨rfl,e,rfl⟩|⟨b,g,cap,ex,az,tail,fp',rfl,rfl,hg,hsz,ht,hc,hown⟩
 ·have:l=[]:=by simpa using e
  subst this;simp at hk
 have hfp':fp'=[]:=zF (sZ l) hown;subst hfp';have has:az=(l.map (aB.c false)).flatten:=(yu (sZ l) hown).trans (tn l).symm;subst has;simp only[Aad]at hc La ac1 ac2 ac3 ac4 ⊢;have hqb:q≠b:=fun e=>hqf (by simp[e]);have hkm:((k:Int) == -1)=false:=beq_eq_false_iff_ne.2 (by omega);simp only[au,Aaa,Aab,yK,ac1,ac2,ac3,e1,hkm];have hw1:IntKind.i64.wrap ((k:Int)+1)=((k+1:Nat):Int):=wN (by omega);rw[hw1];have hH0:∀c,c≠b→H[c]? = H[c]?:=fun _ _=>rfl;refine fD aG mixed [] (fun x:Nat×Nat×List aB×AH×List (List AV)=>x.2.1<x.1∧x.1≤l.length∧x.2.2.1.length=l.length∧x.2.2.1.take x.2.1=nN (l.take x.1) vat∧x.2.2.1.drop x.1=l.drop x.1∧x.2.2.2.1.length=H.length∧(∀c,c≠b→x.2.2.2.1[c]? = H[c]?)∧cF x.2.2.2.1 b=some (g,(x.2.2.1.map (aB.c false)).flatten++tail)) (fun x=>l.length-x.1)
  (fun x=>Bg (.gs b g 0 l.length cap 2 ex) (.fn Fn.Uj [] [.gp q 0 0]) (.int .i64 x.2.1) (.int .i64 x.1) x.2.2.2.2 x.2.2.2.1) (k+1,k,l,H,[]) ⟨by simp,by simp only;omega,rfl,?_,rfl,rfl,hH0,hg⟩ ⟨by simp[Bg,gW,gM],rfl,rfl⟩ ?_
 ·simp only;rw[nN,Aac hk,Aaq];have h1:(l.take k).filter (fun g=>!vK vat g)=l.take k:=filter_all fun x hx=>by
   obtain⟨i,hi,rfl⟩:=List.mem_take_iff_getElem.1 hx;simp[hfirst i (by omega) (by omega)]
  have h2:[l[k]].filter (fun g=>!vK vat g)=[]:=by simp[Aau,e2]
  rw[h1,h2,Aaz]
 rintro⟨j,i,m,H',L⟩ ⟨hij,hj,hm,hmt,hmd,hHl,hHf,hHb⟩;simp only at hij hj hm hmt hmd hHl hHf hHb;have La':Ce false (.gs b g 0 l.length cap 2 ex)=some (.int .i64 l.length):=rfl;simp only[au,Aaa,Aab,yK,Bg,La'];refine bz (fun hlt=>?_) (fun hge=>?_)
 ·have hlt:j<l.length:=by simpa using hlt
  have hjm:j<m.length:=by omega
  have him:i<m.length:=by omega
  have i0:fh 2 (.gs b g 0 l.length cap 2 ex) (j:Int)=some (.gp b g (j*2)):=by rw[uW hlt,AaC]
  have i1:fh 2 (.gs b g 0 l.length cap 2 ex) (i:Int)=some (.gp b g (i*2)):=by rw[uW (by omega),AaC]
  have emj:m[j]=l[j]:=by
   have h1:=Aal hjm;have h2:=Aal hlt;rw[hmd,h2]at h1;injection h1 with h1 _;exact h1.symm
  have ld:∀(e:List AV) (L:List (List AV)),(St.mk e L H').cells (.gp b g (j*2)) 2=some (aB.c false l[j]):=fun e L=>by
   rw[b8 hHb,FV (c:=aB.c false) (sz:=2) (fun x=>rfl) hjm tail,emj]
  have hp':Ptr H' (.gp q 0 0) [.int .i64 vat]:=Ptr.Ud (BT hq (hHf q hqb));simp only[au,Aaa,Aab,yK,i0,ld,aB.c];refine al.val (by simp only[EO]) (OY false l[j] vat H' hp') ?_;have htk:nN (l.take (j+1)) vat=nN (l.take j) vat++(if vK vat l[j]=true then []else [l[j]]):=by
   rw[nN,Aac hlt,Aaq];congr 1;by_cases h:vK vat l[j]=true<;>simp[h]
  cases cd:vK vat l[j]
  ·rw[cd]at htk;simp only[Bool.false_eq_true,if_false]at htk;have st:=I4 (c:=aB.c false) (sz:=2) (fun x=>rfl) him l[j] tail rfl hHb;simp only[aB.c]at st;simp only[au,Aaa,Aab,yK,i1,aB.c,st];have hbl:b<H'.length:=eS hHb;have him':i<(m.set i l[j]).length:=by simpa using him
   refine⟨(j+1,i+1,m.set i l[j],_,_),⟨by simp only;omega,hlt,by simpa using hm,?_,?_,by simpa using hHl,fun c hcb=>?_,?_⟩,by simp only;omega,⟨by rw[wN (by omega),wN (by omega)];simp[Bg,gW,gM],rfl,rfl⟩⟩
   ·simp only;rw[htk,Aac him',List.take_set_of_le (Aai _),hmt];simp
   ·simp only;rw[List.drop_set_of_lt (by omega),←Aak,←Aak,hmd]
   ·simp only;rw[Aan (Ne.symm hcb)];exact hHf c hcb
   ·simp[cF,hbl,aB.c]
  ·rw[cd]at htk;simp only[if_true,Aaz]at htk;simp only[au,Aaa,Aab,yK];exact⟨(j+1,i,m,H',_),⟨by simp only;omega,hlt,hm,by simp only;rw[htk];exact hmt,by simp only;rw[←Aak,←Aak,hmd],hHl,hHf,hHb⟩,by simp only;omega,⟨by rw[wN (by omega)];simp[Bg,gW,gM],rfl,rfl⟩⟩
 ·have hge:j=l.length:=by simp at hge;omega
  subst hge;rw[Aav]at hmt;have hcf:=fun S:St=>Dn S (b:=b) (g:=g) (len:=l.length) (cap:=cap) (sz:=2) (ex:=ex) (i:=i) (by omega) hc.1;have hct:=fun S:St=>Hu S (b:=b) (g:=g) (len:=l.length) (cap:=cap) (sz:=2) (ex:=ex) (i:=i) (by omega);have hcl:∀(e:List AV) (L:List (List AV)),Cx ⟨e,L,H'⟩ 2 [.int .i64 0,.int .i64 0] (.gs b g (i*2) (l.length-i) (cap-i) 2 ex)=some ⟨e,L,H'.set b (some (g,((m.take i).map (aB.c false)).flatten++((List.replicate (l.length-i) (aB.c false Br)).flatten++tail)))⟩:=fun e L=>by
   have:=BR (c:=aB.c false) (sz:=2) (fun x=>rfl) (show i≤m.length by omega) Br tail rfl hHb e L;rw[hm]at this;simp only[Cx,if_true];rw[if_neg (by omega)];exact this
  have hbl:b<H'.length:=eS hHb;simp only[au,Aaa,Aab,yK,tC,yk,Qh,hcf,hct,hcl,AR.G5];have hdl:(nN l vat).length=i:=by rw[←hmt,List.length_take,Nat.min_eq_left (by omega)]
  refine⟨rfl,by simpa using hHl,fun c hcn=>?_,?_⟩
  ·have hcb:c≠b:=fun e=>hcn (by simp[e]);rw[Aan (Ne.symm hcb)];exact hHf c hcb
  ·rw[hmt];have hrl:(List.replicate (l.length-i) (aB.c false Br)).flatten.length=(l.length-i)*2:=by
    have:=B3 (xs:=List.replicate (l.length-i) (aB.c false Br)) (sz:=2) (fun y hy=>by rw[(Aar.1 hy).2];rfl);simpa using this
   have:=b9.sl_mk (h:=H'.set b (some (g,((nN l vat).map (aB.c false)).flatten++((List.replicate (l.length-i) (aB.c false Br)).flatten++tail)))) (b:=b) (g:=g) (cap:=cap) (sz:=2) (ex:=ex) (zas:=((nN l vat).map (aB.c false)).flatten) (tail:=(List.replicate (l.length-i) (aB.c false Br)).flatten++tail) (xs:=(nN l vat).map aB.cd) (fp:=[])
    (by simp[cF,hbl]) (fun y hy=>by obtain⟨x,_,rfl⟩:=AaB.1 hy;rfl) (fun x hx=>by
     rcases Aay.1 hx with hx|hx
     ·obtain⟨y,hy,hxy⟩:=List.mem_flatten.1 hx;rw[(Aar.1 hy).2]at hxy;simp[aB.c,Br]at hxy;rw[hxy];exact .i _ _
     ·exact ht x hx) ⟨by rw[Aad,hdl];omega,by rw[Aad,hdl,Aap,hrl];have:=hc.2;omega⟩ (by rw[tn];exact pI false (sZ _))
   rw[Aad,hdl]at this;exact this
theorem PT(β:Bool)(l:List aB)(hl:l.length≤1048576)(vat:Int)(h:AH):T pQ Γ Fn.kab [.vs β 2 false (l.map (aB.c β)),.int .i64 vat] h (aX h [.c (.sl 2 ((nN l vat).map aB.cd))]):=by
 refine T.xC ?_;refine U4 (aC aG mixed [3] _ _ _ ?_);unfold Sn;simp only[au,Aaa,Aab,HJ,xL _ _ (show AaD [AV.int .i64 vat] bM=true from rfl),jH];refine al.ref (by simp only[EO]) (qX β l hl _) ?_;rintro w H1 fr;replace fr:aX (h++[some (0,[.int .i64 vat])]) _ _ _:=fr;obtain⟨fw,ow,nw,bw,ew⟩:=fr.c1;obtain⟨c1,c2,c3,c4⟩:=ow.cell;have hq:cF H1 h.length=some (0,[.int .i64 vat]):=BT (eQ _ _) (ew.fr _ (by simp));have hqf:h.length∉fw:=fun hm=>by have:=bw _ hm;simp at this;omega
 simp only[au,Aaa,Aab,HJ,c1,c2,c3];refine al.ref (by simp only[EO,c4]) (M0 l (by omega) vat _ ow nw hq hqf) ?_;rintro v H2 ⟨hl2,hf2,o2⟩;replace hl2:H2.length=H1.length:=hl2;replace hf2:∀c,c∉fw→H2[c]? = H1[c]?:=hf2;have bw':∀c∈fw,h.length≤c:=fun c hc=>by have:=bw c hc;simp at this;omega
 have ex:=((cQ.app h _).trans ew).mark hl2 hf2 bw';simp only[au,Aaa,Aab,HJ];obtain⟨N,rfl⟩:=ex.out;exact⟨o2.cY,N,fw,rfl,o2,nw,bw'⟩
theorem WB(β β':Bool)(l:aF)(hl:l.ok 1048576)(m:ah)(H:AH){p:AV}(hp:Ptr H p (l.c β)):T pQ Γ Fn.kbm [p,.agg (m.c β')] H fun r h'=>r=.int .i64 (uc l m)∧h'=H:=by
 refine U3 (aC aG mixed [] _ _ _ ?_);unfold PZ;by_cases hz:m.pos=0
 ·simp only[au,Aaa,Aab,Fs,xJ,ye,qW,qO,ah.c,ag,aR hz,hp.nil,hp.fld,hp.rd,aF.lX,Aah,aF.c];refine al.val (by simp only[EO]) (PG β l.answers hl.2.2 m.answer _) ?_;simp only[au,Aaa,Aab,Fs,xJ,ye,qW,qO];exact⟨rfl,by simp only[uc,if_pos hz]⟩
 ·simp only[au,Aaa,Aab,Fs,xJ,ye,qW,qO,ah.c,ag,aW hz,hp.nil,hp.fld,hp.rd0,aF.lX,Aah,aF.c];refine al.val (by simp only[EO]) (QE β l hl.1 m.pos _) ?_;simp only[au,Aaa,Aab,Fs,xJ,ye,qW,qO];exact⟨rfl,by simp only[uc,if_neg hz]⟩
theorem wZ{g:FuncId}{caps:List AV}(hc:caps.all gq=true)(hc2:caps.all mo=true)(p:aB→Bool)(β:Bool)(l:List aB)(hl:l.length≤1048576){h:AH}(hp:∀x∈l,T pQ Γ g ([]++([.agg (x.c β)]++caps)) h fun v h'=>v=.bool (p x)∧h'=h):
 T pQ Γ Fn.kbv [.vs β 2 false (l.map (aB.c β)),.fn g [] caps] h fun v h'=>v=.bool (l.any p)∧h'=h:=by
 have hcall:=my (P:=pQ) (Γ:=Γ) aG mixed (sz:=2) (agg:=true) (fun hw=>Rv hw) (β:=β) (l:=l) (c:=aB.c β) (by omega) (fun x=>⟨⟨rfl,.inl rfl⟩,rfl⟩) (g:=g) (first:=[]) (caps:=caps) hc p (h:=h) hp;refine ZP (aC aG mixed [] _ _ _ ?_);unfold Pz;simp only[au,Aaa,Aab,Kj];refine al.val (by simp only[EO,hc,hc2]) hcall ?_;simp only[au,Aaa,Aab,Kj];rw[show decide (iq p l≥0)=l.any p from EE p l];first|exact⟨rfl,rfl⟩|exact rfl
theorem Vu(β:Bool)(x:aB)(id:Int)(H:AH){p:AV}(hp:Ptr H p [.int .i64 id]):T pQ Γ Fn.kbb [.agg (x.c β),p] H fun v h'=>v=.bool (x.id == id)∧h'=H:=by
 refine VE (aC aG mixed [] _ _ _ ?_);unfold RU;have hc:∀(e:List AV) (l:List (List AV)),(St.mk e l H).cells p 1=some [.int .i64 id]:=fun e l=>hp.rd0 e l 0 (by simp);simp only[au,Aaa,Aab,Sd,aB.c,hc];first|exact⟨rfl,rfl⟩|exact rfl
theorem Mn(β:Bool)(l:List aB)(hl:l.length≤1048576)(id:Int)(h:AH):T pQ Γ Fn.kba [.vs β 2 false (l.map (aB.c β)),.int .i64 id] h fun v h'=>v=.bool (l.any fun q=>q.id == id)∧h'=h:=by
 refine(?_:T pQ Γ Fn.kba _ h fun v h'=>v=.bool (l.any fun q=>q.id == id)∧∃N,h'=h++N).drop (by rintro v h' ⟨rfl,N,rfl⟩;exact⟨N,rfl,.bool _,rfl,rfl⟩);refine WQ (aC aG mixed [3] _ _ _ ?_);unfold OT;simp only[au,Aaa,Aab,JU,xL _ _ (show AaD [AV.int .i64 id] bM=true from rfl),jH];have hq:cF (h++[some (0,[AV.int .i64 id])]) h.length=some (0,[.int .i64 id]):=eQ _ _;refine al.val (by simp only[EO]) (wZ (g:=Fn.kbb) (caps:=[.gp h.length 0 0]) rfl rfl (fun q=>q.id == id) β l hl fun x _=>Vu β x id _ (Ptr.Ud hq)) ?_;simp only[au,Aaa,Aab,JU];first|exact⟨rfl,rfl,_,rfl⟩|exact⟨rfl,_,rfl⟩|exact⟨_,rfl⟩|trace_state
def NL(l:aF):Prop:=(∀x∈l.exports,1≤x.pos∧0≤x.entity)∧∀q∈l.answers,0≤q.promise
theorem NL.Vg{l:aF}(h:NL l)(m:ah):pK l m=if m.pos=0 then !(l.answers.any fun q=>q.id == m.answer)else decide (iq (fun x:aE=>x.pos == m.pos) l.exports<0):=by
 unfold pK;by_cases hp:m.pos=0
 ·rw[if_pos hp,aR hp];have e1:gO l.exports m.pos = -1:=by
   unfold gO;rw[Aas.2 fun x hx=>by
    have:=(h.1 x hx).1;simp only[beq_iff_eq];omega]
  rw[e1];have e2:decide (iw l.answers m.answer<0) = !(l.answers.any fun q=>q.id == m.answer):=by
   unfold iw;cases hf:l.answers.find? fun q=>q.id == m.answer with
   | none=>
    have:(l.answers.any fun q=>q.id == m.answer)=false:=List.any_eq_false.2 fun x hx=>by simpa using Aas.1 hf x hx
    rw[this];rfl
   | some q=>
    have h1:=h.2 q (Aam hf);have:(l.answers.any fun q=>q.id == m.answer)=true:=List.any_eq_true.2 ⟨q,Aam hf,List.find?_some (p:=fun q:aB=>q.id == m.answer) hf⟩;rw[this];exact aW (by simp only;omega)
  rw[e2];rfl
 ·rw[if_neg hp,aW hp];simp only[Bool.not_false,Bool.true_or,Bool.and_true];rcases iB (fun x:aE=>x.pos == m.pos) l.exports with⟨k,hk,e1,e2,e3⟩|⟨e1,e2,e3⟩
  ·have:gO l.exports m.pos=l.exports[k].entity:=by simp only[gO,e3]
   rw[this,e1];have:=(h.1 _ (Aaw hk)).2;rw[aW (by omega),aW (by omega)]
  ·have:gO l.exports m.pos = -1:=by
    simp only[gO,e2]
   rw[this,e1]
theorem kbi_T(β β':Bool)(l:aF)(hl:l.ok 1048576)(hn:NL l)(m:ah)(H:AH){p:AV}(hp:Ptr H p (l.c β)):T pQ Γ Fn.kbi [p,.agg (m.c β')] H fun r h'=>r=.bool (pK l m)∧h'=H:=by
 rw[hn.Vg m];refine Xg (aC aG mixed [] _ _ _ ?_);unfold Sg;by_cases hz:m.pos=0
 ·simp only[au,Aaa,Aab,E8,xI,qV,ah.c,ag,aR hz,hp.nil,hp.fld,hp.rd,aF.lX,Aah,aF.c];refine al.val (by simp only[EO]) (Mn β l.answers hl.2.2 m.answer _) ?_;simp only[au,Aaa,Aab,E8,xI,qV];rw[if_pos hz];first|exact⟨rfl,rfl⟩|exact rfl
 ·simp only[au,Aaa,Aab,E8,xI,qV,ah.c,ag,aW hz,hp.nil,hp.fld,hp.rd0,aF.lX,Aah,aF.c];refine al.val (by simp only[EO,hp.out]) (J8 β l hl.1 m.pos _ hp) ?_;simp only[au,Aaa,Aab,E8,xI,qV];rw[if_neg hz];first|exact⟨rfl,rfl⟩|exact rfl
theorem Qe(β:Bool)(m:ah)(hn:m.name.size≤1048576)(ha:m.args.length≤1048576)(h:AH):T pQ Γ Fn.kbd [.agg (m.c β)] h fun v h'=>v=.bool (decide (m.kind=1) && pX m)∧h'=h:=by
 refine Ye (aC aG mixed [] _ _ _ ?_);unfold NV;by_cases k1:m.kind=1
 ·simp only[au,Aaa,Aab,Ij,cK,qH,ah.c,ae,aR k1];refine al.val (by simp only[EO]) (Ik β m hn ha _) ?_;simp only[au,Aaa,Aab,Ij];first|exact⟨rfl,by simp only[AaA]⟩|(rw[AaA];first|exact⟨rfl,rfl⟩|exact rfl)
 ·simp only[au,Aaa,Aab,Ij,cK,qH,ah.c,ae,aW k1];first|exact⟨rfl,rfl⟩|exact rfl
theorem Zq(n:Int)(h0:0≤n)(h1:n≤999999)(h:AH):T pQ Γ Fn.kaA [.int .i64 n,.int .i64 1000000] h fun v h'=>v=.int .i64 n∧h'=h:=by
 obtain⟨e1,e2,w⟩:=CM h0 h1;refine Zg (aC aG mixed [] _ _ _ ?_);unfold Rf;simp only[au,Aaa,Aab,Lv];refine al.val (by simp only[EO]) (xd _ _ _ _) ?_;simp only[au,Aaa,Aab,Lv,show tZ 1000000 1 1000000000000=true from rfl,e1,w,e2];first|exact⟨rfl,rfl⟩|exact rfl|trivial
theorem V6(n:Int)(h0:0≤n)(h1:n≤999999)(h:AH):T pQ Γ Fn.kal [.int .i64 n] h fun v h'=>v=.agg ((an.mk 0 n).c false)∧h'=h:=by
 refine Zs (aC aG mixed [] _ _ _ ?_);unfold SS;simp only[au,Aaa,Aab,LC];refine al.val (by simp only[EO]) (Zq n h0 h1 _) ?_;simp only[au,Aaa,Aab,LC,bC,an.c];first|exact⟨rfl,rfl⟩|exact rfl|trivial
theorem Zk(peer pos:Int)(h:AH):T pQ Γ Fn.kaC [.int .i64 peer,.int .i64 pos] h fun v h'=>v=.agg (pG peer pos)∧h'=h:=by
 refine kaC_e (aC aG mixed [] _ _ _ ?_);unfold PU;simp only[au,Aaa,Aab,Rw,bC];first|exact⟨rfl,rfl⟩|exact rfl|trivial
theorem Gf{v:ar}(hv:v.aq.length≤1048576)(peer:Int){H:AH}{b:Nat}{wE w2 wL w4:AV}{fE f2 fL f4:List Nat}(o:VO H b v wE w2 wL w4 fE f2 fL f4):
 T pQ Γ Fn.kaT [.gp b 0 0,.int .i64 peer] H fun r h'=>((rO v.aq peer=true∧∃k:Nat,∃hk:k<v.aq.length,iq (fun x:aF=>x.peer == peer) v.aq=(k:Int)∧fh 7 wL (k:Int)=some r)∨(rO v.aq peer=false∧r=.nilp))∧h'=H:=by
 refine(A0 v hv peer H o.hb o.own o.nodup).drop ?_;rintro r h' ⟨⟨N,rfl⟩,h⟩;refine⟨N,rfl,?_,h,rfl⟩;rcases h with⟨_,k,hk,_,e⟩|⟨_,rfl⟩
 ·obtain⟨bL,gL,pre,row,post,f0,iL,_,_,_,_,_,bm,_⟩:=o.rU hk;rw[iL]at e;injection e with e
  subst e;exact .gp _ _ _ (o.lt _ (aO.2 (.inr (.inr (.inl bm)))))
 ·exact .nilp
set_option maxHeartbeats 8000000 in
set_option maxRecDepth 100000 in
theorem SZ(v:ar)(hvi:VI v)(hw:wV v≤400000)(peer:Int)(β:Bool)(w:aJ)(H:AH){b:Nat}{f:List Nat}(a:jr H b v f):
 T pQ Γ Fn.kaR [.gp b 0 0,.int .i64 peer,.agg (w.c β)] H fun r H'=>r=.agg (an.c false (gm v peer w).2)∧e9 H b (fun c=>c∈f) H' (gm v peer w).1:=by
 obtain⟨R,hR⟩:∃R,R=gm v peer w:=⟨_,rfl⟩
 rw[←hR];unfold gm at hR;obtain⟨wE,w2,wL,w4,fE,f2,fL,f4,rfl,o⟩:=a;have hE:v.entities.length≤1048576:=by have:=hvi.fH;omega
 have hL:v.aq.length≤1048576:=by have:=hvi.aq;omega
 have hb:=o.hb;have blt:=o.blt;have cb:=VO.Cp hb;obtain⟨a1,a2,a3,a4⟩:=o.oE.cell;obtain⟨b1,b2,b3,b4⟩:=o.o2.cell;obtain⟨c1,c2,c3,c4⟩:=o.oL.cell;obtain⟨d1,d2,d3,d4⟩:=o.o4.cell;obtain⟨_,lE⟩:=dc o.oE;rw[Aad]at lE;have same:e9 H b (fun c=>c∈dh fE f2 fL f4) H v:=e9.refl o.at fun c hc=>hc;have fin:∀x:an,R=(v,x)→cY (AV.agg [.int .i64 x.kind,.int .i64 x.n])=true∧(AV.agg [.int .i64 x.kind,.int .i64 x.n])=.agg [.int .i64 R.2.kind,.int .i64 R.2.n]∧e9 H b (fun c=>c∈dh fE f2 fL f4) H R.1:=fun x e=>by rw[e];exact⟨rfl,rfl,same⟩
 refine kaR_e (aC aG mixed [] _ _ _ ?_);unfold O9;simp only[au,Aaa,Aab,j5,dq,dt,cM,cN,bC,aJ.c,an.c,ae,cb,a1,a2,a3,b1,b2,b3,c1,c2,c3,d1,d2,d3];refine al.val (by simp only[EO]) (LR false w _) ?_;cases hw1:k9 w
 ·simp only[au,Aaa,Aab,j5,dq,dt,cM,cN,bC,aJ.c,an.c,ae];refine al.val (by simp only[EO]) (yy _) ?_;simp only[au,Aaa,Aab,j5,dq,dt,cM,cN,bC,aJ.c,an.c,ae,bd];exact fin ⟨2,0⟩ (by rw[hR,hw1];rfl)
 rw[hw1,if_neg (by simp)]at hR;by_cases k0:w.kind=0
 ·simp only[au,Aaa,Aab,j5,dq,dt,cM,cN,bC,aJ.c,an.c,ae,aR k0];have hn:0≤w.n∧w.n≤999999:=by
   unfold k9 at hw1;rw[if_pos k0]at hw1;simpa[tZ]using hw1
  refine al.val (by simp only[EO]) (V6 w.n hn.1 hn.2 _) ?_;simp only[au,Aaa,Aab,j5,dq,dt,cM,cN,bC,aJ.c,an.c,ae];exact fin ⟨0,w.n⟩ (by rw[hR,if_pos k0])
 rw[if_neg k0]at hR;simp only[au,Aaa,Aab,j5,dq,dt,cM,cN,bC,aJ.c,an.c,ae,aW k0];refine al.ref (by simp only[EO]) (Gf hL peer o) ?_;rintro r h' ⟨hlk,e⟩;replace e:h'=H:=e;subst e;cases hu:rO v.aq peer
 ·rcases hlk with⟨g,_⟩|⟨_,rfl⟩
  ·rw[hu]at g;cases g
  simp only[au,Aaa,Aab,j5,dq,dt,cM,cN,bC,aJ.c,an.c,ae];refine al.val (by simp only[EO]) (yy _) ?_;simp only[au,Aaa,Aab,j5,dq,dt,cM,cN,bC,aJ.c,an.c,ae,bd];exact fin ⟨2,0⟩ (by rw[hR,if_pos hu];split<;>rfl)
 rcases hlk with⟨_,k,hk,ek,ik⟩|⟨g,_⟩
 rotate_left
 ·rw[hu]at g;cases g
 rw[ib hk ek]at hR;obtain⟨bL,gL,pre,row,post,f0,iL,mL,lR,oR,_⟩:=o.rU hk;rw[iL]at ik;injection ik with ik
 subst ik;have snL:ou h' (.agg row) (.agg (v.aq[k].c true)):=aM.fk (aF.bO true _) oR;obtain⟨wX,wQ,wA,fX,fQ,fA,rfl,rfl,oX,oQ,oA⟩:=ck oR;obtain⟨x1,x2,x3,x4⟩:=oX.cell;obtain⟨y1,y2,y3,y4⟩:=oQ.cell;obtain⟨z1,z2,z3,z4⟩:=oA.cell;have rl:∀(e:List AV) (L:List (List AV)),(St.mk e L h').cells (.gp bL gL pre.length) 7=some [.int .i64 v.aq[k].peer,.bool v.aq[k].up,wX,.int .i64 v.aq[k].next,wQ,.int .i64 v.aq[k].asked,wA]:=fun e L=>by rw[mL.sH e L 7 (by simp)];rfl
 have hlok:=hvi.Cu.mono (show wV v+100≤1048576 by omega) _ (Aaw hk);have k3:w.kind=3∨w.kind=1∨w.kind=2:=by
  unfold k9 at hw1;rw[if_neg k0]at hw1;by_cases h:w.kind=1∨w.kind=2
  ·exact .inr h
  ·rw[if_neg h]at hw1;simp only[Aag,decide_eq_true_eq]at hw1;exact .inl hw1.1
 by_cases k2:w.kind=2
 ·rw[if_neg (by omega),hu,if_neg (by simp),if_pos k2]at hR;simp only[au,Aaa,Aab,j5,dq,dt,cM,cN,bC,aJ.c,an.c,ae,cb,a1,a2,a3,b1,b2,b3,c1,c2,c3,d1,d2,d3,aR k2,rl,x1,x2,x3,y1,y2,y3,z1,z2,z3,aF.c];refine al.fk (by simp only[EO,x3,y3,z3]) (aI snL (aI (.same _) aZ)) (fun h=>QE true v.aq[k] hlok.1 w.n h) (.int _ _) ?_;by_cases kx:gO v.aq[k].exports w.n<0
  ·simp only[au,Aaa,Aab,j5,dq,dt,cM,cN,bC,aJ.c,an.c,ae,cb,show decide (gO v.aq[k].exports w.n≥0)=false from aW (by omega)];refine al.val (by simp only[EO]) (yy _) ?_;simp only[au,Aaa,Aab,j5,dq,dt,cM,cN,bC,aJ.c,an.c,ae,bd];exact fin ⟨2,0⟩ (by rw[hR,if_pos kx];rfl)
  rw[if_neg kx]at hR;simp only[au,Aaa,Aab,j5,dq,dt,cM,cN,bC,aJ.c,an.c,ae,cb,show decide (gO v.aq[k].exports w.n≥0)=true from aR (by omega)];refine al.val (by simp only[EO]) (BS _ _) ?_;simp only[au,Aaa,Aab,j5,dq,dt,cM,cN,bC,aJ.c,an.c,ae,cb];refine al.fk (by simp only[EO]) (aI (tr o) (aI (.same _) aZ)) (fun h=>F4 true v hE ⟨1,gO v.aq[k].exports w.n⟩ h (Ptr.ip h true _)) (.agg _ (by intro z hz;simp only[an.c,List.mem_cons,List.not_mem_nil,or_false]at hz;rcases hz with rfl|rfl<;>exact .int _ _)) ?_;simp only[au,Aaa,Aab,j5,dq,dt,cM,cN,bC,aJ.c,an.c,ae,cb];exact fin _ hR
 by_cases k1:w.kind=1;rotate_left
 ·simp only[au,Aaa,Aab,j5,dq,dt,cM,cN,bC,aJ.c,an.c,ae,cb,aW k2,aW k1];refine al.val (by simp only[EO]) (yy _) ?_;simp only[au,Aaa,Aab,j5,dq,dt,cM,cN,bC,aJ.c,an.c,ae,bd];exact fin ⟨2,0⟩ (by rw[hR,if_pos (by omega)];rfl)
 rw[if_neg (by omega),hu,if_neg (by simp),if_neg k2]at hR;simp only[au,Aaa,Aab,j5,dq,dt,cM,cN,bC,aJ.c,an.c,ae,cb,a1,a2,a3,b1,b2,b3,c1,c2,c3,d1,d2,d3,lE,aW k2,aR k1];refine fD aG mixed [] (fun k:Nat=>k≤v.entities.length∧∀(i:Nat) (hi:i<v.entities.length),i<k→jA peer w.n v.entities[i]=false) (fun k=>v.entities.length-k)
  (fun k=>zA (.gp b 0 0) (.int .i64 peer) (.lp ([]:List (List AV)).length 0) (.lp (([]:List (List AV)).length+1) 0) (.int .i64 v.entities.length) (.int .i64 k) (([]:List (List AV))++[[.int .i64 w.kind,.int .i64 w.n],[.int .i64 0,.int .i64 0]]) h') 0 ⟨by omega,fun i hi h=>by omega⟩ ⟨by simp[zA,gW,gM],rfl,rfl⟩ ?_
 rintro j ⟨hj,ht⟩;simp only[au,Aaa,Aab,j5,dq,dt,cM,cN,zA,bC];refine bz (fun hlt=>?_) (fun hge=>?_);rotate_left
 ·have hge:j=v.entities.length:=by simp at hge;omega
  subst hge;have kp:=qU (p:=jA peer w.n) (l:=v.entities) fun i hi=>ht i hi hi;rw[kp,if_pos (by omega)]at hR;simp only[au,Aaa,Aab,j5,dq,dt,cM,cN,bC];refine al.val (by simp only[EO]) (Zk _ _ _) ?_;simp only[au,Aaa,Aab,j5,dq,dt,cM,cN,bC];refine al.ref (by simp only[EO,pG]) (XR v (lC peer w.n) h' o.at (wu h' peer w.n) List.nodup_nil (fun c hc=>by cases hc)) ?_;rintro _ H1 ⟨rfl,u⟩;replace u:e9 h' b (fun c=>c∈dh fE f2 fL f4∨c∈[]) H1 _:=u;have fin2:∀x:an,R=(dv v (lC peer w.n),x)→cY (AV.agg [.int .i64 x.kind,.int .i64 x.n])=true∧(AV.agg [.int .i64 x.kind,.int .i64 x.n])=.agg [.int .i64 R.2.kind,.int .i64 R.2.n]∧e9 h' b (fun c=>c∈dh fE f2 fL f4) H1 R.1:=fun x e=>by rw[e];exact⟨rfl,rfl,u.mono fun c hc=>hc.elim id fun h=>by cases h⟩
  by_cases ka:k8 v<0
  ·simp only[au,Aaa,Aab,j5,dq,dt,cM,cN,bC,show decide (k8 v≥0)=false from aW (by omega)];refine al.val (by simp only[EO]) (yy _) ?_;simp only[au,Aaa,Aab,j5,dq,dt,cM,cN,bC,an.c,bd];exact fin2 ⟨2,0⟩ (by rw[hR,if_pos ka];rfl)
  simp only[au,Aaa,Aab,j5,dq,dt,cM,cN,bC,show decide (k8 v≥0)=true from aR (by omega)];refine al.val (by simp only[EO]) (BS _ _) ?_;simp only[au,Aaa,Aab,j5,dq,dt,cM,cN,bC,an.c];exact fin2 ⟨1,k8 v⟩ (by rw[hR,if_neg ka])
 have hlt:j<v.entities.length:=by simpa using hlt
 obtain⟨bS,gS,preS,rowS,postS,fT,iS,mS,lS,oS2,nfT,sT,bmS,bnS,wr⟩:=o.ph hlt;obtain⟨e,he⟩:∃e,e=v.entities[j]:=⟨_,rfl⟩
 rw[←he]at oS2;obtain⟨wS2,wQ2,wA2,fS2,fQ2,fA2,rfl,rfl,oS3,oQQ,oAA⟩:=c5 oS2;have q0:∀(e':List AV) (L:List (List AV)),(St.mk e' L h').cells (.gp bS gS preS.length) 1=some [.int .i64 e.kind]:=fun e' L=>by rw[mS.sH e' L 1 (by simp)];rfl
 have q0':∀(e':List AV) (L:List (List AV)),(St.mk e' L h').cells (.gp bS gS (preS.length+0)) 1=some [.int .i64 e.kind]:=fun e' L=>q0 e' L;have q8:∀(e':List AV) (L:List (List AV)),(St.mk e' L h').cells (.gp bS gS (preS.length+8)) 1=some [.int .i64 e.peer]:=fun e' L=>mS.cells e' L 8 1 (by simp);have q9:∀(e':List AV) (L:List (List AV)),(St.mk e' L h').cells (.gp bS gS (preS.length+9)) 1=some [.int .i64 e.pos]:=fun e' L=>mS.cells e' L 9 1 (by simp);have q10:∀(e':List AV) (L:List (List AV)),(St.mk e' L h').cells (.gp bS gS (preS.length+10)) 1=some [.int .i64 e.count]:=fun e' L=>mS.cells e' L 10 1 (by simp);have nxt:jA peer w.n e=false→∀(i:Nat) (hi:i<v.entities.length),i<j+1→jA peer w.n v.entities[i]=false:=fun hp i hi hik=>by
  rcases Nat.lt_or_ge i j with g|g
  ·exact ht i hi g
  ·have:i=j:=by omega
   subst this;rw[←he];exact hp
 by_cases t1:e.kind=3;rotate_left
 ·simp only[au,Aaa,Aab,j5,dq,dt,cM,cN,bC,ae,cb,a1,a2,a3,iS,q0,q0',q8,q9,aW t1];exact⟨j+1,⟨hlt,nxt (by simp[jA,t1])⟩,by omega,⟨by rw[wN (by omega)];simp[zA,gW,gM],rfl,rfl⟩⟩
 by_cases t2:e.peer=peer;rotate_left
 ·simp only[au,Aaa,Aab,j5,dq,dt,cM,cN,bC,ae,cb,a1,a2,a3,iS,q0,q0',q8,q9,aR t1,aW t2];exact⟨j+1,⟨hlt,nxt (by simp[jA,t2])⟩,by omega,⟨by rw[wN (by omega)];simp[zA,gW,gM],rfl,rfl⟩⟩
 by_cases t3:e.pos=w.n;rotate_left
 ·simp only[au,Aaa,Aab,j5,dq,dt,cM,cN,bC,ae,cb,a1,a2,a3,iS,q0,q0',q8,q9,aR t1,aR t2,aW t3];exact⟨j+1,⟨hlt,nxt (by simp[jA,t3])⟩,by omega,⟨by rw[wN (by omega)];simp[zA,gW,gM],rfl,rfl⟩⟩
 have kp:=wU (p:=jA peer w.n) hlt ht (by rw[←he];simp[jA,t1,t2,t3]);rw[kp,if_neg (by omega),Aat]at hR;have eA:aD v (j:Int)=e:=by rw[he,aD,Aat,Aae,List.getElem?_eq_getElem hlt];rfl
 rw[eA]at hR;obtain⟨H2,s2,m2,l2,r2⟩:=mS.put 10 [.int .i64 (IntKind.i64.wrap (e.count+1))] (by simp) rfl;have own2:aM H2 _ (cP e).cd (fS2++(fQ2++fA2)):=jo (e:=cP e) (oS3.frame fun c hc=>r2 c (fun e=>bnS (e▸(by simp[hc])))) (oQQ.frame fun c hc=>r2 c (fun e=>bnS (e▸(by simp[hc])))) (oAA.frame fun c hc=>r2 c (fun e=>bnS (e▸(by simp[hc]))));obtain⟨fE2,o2,me2⟩:=wr H2 _ (cP e) (fS2++(fQ2++fA2)) [] (by omega) (fun c hc=>by cases hc) m2 own2 nfT (fun c hc=>.inl hc) (fun c _ _ _ h=>r2 c h);simp only[au,Aaa,Aab,j5,dq,dt,cM,cN,bC,ae,cb,a1,a2,a3,iS,q0,q0',q8,q9,q10,s2,aR t1,aR t2,aR t3];refine al.val (by simp only[EO]) (BS _ _) ?_;simp only[au,Aaa,Aab,j5,dq,dt,cM,cN,bC,an.c];have fin2:e9 h' b (fun c=>c∈dh fE f2 fL f4) H2 R.1:=by
  rw[hR];exact o2.up (by omega) (fun c hc=>by
   rcases aO.1 hc with g|g|g|g
   ·rcases me2 c g with q|q
    ·exact .inl (aO.2 (.inl q.1))
    ·exact .inl (aO.2 (.inl (sT c q)))
   ·exact .inl (aO.2 (.inr (.inl g)))
   ·exact .inl (aO.2 (.inr (.inr (.inl g))))
   ·exact .inl (aO.2 (.inr (.inr (.inr g))))) (fun c h1 h2 h3=>r2 c (fun e=>h1 (aO.2 (.inl (e▸bmS)))))
 have e2:R.2=⟨1,(j:Int)⟩:=by rw[hR]
 rw[e2];first|exact⟨rfl,rfl,fin2⟩|exact⟨rfl,fin2⟩|exact fin2
set_option maxHeartbeats 4000000 in
theorem UH(v:ar)(hvi:VI v)(hw:wV v≤400000)(peer:Int)(β:Bool)(l:List aJ)(hl:l.length≤1048576)(H:AH){b:Nat}{f:List Nat}(a:jr H b v f):
 T pQ Γ Fn.kaS [.gp b 0 0,.int .i64 peer,.vs β 2 false (l.map (aJ.c β))] H fun r H'=>∃(v':ar) (xs:List an) (fx f':List Nat),(v',xs)=lZ v peer l∧Fr v v'∧b9 H' r (.sl 2 (xs.map an.cd)) fx∧fx.Nodup∧xs.length=l.length∧jr H' b v' f'∧H.length≤H'.length∧(∀c∈f',c∈f∨H.length≤c)∧(∀c∈fx,H.length≤c∧c∉f')∧∀c,c∉f→c≠b→c<H.length→H'[c]? = H[c]?:=by
 have L0:=eY β 2 false l (aJ.c β);obtain⟨q1,q2,q3,q4⟩:=a.lt;refine Wq (aC aG mixed [] _ _ _ ?_);unfold PA;simp only[au,Aaa,Aab,DA,EA,L0];refine fD aG mixed [] (fun x:Nat×AV×AH×List Nat×List Nat×ar×List an×List (List AV)=>x.1≤l.length∧(x.2.2.2.2.2.1,x.2.2.2.2.2.2.1)=lZ v peer (l.take x.1)∧x.2.2.2.2.2.2.1.length=x.1∧jr x.2.2.1 b x.2.2.2.2.2.1 x.2.2.2.1∧Fr v x.2.2.2.2.2.1∧b9 x.2.2.1 x.2.1 (.sl 2 (x.2.2.2.2.2.2.1.map an.cd)) x.2.2.2.2.1∧x.2.2.2.2.1.Nodup∧H.length≤x.2.2.1.length∧(∀c∈x.2.2.2.1,c∈f∨H.length≤c)∧(∀c∈x.2.2.2.2.1,H.length≤c∧c∉x.2.2.2.1)∧(∀c,c∉f→c≠b→c<H.length→x.2.2.1[c]? = H[c]?)) (fun x=>l.length-x.1)
  (fun x=>Ef (.gp b 0 0) (.int .i64 peer) x.2.1 (.vs β 2 false (l.map (aJ.c β))) (.int .i64 l.length) (.int .i64 x.1) x.2.2.2.2.2.2.2 x.2.2.1) (0,.gs H.length 0 0 0 0 2 true,H++[some (0,[])],f,[H.length],v,[],[])
  ⟨by simp,rfl,rfl,a.frame fun c hc=>Aaf (by rcases hc with g|g;exact q1 c g;rw[g];exact q2),.refl v,gn H 2,by simp,by simp,fun c hc=>.inl hc,fun c hc=>by rw[Aao.1 hc];exact⟨Aai _,fun g=>by have:=q1 _ g;omega⟩,fun c _ _ h=>Aaf h⟩ ⟨by simp[Ef,gW,gM],rfl,rfl⟩ ?_
 rintro⟨k,w,H1,f1,fw,v1,xs,M⟩ ⟨hk,hX,hx,ha,hF,ho,nd,hl1,m1,mw,r1⟩;simp only at hk hX hx ha hF ho nd hl1 m1 mw r1;simp only[au,Aaa,Aab,DA,Ef,L0];refine bz (fun hlt=>?_) (fun hge=>?_);rotate_left
 ·have hge:k=l.length:=by simp at hge;omega
  subst hge;obtain⟨ca,cb,cc,cd⟩:=ho.cell;simp only[au,Aaa,Aab,DA,ca,cb,cc];rw[Aav]at hX;exact⟨ho.cY,v1,xs,fw,f1,hX,hF,ho,nd,hx,ha,hl1,m1,mw,r1⟩
 have hlt:k<l.length:=by simpa using hlt
 have i0:=fI (β:=β) (sz:=2) (ex:=false) (ce:=aJ.c β) hlt;obtain⟨x,hxx⟩:∃x,x=l[k]:=⟨_,rfl⟩
 rw[←hxx]at i0;obtain⟨ca,cb,cc,cd⟩:=ho.cell;simp only[au,Aaa,Aab,DA,i0,aJ.c,ca,cb,cc];have ct:=SZ (Γ:=Γ) v1 (hF.vi hvi) (by rw[hF.w];exact hw) peer β x H1 ha;have F2:=nG v1 peer x;have hS:=Av v peer (l.take k) x;rw[←hX]at hS;unfold oZ at hS;simp only at hS;obtain⟨v2,hv2⟩:∃v2,v2=(gm v1 peer x).1:=⟨_,rfl⟩
 obtain⟨y,hy⟩:∃y,y=(gm v1 peer x).2:=⟨_,rfl⟩
 rw[←hv2,←hy]at ct hS;rw[←hv2]at F2;refine al.ref (by simp only[EO]) ct ?_;rintro r H2 ⟨rfl,f2,a2,l2,m2,r2⟩;replace l2:H1.length≤H2.length:=l2;replace a2:jr H2 b v2 f2:=a2;replace m2:∀c∈f2,c∈f1∨H1.length≤c:=m2;replace r2:∀c,c∉f1→c≠b→c<H1.length→H2[c]? = H1[c]?:=r2;obtain⟨p1,p2,p3,p4⟩:=a2.lt;have o2:b9 H2 w (.sl 2 (xs.map an.cd)) fw:=ho.frame fun c hc=>r2 c (mw c hc).2 (fun e=>by have:=(mw c hc).1;omega) (ho.lt c hc);obtain⟨v',H',fp',ea,o',nd',hf',hl',hm'⟩:=df (bytes:=16) o2 (ys:=[.int .i64 y.kind,.int .i64 y.n]) (row:=[.i .i64 y.kind,.i .i64 y.n]) (f2:=[]) (by simpa using nd) (by omega) rfl (.i (.i .nil)) (by simp only[Aad,aU];omega);simp only[au,Aaa,Aab,DA,EA,an.c,ca,cb,cc,ea];have old:∀c∈fw,c∉f2∧c≠b:=fun c hw=>by
  refine⟨fun h=>?_,fun e=>by have:=(mw c hw).1;omega⟩;rcases m2 c h with q|q
  ·exact(mw c hw).2 q
  ·have:=ho.lt c hw;omega
 refine⟨(k+1,v',H',f2,fp',v2,xs++[y],_),⟨hlt,by simp only;rw[Aac hlt,←hxx];exact hS.symm,by simp[hx],a2.frame fun c hc=>hf' c (fun hw=>by rcases hc with g|g;exact(old c hw).1 g;exact(old c hw).2 g) (by rcases hc with g|g;exact p1 c g;rw[g];exact p2),hF.trans F2,by simp only;rw[Aax];exact o',nd',by simp only;omega,fun c hc=>?_,fun c hc=>?_,fun c h1 h2 h3=>?_⟩,by simp only;omega,⟨by rw[wN (by omega)];simp[Ef,gW,gM],rfl,rfl⟩⟩
 ·rcases m2 c hc with g|g
  ·exact m1 c g
  ·exact .inr (by omega)
 ·rcases hm' c hc with g|g|g
  ·exact⟨(mw c g).1,fun h=>(old c g).1 h⟩
  ·simp at g
  ·exact⟨by omega,fun h=>by have:=p1 c h;omega⟩
 ·simp only;rw[hf' c (fun g=>by have:=(mw c g).1;omega) (by omega),r2 c (fun g=>by rcases m1 c g with q|q;exact h1 q;omega) h2 (by omega),r1 c h1 h2 h3]
end Go.Proofs.YtolciaflplefcaaGreat
