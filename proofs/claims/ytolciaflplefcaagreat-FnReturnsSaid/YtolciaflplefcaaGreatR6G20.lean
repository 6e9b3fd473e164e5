import Derived.Test.YtolciaflplefcaaGreatR6G19
import Derived.Test.YtolciaflplefcaaGreatAmG10
import Derived.Test.YtolciaflplefcaaGreatR6G12
import Derived.Test.YtolciaflplefcaaGreatAmG9
import Derived.Test.YtolciaflplefcaaGreatR6G14
import Derived.Test.YtolciaflplefcaaGreatR6G18
set_option linter.unusedVariables false
set_option linter.unusedSimpArgs false
open Go.Proofs.Tryz renaming prog→pQ
open Nat renaming reduceAdd→Aaa,reduceBEq→Aab,zero_le→Aac,add_zero→Aay,le_refl→Aaz
open Bool renaming and_assoc→Aad,and_false→Aaf,false_and→Aag,not_false→Aah,and_true→Aai,true_and→Aaj,or_false→Aak,false_or→Aal,not_true→Aam,or_true→Aao,true_or→Aap
open List renaming nodup_append→Aae,length_map→Aan,all_cons→Aaq,length_nil→Aar,all_nil→Aas,nodup_nil→Aat,length_append→Aau,length_cons→Aav,getElem_map→Aaw,getElem_mem→Aax
namespace Go.Proofs.YtolciaflplefcaaGreat
open Go.AM
variable {Γ:bG}
def cS(m:ah)(w:AV):List AV:=[.int .i64 m.kind,.int .i64 m.pos,.int .i64 m.answer,.int .i64 m.question,.str m.name,w,.int .i64 m.value.kind,.int .i64 m.value.n,.int .i64 m.count,.int .i64 m.tag.vat,.int .i64 m.tag.entity,.int .i64 m.tag.seq]
theorem xO{H:AH}{m:ah}{w:AV}{fp:List Nat}(o:b9 H w (.sl 2 (m.args.map aJ.cd)) fp):aM H (cS m w) m.cd fp:=by
 have e:fp=fp++[]:=by simp
 rw[e];exact .i (.i (.i (.i (.s (.o o (.i (.i (.i (.i (.i (.i .nil)))))))))))
def I1(H:AH)(b:Nat)(bs:List Int)(row:List AV)(h':AH):Prop:=∃(m:ah) (w:AV) (fp:List Nat),row=cS m w∧b9 h' w (.sl 2 (m.args.map aJ.cd)) fp∧fp.Nodup∧(∀c∈fp,H.length≤c)∧m.args.length≤3∧m.name.size≤100∧aP H h' b bs
theorem B9(H:AH){b:Nat}{bs:List Int}(hb:bs.length≤1073741824)(hc:w9 H b bs):T pQ Γ Fn.kcv [.gp b 0 0] H fun v h'=>∃y:aJ,v=.agg [.int .i64 y.kind,.int .i64 y.n]∧aP H h' b bs:=by
 refine Vv (aC aG mixed [] _ _ _ ?_);unfold Ry;simp only[au,Aaa,Aab,yg];refine al.ref (by simp only[EO]) (bt _ hb hc _) ?_;rintro _ H1 ⟨x,rfl,x0,x1,d1⟩;replace d1:aP H H1 b bs:=d1;by_cases k0:x=0
 ·simp only[au,Aaa,Aab,yg,cK,ae,aR k0];refine al.ref (by simp only[EO]) (bt _ hb d1.cur _) ?_;rintro _ H2 ⟨y,rfl,y0,y1,d2⟩;replace d2:aP H1 H2 b bs:=d2;simp only[au,Aaa,Aab,yg,cK];first|exact⟨rfl,⟨1,IntKind.i64.wrap (1+y)⟩,rfl,d1.trans d2⟩|exact⟨⟨1,IntKind.i64.wrap (1+y)⟩,rfl,d1.trans d2⟩
 by_cases k1:x=1
 ·simp only[au,Aaa,Aab,yg,cK,ae,aW k0,aR k1];refine al.ref (by simp only[EO]) (bt _ hb d1.cur _) ?_;rintro _ H2 ⟨y,rfl,y0,y1,d2⟩;replace d2:aP H1 H2 b bs:=d2;simp only[au,Aaa,Aab,yg,cK];first|exact⟨rfl,⟨2,IntKind.i64.wrap (1+y)⟩,rfl,d1.trans d2⟩|exact⟨⟨2,IntKind.i64.wrap (1+y)⟩,rfl,d1.trans d2⟩
 by_cases k2:x=2
 ·simp only[au,Aaa,Aab,yg,cK,ae,aW k0,aW k1,aR k2];first|exact⟨rfl,⟨3,0⟩,rfl,d1⟩|exact⟨⟨3,0⟩,rfl,d1⟩
 simp only[au,Aaa,Aab,yg,cK,ae,aW k0,aW k1,aW k2];refine al.ref (by simp only[EO]) (bt _ hb d1.cur _) ?_;rintro _ H2 ⟨y,rfl,y0,y1,d2⟩;replace d2:aP H1 H2 b bs:=d2;simp only[au,Aaa,Aab,yg,cK];first|exact⟨rfl,⟨0,y⟩,rfl,d1.trans d2⟩|exact⟨⟨0,y⟩,rfl,d1.trans d2⟩
set_option maxHeartbeats 8000000 in
set_option maxRecDepth 100000 in
theorem NC(H:AH){b:Nat}{bs:List Int}(hb:bs.length≤1073741824)(hc:w9 H b bs):T pQ Γ Fn.kct [.gp b 0 0] H fun v h'=>∃row,v=.agg row∧I1 H b bs row h':=by
 have d0:aP H H b bs:=⟨hc,Aaz _,fun _ _ _=>rfl⟩
 have flat:∀(m:ah) (h':AH),m.args=[]→m.name.size≤100→aP H h' b bs→∃row,(AV.agg (cS m .nils))=.agg row∧I1 H b bs row h':=fun m h' e1 e2 d=>⟨_,rfl,m,.nils,[],rfl,by rw[e1];exact .nil _,Aat,(fun c hc=>by cases hc),by rw[e1];exact Aac _,e2,d⟩
 refine Yw (aC aG mixed [] _ _ _ ?_);unfold Ri;simp only[au,Aaa,Aab,kA,eI,cZ,bN,ae,ag];refine al.ref (by simp only[EO]) (bt _ hb d0.cur _) ?_;rintro _ H1 ⟨qq,rfl,_,_,q⟩;replace q:aP H H1 b bs:=q;have d1:=d0.trans q;clear q;simp only[au,Aaa,Aab,kA,eI,cZ,bN,ae,ag];refine al.ref (by simp only[EO]) (bt _ hb d1.cur _) ?_;rintro _ H2 ⟨x,rfl,x0,x1,q⟩;replace q:aP H1 H2 b bs:=q;have d2:=d1.trans q;clear q;by_cases k0:x=0
 ·simp only[au,Aaa,Aab,kA,eI,cZ,bN,ae,ag,aR k0];refine al.ref (by simp only[EO]) (B9 _ hb d2.cur) ?_;rintro _ H3 ⟨y,rfl,q⟩;replace q:aP H2 H3 b bs:=q;have d3:=d2.trans q;clear q;simp only[au,Aaa,Aab,kA,eI,cZ,bN,ae,ag];have fin:=flat ⟨2,0,0,IntKind.i64.wrap (1+qq),⟨#[]⟩,[],y,0,⟨0,0,0⟩⟩ H3 rfl (Aac _) d3;first|exact⟨rfl,fin⟩|exact fin
 by_cases k1:x=1
 ·simp only[au,Aaa,Aab,kA,eI,cZ,bN,ae,ag,aW k0,aR k1];refine al.ref (by simp only[EO]) (bt _ hb d2.cur _) ?_;rintro _ H3 ⟨y,rfl,_,_,q⟩;replace q:aP H2 H3 b bs:=q;have d3:=d2.trans q;clear q;simp only[au,Aaa,Aab,kA,eI,cZ,bN,ae,ag];have fin:=flat ⟨IntKind.i64.wrap (3+y),0,0,IntKind.i64.wrap (1+qq),⟨#[]⟩,[],⟨0,0⟩,0,⟨0,0,0⟩⟩ H3 rfl (Aac _) d3;first|exact⟨rfl,fin⟩|exact fin
 by_cases k2:x=2
 ·simp only[au,Aaa,Aab,kA,eI,cZ,bN,ae,ag,aW k0,aW k1,aR k2];refine al.ref (by simp only[EO]) (bt _ hb d2.cur _) ?_;rintro _ H3 ⟨y,rfl,_,_,q⟩;replace q:aP H2 H3 b bs:=q;have d3:=d2.trans q;clear q;simp only[au,Aaa,Aab,kA,eI,cZ,bN,ae,ag];have fin:=flat ⟨6,IntKind.i64.wrap (1+qq),0,0,⟨#[]⟩,[],⟨0,0⟩,IntKind.i64.wrap (1+y),⟨0,0,0⟩⟩ H3 rfl (Aac _) d3;first|exact⟨rfl,fin⟩|exact fin
 simp only[au,Aaa,Aab,kA,eI,cZ,bN,ae,ag,aW k0,aW k1,aW k2];refine al.ref (by simp only[EO]) (Lm _ hb d2.cur) ?_;rintro _ H3 ⟨nm,rfl,hnm,q⟩;replace q:aP H2 H3 b bs:=q;have d3:=d2.trans q;clear q;simp only[au,Aaa,Aab,kA,eI,cZ,bN,ae,ag];refine al.ref (by simp only[EO]) (bt _ hb d3.cur _) ?_;rintro _ H4 ⟨tv,rfl,_,_,q⟩;replace q:aP H3 H4 b bs:=q;have d4:=d3.trans q;clear q;simp only[au,Aaa,Aab,kA,eI,cZ,bN,ae,ag];refine al.ref (by simp only[EO]) (bt _ hb d4.cur _) ?_;rintro _ H5 ⟨te,rfl,_,_,q⟩;replace q:aP H4 H5 b bs:=q;have d5:=d4.trans q;clear q;simp only[au,Aaa,Aab,kA,eI,cZ,bN,ae,ag];refine al.ref (by simp only[EO]) (bt _ hb d5.cur _) ?_;rintro _ H6 ⟨ts,rfl,_,_,q⟩;replace q:aP H5 H6 b bs:=q;have d6:=d5.trans q;clear q;simp only[au,Aaa,Aab,kA,eI,cZ,bN,ae,ag];refine al.ref (by simp only[EO]) (uv _ hb d6.cur _) ?_;rintro _ H7 ⟨on,rfl,q⟩;replace q:aP H6 H7 b bs:=q;have d7:=d6.trans q;clear q;have LOOP:∀(pos ans:Int) (H8:AH),aP H H8 b bs→True:=fun _ _ _ _=>trivial;cases on
 ·simp only[au,Aaa,Aab,kA,eI,cZ,bN,ae,ag];refine al.ref (by simp only[EO]) (bt _ hb d7.cur _) ?_;rintro _ H8 ⟨pp,rfl,_,_,q⟩;replace q:aP H7 H8 b bs:=q;have d8:=d7.trans q;clear q;simp only[au,Aaa,Aab,kA,eI,cZ,bN,ae,ag];refine al.ref (by simp only[EO]) (bt _ hb d8.cur _) ?_;rintro _ H9 ⟨td,rfl,n0,n1,q⟩;replace q:aP H8 H9 b bs:=q;have d9:=d8.trans q;clear q;replace n1:=n1 (by omega);obtain⟨k0',rfl⟩:∃k0':Nat,td=k0':=⟨td.toNat,by omega⟩
  simp only[au,Aaa,Aab,kA,eI,cZ,bN,ae,ag];refine fD aG mixed [] (fun y:Nat×AV×AH×List Nat×List aJ=>y.1+y.2.2.2.2.length≤3∧b9 y.2.2.1 y.2.1 (.sl 2 (y.2.2.2.2.map aJ.cd)) y.2.2.2.1∧y.2.2.2.1.Nodup∧(∀c∈y.2.2.2.1,H.length≤c)∧aP H y.2.2.1 b bs) (fun y=>y.1)
   (fun y=>yZ (.gp b 0 0) (.lp ([]:List (List AV)).length 0) (.lp (([]:List (List AV)).length+1) 0) (.int .i64 y.1) (LL [.int .i64 0,.int .i64 0,.int .i64 0,.int .i64 0,.str ⟨#[]⟩,.nils,.int .i64 0,.int .i64 0,.int .i64 0,.int .i64 0,.int .i64 0,.int .i64 0] (cS ⟨1,IntKind.i64.wrap (1+pp),0,IntKind.i64.wrap (1+qq),nm,[],⟨0,0⟩,0,⟨IntKind.i64.wrap (1+tv),te,IntKind.i64.wrap (1+ts)⟩⟩ y.2.1) []) y.2.2.1) (k0',.nils,H9,[],[]) ⟨by simp only[Aar];omega,.nil _,Aat,(fun c hc=>by cases hc),d9⟩ ⟨by simp[yZ,gW,gM],rfl,rfl⟩ ?_
  rintro⟨k,w,Hi,fp,args⟩ ⟨hk,ow,nw,bw,di⟩;simp only at hk ow nw bw di;obtain⟨w1,w2,w3,w4⟩:=ow.cell;simp only[au,Aaa,Aab,kA,eI,cZ,bN,ae,ag,yZ,cS];refine bz (fun hgt=>?_) (fun hge=>?_);rotate_left
  ·have st0:∀(e:List AV) (h:AH) (c:List AV),c.length=12→c.all cn=true→(St.mk e (LL [.int .i64 0,.int .i64 0,.int .i64 0,.int .i64 0,.str ⟨#[]⟩,.nils,.int .i64 0,.int .i64 0,.int .i64 0,.int .i64 0,.int .i64 0,.int .i64 0] c []) h).store (.lp (([]:List (List AV)).length) 0) c=some ⟨e,LL c c [],h⟩:=fun e h c hc ha=>by
    have:=BJ (e:=e) (h:=h) (row:=c) (X:=[]) (c0:=[.int .i64 0,.int .i64 0,.int .i64 0,.int .i64 0,.str ⟨#[]⟩,.nils,.int .i64 0,.int .i64 0,.int .i64 0,.int .i64 0,.int .i64 0,.int .i64 0]) (off:=0) (vs:=c) (by simp[hc]) ha;rw[this];congr 2;simp[c8,hc]
   have st0':=fun e h=>st0 e h (cS ⟨1,IntKind.i64.wrap (1+pp),0,IntKind.i64.wrap (1+qq),nm,[],⟨0,0⟩,0,⟨IntKind.i64.wrap (1+tv),te,IntKind.i64.wrap (1+ts)⟩⟩ w) rfl (by simp only[cS,Aaq,Aas,w2];rfl);simp only[cS]at st0';simp only[au,Aaa,Aab,kA,eI,cZ,bN,ae,ag,gj,cg,w1,w2,w3,st0'];have fin:∃row,(AV.agg (cS ⟨1,IntKind.i64.wrap (1+pp),0,IntKind.i64.wrap (1+qq),nm,args,⟨0,0⟩,0,⟨IntKind.i64.wrap (1+tv),te,IntKind.i64.wrap (1+ts)⟩⟩ w))=.agg row∧I1 H b bs row Hi:=⟨_,rfl,_,w,fp,rfl,ow,nw,bw,by show args.length≤3;omega,hnm,di⟩
   first|exact⟨rfl,fin⟩|exact fin|exact⟨by simp only[cY,EO,w3,w4],fin⟩
  have hgt:0<k:=by simp at hgt;omega
  obtain⟨m2,rfl⟩:∃m2,k=m2+1:=⟨k-1,by omega⟩
  simp only[au,Aaa,Aab,kA,eI,cZ,bN,ae,ag,gj,cg,w1,w2,w3];refine al.ref (by simp only[EO]) (B9 _ hb di.cur) ?_;rintro _ Hj ⟨y,rfl,q⟩;replace q:aP Hi Hj b bs:=q;refine⟨gI rfl,?_⟩;have hbi:=di.len;have ow2:b9 Hj w (.sl 2 (args.map aJ.cd)) fp:=q.own ow (fun h=>by have:=bw b h;obtain⟨_,_,_,hg⟩:=hc;have:=eS hg;omega);obtain⟨v',H4',fp',ea,o',nd',hf',hl',hm'⟩:=df (bytes:=16) ow2 (ys:=[.int .i64 y.kind,.int .i64 y.n]) (row:=y.cd) (f2:=[]) (by simpa using nw) (by omega) rfl (.i (.i .nil)) (by simp only[Aan,aU];omega);obtain⟨p1,p2,p3,p4⟩:=o'.cell;have s1:∀(e:List AV) (h:AH),(St.mk e (LL [.int .i64 0,.int .i64 0,.int .i64 0,.int .i64 0,.str ⟨#[]⟩,.nils,.int .i64 0,.int .i64 0,.int .i64 0,.int .i64 0,.int .i64 0,.int .i64 0] (cS ⟨1,IntKind.i64.wrap (1+pp),0,IntKind.i64.wrap (1+qq),nm,[],⟨0,0⟩,0,⟨IntKind.i64.wrap (1+tv),te,IntKind.i64.wrap (1+ts)⟩⟩ w) []) h).store (.lp (([]:List (List AV)).length+1) 5) [v']=some ⟨e,LL [.int .i64 0,.int .i64 0,.int .i64 0,.int .i64 0,.str ⟨#[]⟩,.nils,.int .i64 0,.int .i64 0,.int .i64 0,.int .i64 0,.int .i64 0,.int .i64 0] (cS ⟨1,IntKind.i64.wrap (1+pp),0,IntKind.i64.wrap (1+qq),nm,[],⟨0,0⟩,0,⟨IntKind.i64.wrap (1+tv),te,IntKind.i64.wrap (1+ts)⟩⟩ v') [],h⟩:=fun e h=>Ho (by simp[cS]) (by simp[p2]);simp only[cS]at s1;simp only[au,Aaa,Aab,kA,eI,cZ,bN,ae,ag,gj,cg,w1,w2,w3,ea,p1,p2,p3,s1];have dn:=di.trans q;have hln:=dn.len;have dx:aP H H4' b bs:=⟨by
   obtain⟨i,s,hi,hgt⟩:=dn.cur;exact⟨i,s,hi,by rw[bc (hf' b (fun h=>by have:=bw b h;obtain⟨_,_,_,hg⟩:=hc;have:=eS hg;omega) (eS hgt))];exact hgt⟩,by omega,fun c h1 h2=>by rw[hf' c (fun g=>by have:=bw c g;omega) (by omega),dn.fr c h1 h2]⟩
  exact⟨(m2,v',H4',fp',args++[y]),⟨by simp only[Aau,Aav,Aar]at hk ⊢;omega,by simpa using o',nd',fun c hc=>by
   rcases hm' c hc with g|g|g
   ·exact bw c g
   ·cases g
   ·omega,dx⟩,by simp only;omega,⟨by rw[Jr (by omega)];simp[gW,gM],rfl,rfl⟩⟩
 ·simp only[au,Aaa,Aab,kA,eI,cZ,bN,ae,ag];refine al.ref (by simp only[EO]) (bt _ hb d7.cur _) ?_;rintro _ H8 ⟨pp,rfl,_,_,q⟩;replace q:aP H7 H8 b bs:=q;have d8:=d7.trans q;clear q;simp only[au,Aaa,Aab,kA,eI,cZ,bN,ae,ag];refine al.ref (by simp only[EO]) (bt _ hb d8.cur _) ?_;rintro _ H9 ⟨td,rfl,n0,n1,q⟩;replace q:aP H8 H9 b bs:=q;have d9:=d8.trans q;clear q;replace n1:=n1 (by omega);obtain⟨k0',rfl⟩:∃k0':Nat,td=k0':=⟨td.toNat,by omega⟩
  simp only[au,Aaa,Aab,kA,eI,cZ,bN,ae,ag];refine fD aG mixed [] (fun y:Nat×AV×AH×List Nat×List aJ=>y.1+y.2.2.2.2.length≤3∧b9 y.2.2.1 y.2.1 (.sl 2 (y.2.2.2.2.map aJ.cd)) y.2.2.2.1∧y.2.2.2.1.Nodup∧(∀c∈y.2.2.2.1,H.length≤c)∧aP H y.2.2.1 b bs) (fun y=>y.1)
   (fun y=>yZ (.gp b 0 0) (.lp ([]:List (List AV)).length 0) (.lp (([]:List (List AV)).length+1) 0) (.int .i64 y.1) (LL [.int .i64 0,.int .i64 0,.int .i64 0,.int .i64 0,.str ⟨#[]⟩,.nils,.int .i64 0,.int .i64 0,.int .i64 0,.int .i64 0,.int .i64 0,.int .i64 0] (cS ⟨1,0,IntKind.i64.wrap (1+pp),IntKind.i64.wrap (1+qq),nm,[],⟨0,0⟩,0,⟨IntKind.i64.wrap (1+tv),te,IntKind.i64.wrap (1+ts)⟩⟩ y.2.1) []) y.2.2.1) (k0',.nils,H9,[],[]) ⟨by simp only[Aar];omega,.nil _,Aat,(fun c hc=>by cases hc),d9⟩ ⟨by simp[yZ,gW,gM],rfl,rfl⟩ ?_
  rintro⟨k,w,Hi,fp,args⟩ ⟨hk,ow,nw,bw,di⟩;simp only at hk ow nw bw di;obtain⟨w1,w2,w3,w4⟩:=ow.cell;simp only[au,Aaa,Aab,kA,eI,cZ,bN,ae,ag,yZ,cS];refine bz (fun hgt=>?_) (fun hge=>?_);rotate_left
  ·have st0:∀(e:List AV) (h:AH) (c:List AV),c.length=12→c.all cn=true→(St.mk e (LL [.int .i64 0,.int .i64 0,.int .i64 0,.int .i64 0,.str ⟨#[]⟩,.nils,.int .i64 0,.int .i64 0,.int .i64 0,.int .i64 0,.int .i64 0,.int .i64 0] c []) h).store (.lp (([]:List (List AV)).length) 0) c=some ⟨e,LL c c [],h⟩:=fun e h c hc ha=>by
    have:=BJ (e:=e) (h:=h) (row:=c) (X:=[]) (c0:=[.int .i64 0,.int .i64 0,.int .i64 0,.int .i64 0,.str ⟨#[]⟩,.nils,.int .i64 0,.int .i64 0,.int .i64 0,.int .i64 0,.int .i64 0,.int .i64 0]) (off:=0) (vs:=c) (by simp[hc]) ha;rw[this];congr 2;simp[c8,hc]
   have st0':=fun e h=>st0 e h (cS ⟨1,0,IntKind.i64.wrap (1+pp),IntKind.i64.wrap (1+qq),nm,[],⟨0,0⟩,0,⟨IntKind.i64.wrap (1+tv),te,IntKind.i64.wrap (1+ts)⟩⟩ w) rfl (by simp only[cS,Aaq,Aas,w2];rfl);simp only[cS]at st0';simp only[au,Aaa,Aab,kA,eI,cZ,bN,ae,ag,gj,cg,w1,w2,w3,st0'];have fin:∃row,(AV.agg (cS ⟨1,0,IntKind.i64.wrap (1+pp),IntKind.i64.wrap (1+qq),nm,args,⟨0,0⟩,0,⟨IntKind.i64.wrap (1+tv),te,IntKind.i64.wrap (1+ts)⟩⟩ w))=.agg row∧I1 H b bs row Hi:=⟨_,rfl,_,w,fp,rfl,ow,nw,bw,by show args.length≤3;omega,hnm,di⟩
   first|exact⟨rfl,fin⟩|exact fin|exact⟨by simp only[cY,EO,w3,w4],fin⟩
  have hgt:0<k:=by simp at hgt;omega
  obtain⟨m2,rfl⟩:∃m2,k=m2+1:=⟨k-1,by omega⟩
  simp only[au,Aaa,Aab,kA,eI,cZ,bN,ae,ag,gj,cg,w1,w2,w3];refine al.ref (by simp only[EO]) (B9 _ hb di.cur) ?_;rintro _ Hj ⟨y,rfl,q⟩;replace q:aP Hi Hj b bs:=q;refine⟨gI rfl,?_⟩;have hbi:=di.len;have ow2:b9 Hj w (.sl 2 (args.map aJ.cd)) fp:=q.own ow (fun h=>by have:=bw b h;obtain⟨_,_,_,hg⟩:=hc;have:=eS hg;omega);obtain⟨v',H4',fp',ea,o',nd',hf',hl',hm'⟩:=df (bytes:=16) ow2 (ys:=[.int .i64 y.kind,.int .i64 y.n]) (row:=y.cd) (f2:=[]) (by simpa using nw) (by omega) rfl (.i (.i .nil)) (by simp only[Aan,aU];omega);obtain⟨p1,p2,p3,p4⟩:=o'.cell;have s1:∀(e:List AV) (h:AH),(St.mk e (LL [.int .i64 0,.int .i64 0,.int .i64 0,.int .i64 0,.str ⟨#[]⟩,.nils,.int .i64 0,.int .i64 0,.int .i64 0,.int .i64 0,.int .i64 0,.int .i64 0] (cS ⟨1,0,IntKind.i64.wrap (1+pp),IntKind.i64.wrap (1+qq),nm,[],⟨0,0⟩,0,⟨IntKind.i64.wrap (1+tv),te,IntKind.i64.wrap (1+ts)⟩⟩ w) []) h).store (.lp (([]:List (List AV)).length+1) 5) [v']=some ⟨e,LL [.int .i64 0,.int .i64 0,.int .i64 0,.int .i64 0,.str ⟨#[]⟩,.nils,.int .i64 0,.int .i64 0,.int .i64 0,.int .i64 0,.int .i64 0,.int .i64 0] (cS ⟨1,0,IntKind.i64.wrap (1+pp),IntKind.i64.wrap (1+qq),nm,[],⟨0,0⟩,0,⟨IntKind.i64.wrap (1+tv),te,IntKind.i64.wrap (1+ts)⟩⟩ v') [],h⟩:=fun e h=>Ho (by simp[cS]) (by simp[p2]);simp only[cS]at s1;simp only[au,Aaa,Aab,kA,eI,cZ,bN,ae,ag,gj,cg,w1,w2,w3,ea,p1,p2,p3,s1];have dn:=di.trans q;have hln:=dn.len;have dx:aP H H4' b bs:=⟨by
   obtain⟨i,s,hi,hgt⟩:=dn.cur;exact⟨i,s,hi,by rw[bc (hf' b (fun h=>by have:=bw b h;obtain⟨_,_,_,hg⟩:=hc;have:=eS hg;omega) (eS hgt))];exact hgt⟩,by omega,fun c h1 h2=>by rw[hf' c (fun g=>by have:=bw c g;omega) (by omega),dn.fr c h1 h2]⟩
  exact⟨(m2,v',H4',fp',args++[y]),⟨by simp only[Aau,Aav,Aar]at hk ⊢;omega,by simpa using o',nd',fun c hc=>by
   rcases hm' c hc with g|g|g
   ·exact bw c g
   ·cases g
   ·omega,dx⟩,by simp only;omega,⟨by rw[Jr (by omega)];simp[gW,gM],rfl,rfl⟩⟩
abbrev Cq:List AV:=[.int .i64 0,.int .i64 0,.int .i64 0,.int .i64 0,.str ⟨#[]⟩,.nils,.int .i64 0,.int .i64 0,.int .i64 0,.int .i64 0,.int .i64 0,.int .i64 0]
theorem xX{c vs:List AV}(h:vs.length=c.length):c8 c 0 vs=vs:=by simp[c8,h]
set_option maxHeartbeats 8000000 in
set_option maxRecDepth 100000 in
theorem Sk(H:AH){b:Nat}{bs:List Int}(hb:bs.length≤1073741824)(hc:w9 H b bs)(id:Int)(wE w2 wL w4:AV)(a1:cellsOf wE=some [wE])(a2:cn wE=true)(b1:cellsOf w2=some [w2])(b2:cn w2=true)(c1:cellsOf wL=some [wL])(c2:cn wL=true)(d1:cellsOf w4=some [w4])(d2:cn w4=true):T pQ Γ Fn.kcN [.gp b 0 0,.agg [.int .i64 id,wE,w2,wL,w4]] H fun v h'=>∃fr row,v=.tup [.int .i64 fr,.agg row]∧I1 H b bs row h':=by
 have hbl:b<H.length:=by obtain⟨_,_,_,hg⟩:=hc;exact eS hg
 refine Ya (aC aG mixed [] _ _ _ ?_);unfold RY;simp only[au,Aaa,Aab,yU,p9,lg,bN,ae,ag,Jn,a1,a2,b1,b2,c1,c2,d1,d2];have dA:aP H (H++[some (0,[AV.int .i64 2,.int .i64 3,.int .i64 2,.int .i64 3,.int .i64 4])]) b bs:=.pE hc (cQ.app _ _);refine al.ref (by simp only[EO]) (At _ hb dA.cur (po H [2,3,2,3,4] rfl) (by simp only[List.mem_singleton];omega) (by simp)) ?_;rintro _ H1 ⟨fr,rfl,q⟩;replace q:aP (H++[some (0,_)]) H1 b bs:=q;have e1:=dA.trans q;clear q;simp only[au,Aaa,Aab,yU,p9,lg,bN,ae,ag];refine al.ref (by simp only[EO]) (NC _ hb e1.cur) ?_;rintro _ H2 ⟨_,rfl,m,w,fp,rfl,ow,nw,bw,ha,hn,q⟩;replace q:aP H1 H2 b bs:=q;have e2:=e1.trans q;replace bw:∀c∈fp,H.length≤c:=fun c hc=>Nat.le_trans e1.len (bw c hc);replace ow:b9 H2 w _ fp:=ow;clear q;obtain⟨w1,w2',w3,w4'⟩:=ow.cell;simp only[au,Aaa,Aab,yU,p9,lg,bN,ae,ag,cS,w1,w2',w3];refine fD aG mixed [] (fun y:ah×AV×List Nat×AH=>b9 y.2.2.2 y.2.1 (.sl 2 (y.1.args.map aJ.cd)) y.2.2.1∧y.2.2.1.Nodup∧(∀c∈y.2.2.1,H.length≤c)∧y.1.args.length≤3∧y.1.name.size≤100∧aP H y.2.2.2 b bs) (fun y=>if y.1.kind=1 then 0 else 1)
  (fun y=>GY (.gp b 0 0) (.lp (([]:List (List AV)).length+1) 0) (.int .i64 fr) (.lp (([]:List (List AV)).length+2) 0) (LL [.int .i64 id,wE,w2,wL,w4] Cq []++[cS y.1 y.2.1]) y.2.2.2) (m,w,fp,H2) ⟨ow,nw,bw,ha,hn,e2⟩ ⟨by simp[GY,gW,gM],rfl,rfl⟩ ?_
 clear ow nw bw ha hn w1 w2' w3 w4' e2;clear m w fp;rintro⟨m,w,fp,Hi⟩ ⟨ow,nw,bw,ha,hn,di⟩;simp only at ow nw bw ha hn di;obtain⟨w1,w2',w3,w4'⟩:=ow.cell;have rr:=fun e h off n=>kD (e:=e) (h:=h) (c0:=[.int .i64 id,wE,w2,wL,w4]) (row:=Cq) (X:=[]) (Y:=[]) (cS m w) off n;simp only[cS]at rr;simp only[au,Aaa,Aab,yU,p9,lg,bN,ae,ag,GY,cS,rr];refine bz (fun hne=>?_) (fun heq=>?_);rotate_left
 ·have st1:∀(e:List AV) (h:AH),(St.mk e (LL [.int .i64 id,wE,w2,wL,w4] Cq []++[cS m w]) h).store (.lp (([]:List (List AV)).length+1) 0) (cS m w)=some ⟨e,LL [.int .i64 id,wE,w2,wL,w4] (cS m w) []++[cS m w],h⟩:=fun e h=>by
   rw[Es (by simp[cS]) (by simp only[cS,Aaq,Aas,w2'];rfl),xX (by simp[cS])]
  simp only[cS]at st1;simp only[au,Aaa,Aab,yU,p9,lg,bN,ae,ag,rr,w1,w2',w3,st1,gz];have fin:∃fr' row,(AV.tup [.int .i64 fr,.agg (cS m w)])=.tup [.int .i64 fr',.agg row]∧I1 H b bs row Hi:=⟨_,_,rfl,m,w,fp,rfl,ow,nw,bw,ha,hn,di⟩
  first|exact⟨rfl,fin⟩|exact fin|exact⟨by simp only[cY,EO,w3,w4'],fin⟩|exact⟨by simp only[Aaq,Aas,EO,w3,w4'];rfl,fin⟩|exact⟨by simp only[Aaq,Aas,EO,w3,w4'],fin⟩
 have hk1:m.kind≠1:=by simpa using hne
 simp only[au,Aaa,Aab,yU,p9,lg,bN,ae,ag,rr];refine al.ref (by simp only[EO]) (bt _ hb di.cur _) ?_;rintro _ Hj ⟨x,rfl,_,_,q⟩;replace q:aP Hi Hj b bs:=q;have dj:=di.trans q;clear q;simp only[au,Aaa,Aab,yU,p9,lg,bN,ae,ag,rr];refine al.ref (by simp only[EO]) (Lm _ hb dj.cur) ?_;rintro _ Hk ⟨nm,rfl,hnm,q⟩;replace q:aP Hj Hk b bs:=q;have dk:=dj.trans q;clear q;have st2:∀(e:List AV) (h:AH),(St.mk e (LL [.int .i64 id,wE,w2,wL,w4] Cq []++[cS m w]) h).store (.lp (([]:List (List AV)).length+2) 0) (cS ⟨1,1,0,IntKind.i64.wrap (1+x),nm,[],⟨0,0⟩,0,⟨fr,1,1⟩⟩ .nils)=some ⟨e,LL [.int .i64 id,wE,w2,wL,w4] Cq []++[cS ⟨1,1,0,IntKind.i64.wrap (1+x),nm,[],⟨0,0⟩,0,⟨fr,1,1⟩⟩ .nils],h⟩:=fun e h=>by
  have:=uP (e:=e) (h:=h) (c0:=[.int .i64 id,wE,w2,wL,w4]) (row:=Cq) (X:=[]) (Y:=[]) (z:=cS m w) (off:=0) (vs:=cS ⟨1,1,0,IntKind.i64.wrap (1+x),nm,[],⟨0,0⟩,0,⟨fr,1,1⟩⟩ .nils) (by simp[cS]) rfl;rw[xX (by simp[cS])]at this;exact this
 simp only[cS]at st2;simp only[au,Aaa,Aab,yU,p9,lg,bN,ae,ag,rr,st2];exact⟨(⟨1,1,0,IntKind.i64.wrap (1+x),nm,[],⟨0,0⟩,0,⟨fr,1,1⟩⟩,.nils,[],Hk),⟨.nil _,Aat,(fun c hc=>by cases hc),Aac _,hnm,dk⟩,by simp only[if_neg hk1];decide,⟨by simp[gW,gM],rfl,rfl⟩⟩
theorem vo{H H':AH}{c g off n:Nat}{e:List AV}{L:List (List AV)}(h:H'[c]? = H[c]?):(St.mk e L H').cells (.gp c g off) n=(St.mk e L H).cells (.gp c g off) n:=by
 simp only[St.cells];rw[bc h]
set_option maxHeartbeats 8000000 in
set_option maxRecDepth 100000 in
theorem PW(H:AH){b:Nat}{bs:List Int}(hb:bs.length≤1073741824)(hc:w9 H b bs){v:ar}{wE w2 wL w4:AV}{f:List Nat}(o:aM H [.int .i64 v.id,wE,w2,wL,w4] v.cd f)(nd:f.Nodup)(bf:b∉f)(hl:v.aq.length=2)(hq:∀l∈v.aq,l.questions.length≤1048576):T pQ Γ Fn.kcR [.gp b 0 0,.agg [.int .i64 v.id,wE,w2,wL,w4]] H fun r h'=>∃(peer:Int) (m:ah),r=.tup [.int .i64 peer,.agg (cS m .nils)]∧m.args=[]∧m.name.size≤100∧(m.kind=2∨m.kind=4)∧aP H h' b bs:=by
 have hbl:b<H.length:=by obtain⟨_,_,_,hg⟩:=hc;exact eS hg
 have d0:aP H H b bs:=⟨hc,Aaz _,fun _ _ _=>rfl⟩
 obtain⟨wE',w2',wL',w4',fE,f2,fL,f4,hcell,rfl,oE,o2,oL,o4⟩:=wR o;simp only[List.cons.injEq,true_and,and_true]at hcell;obtain⟨rfl,rfl,rfl,rfl⟩:=hcell;obtain⟨a1,a2,a3,a4⟩:=oE.cell;obtain⟨b1,b2,b3,b4⟩:=o2.cell;obtain⟨c1,c2,c3,c4⟩:=oL.cell;obtain⟨d1,d2,d3,d4⟩:=o4.cell;obtain⟨_,n1,_⟩:=Aae.1 nd;obtain⟨_,n2,_⟩:=Aae.1 n1;obtain⟨nL,_,_⟩:=Aae.1 n2;have lL:=(dc oL).2;rw[Aan,hl]at lL;replace lL:Ce false wL=some (.int .i64 2):=lL;refine Yh (aC aG mixed [] _ _ _ ?_);unfold N4;simp only[au,Aaa,Aab,pF,jj,jl,gg,gb,bN,ae,ag,gj,cg,a1,a2,b1,b2,c1,c2,d1,d2,lL];refine al.ref (by simp only[EO]) (bt _ hb d0.cur _) ?_;rintro _ H1 ⟨i,rfl,i0,i1,q⟩;replace q:aP H H1 b bs:=q;have e1:=d0.trans q;clear q;obtain⟨k,rfl⟩:∃k:Nat,i=k:=⟨i.toNat,by omega⟩
 have hk:k<v.aq.length:=by have:=i1 (by omega);omega
 obtain⟨bR,gR,az,fR,iR,hbR,mR,_,rR,oR,nR,sR,lR⟩:=oL.row nL (k:=k) (by simpa using hk);rw[Aaw]at oR;have hbb:bR≠b:=fun e=>bf (e▸aO.2 (.inr (.inr (.inl mR))));obtain⟨wX,wQ,wA,fX,fQ,fA,rfl,rfl,oX,oQ,oA⟩:=ck oR;obtain⟨y1,y2,y3,y4⟩:=oQ.cell;have lQ:=(dc oQ).2;rw[Aan]at lQ;have sQ:∀c∈fQ,c∈fE++(f2++(fL++f4)):=fun c hc=>aO.2 (.inr (.inr (.inl (sR c (by simp[hc])))));have r4:∀{H':AH} (d:aP H H' b bs) (e:List AV) (L:List (List AV)),(St.mk e L H').cells (.gp bR gR (k*7+4)) 1=some [wQ]:=fun d e L=>by rw[vo (d.fr bR hbR hbb),rR e L 4 1 (by omega)];rfl
 have r0:∀{H':AH} (d:aP H H' b bs) (e:List AV) (L:List (List AV)),(St.mk e L H').cells (.gp bR gR (k*7)) 1=some [.int .i64 v.aq[k].peer]:=fun d e L=>by rw[vo (d.fr bR hbR hbb)];have:=rR e L 0 1 (by omega);rw[Aay]at this;rw[this];rfl
 simp only[au,Aaa,Aab,pF,jj,jl,gg,gb,bN,ae,ag,gj,cg,a1,a2,b1,b2,c1,c2,d1,d2,lL];refine al.ref (by simp only[EO]) (bt _ hb e1.cur _) ?_;rintro _ H2 ⟨qq,rfl,_,_,q⟩;replace q:aP H1 H2 b bs:=q;have e2:=e1.trans q;clear q;have r42:=fun e L=>r4 e2 e L;simp only[au,Aaa,Aab,pF,jj,jl,gg,gb,bN,ae,ag,gj,cg,a1,a2,b1,b2,c1,c2,d1,d2,iR,r42,y1,y2,y3,lQ];have FIN:∀(q0:Int) (Hx:AH) (en:List AV),aP H Hx b bs→True:=fun _ _ _ _=>trivial;by_cases hn:0<(v.aq[k].questions.length:Int)
 ·simp only[au,Aaa,Aab,pF,jj,jl,gg,gb,bN,ae,ag,gj,cg,a1,a2,b1,b2,c1,c2,d1,d2,show decide ((v.aq[k].questions.length:Int)>0)=true from aR hn,aR hn];refine al.ref (by simp only[EO]) (uv _ hb e2.cur _) ?_;rintro _ H3 ⟨on,rfl,q⟩;replace q:aP H2 H3 b bs:=q;have e3:=e2.trans q;clear q;have r43:=fun e L=>r4 e3 e L;cases on
  ·simp only[au,Aaa,Aab,pF,jj,jl,gg,gb,bN,ae,ag,gj,cg,a1,a2,b1,b2,c1,c2,d1,d2,iR,r43,y1,y2,y3,lQ];refine al.ref (by simp only[EO]) (bt _ hb e3.cur _) ?_;rintro _ H4 ⟨j,rfl,j0,j1,q⟩;replace q:aP H3 H4 b bs:=q;have e4:=e3.trans q;refine⟨lG fun r hr=>by
    simp only[List.mem_cons,List.not_mem_nil,or_false]at hr;rcases hr with rfl|rfl
    ·exact .inl ⟨_,_,rfl⟩
    ·exact .inr ⟨_,_,_,rfl,q.fr bR (by have:=e3.len;omega) hbb⟩,?_⟩
   clear q;obtain⟨jk,rfl⟩:∃jk:Nat,j=jk:=⟨j.toNat,by omega⟩
   have hjk:jk<v.aq[k].questions.length:=by have:=j1 (by omega);omega
   have nQ:fQ.Nodup:=(Aae.1 (Aae.1 nR).2.1).1;obtain⟨bT,gT,ay,fT,iT,hbT,mT,_,rT,oT,_,_,lT⟩:=oQ.row nQ (k:=jk) (by simpa using hjk);rw[Aaw]at oT;simp only[aB.cd,jv,jy,j6]at oT;obtain⟨_,_,_,_,rfl,_,⟨rfl,_⟩,⟨_,_,_,_,rfl,_,⟨rfl,_⟩,⟨rfl,_⟩⟩⟩:=oT;have hbT':bT≠b:=fun e=>bf (e▸sQ bT mT);have rt:∀(e:List AV) (L:List (List AV)),(St.mk e L H4).cells (.gp bT gT (jk*2)) 1=some [.int .i64 v.aq[k].questions[jk].id]:=fun e L=>by
    rw[vo (e4.fr bT hbT hbT')];have:=rT e L 0 1 (by omega);rw[Aay]at this;rw[this];rfl
   have rt':∀(e:List AV) (L:List (List AV)),(St.mk e L H4).cells (.gp bT gT (jk*2+0)) 1=some [.int .i64 v.aq[k].questions[jk].id]:=fun e L=>rt e L;simp only[au,Aaa,Aab,pF,jj,jl,gg,gb,bN,ae,ag,gj,cg,a1,a2,b1,b2,c1,c2,d1,d2,iT,rt,rt'];refine al.ref (by simp only[EO]) (B9 _ hb e4.cur) ?_;rintro _ HW ⟨y,rfl,q⟩;replace q:aP H4 HW b bs:=q;have eW:=e4.trans q;clear q;simp only[au,Aaa,Aab,pF,jj,jl,gg,gb,bN,ae,ag,gj,cg,a1,a2,b1,b2,c1,c2,d1,d2];refine al.ref (by simp only[EO]) (uv _ hb eW.cur _) ?_;rintro _ HZ ⟨on2,rfl,q⟩;replace q:aP HW HZ b bs:=q;have eZ:=eW.trans q;clear q;have r0Z:=fun e L=>r0 eZ e L;have r0Y:∀(e:List AV) (L:List (List AV)),(St.mk e L HZ).cells (.gp bR gR (k*7+0)) 1=some [.int .i64 v.aq[k].peer]:=fun e L=>r0 eZ e L;cases on2
   ·simp only[au,Aaa,Aab,pF,jj,jl,gg,gb,bN,ae,ag,gj,cg,a1,a2,b1,b2,c1,c2,d1,d2,iR,r0Z,r0Y];have fin:∃(peer:Int) (m:ah),(AV.tup [.int .i64 v.aq[k].peer,.agg (cS ⟨2,0,0,v.aq[k].questions[jk].id,⟨#[]⟩,[],y,0,⟨0,0,0⟩⟩ .nils)])=.tup [.int .i64 peer,.agg (cS m .nils)]∧m.args=[]∧m.name.size≤100∧(m.kind=2∨m.kind=4)∧aP H HZ b bs:=⟨_,_,rfl,rfl,Aac _,.inl rfl,eZ⟩
    first|exact⟨rfl,fin⟩|exact fin
   ·simp only[au,Aaa,Aab,pF,jj,jl,gg,gb,bN,ae,ag,gj,cg,a1,a2,b1,b2,c1,c2,d1,d2,iR,r0Z,r0Y];have fin:∃(peer:Int) (m:ah),(AV.tup [.int .i64 v.aq[k].peer,.agg (cS ⟨4,0,0,v.aq[k].questions[jk].id,⟨#[]⟩,[],⟨0,0⟩,0,⟨0,0,0⟩⟩ .nils)])=.tup [.int .i64 peer,.agg (cS m .nils)]∧m.args=[]∧m.name.size≤100∧(m.kind=2∨m.kind=4)∧aP H HZ b bs:=⟨_,_,rfl,rfl,Aac _,.inr rfl,eZ⟩
    first|exact⟨rfl,fin⟩|exact fin
  ·simp only[au,Aaa,Aab,pF,jj,jl,gg,gb,bN,ae,ag,gj,cg,a1,a2,b1,b2,c1,c2,d1,d2];refine al.ref (by simp only[EO]) (B9 _ hb e3.cur) ?_;rintro _ HW ⟨y,rfl,q⟩;replace q:aP H3 HW b bs:=q;have eW:=e3.trans q;clear q;simp only[au,Aaa,Aab,pF,jj,jl,gg,gb,bN,ae,ag,gj,cg,a1,a2,b1,b2,c1,c2,d1,d2];refine al.ref (by simp only[EO]) (uv _ hb eW.cur _) ?_;rintro _ HZ ⟨on2,rfl,q⟩;replace q:aP HW HZ b bs:=q;have eZ:=eW.trans q;clear q;have r0Z:=fun e L=>r0 eZ e L;have r0Y:∀(e:List AV) (L:List (List AV)),(St.mk e L HZ).cells (.gp bR gR (k*7+0)) 1=some [.int .i64 v.aq[k].peer]:=fun e L=>r0 eZ e L;cases on2
   ·simp only[au,Aaa,Aab,pF,jj,jl,gg,gb,bN,ae,ag,gj,cg,a1,a2,b1,b2,c1,c2,d1,d2,iR,r0Z,r0Y];have fin:∃(peer:Int) (m:ah),(AV.tup [.int .i64 v.aq[k].peer,.agg (cS ⟨2,0,0,IntKind.i64.wrap (1+qq),⟨#[]⟩,[],y,0,⟨0,0,0⟩⟩ .nils)])=.tup [.int .i64 peer,.agg (cS m .nils)]∧m.args=[]∧m.name.size≤100∧(m.kind=2∨m.kind=4)∧aP H HZ b bs:=⟨_,_,rfl,rfl,Aac _,.inl rfl,eZ⟩
    first|exact⟨rfl,fin⟩|exact fin
   ·simp only[au,Aaa,Aab,pF,jj,jl,gg,gb,bN,ae,ag,gj,cg,a1,a2,b1,b2,c1,c2,d1,d2,iR,r0Z,r0Y];have fin:∃(peer:Int) (m:ah),(AV.tup [.int .i64 v.aq[k].peer,.agg (cS ⟨4,0,0,IntKind.i64.wrap (1+qq),⟨#[]⟩,[],⟨0,0⟩,0,⟨0,0,0⟩⟩ .nils)])=.tup [.int .i64 peer,.agg (cS m .nils)]∧m.args=[]∧m.name.size≤100∧(m.kind=2∨m.kind=4)∧aP H HZ b bs:=⟨_,_,rfl,rfl,Aac _,.inr rfl,eZ⟩
    first|exact⟨rfl,fin⟩|exact fin
 ·simp only[au,Aaa,Aab,pF,jj,jl,gg,gb,bN,ae,ag,gj,cg,a1,a2,b1,b2,c1,c2,d1,d2,show decide ((v.aq[k].questions.length:Int)>0)=false from aW hn,aW hn];refine al.ref (by simp only[EO]) (B9 _ hb e2.cur) ?_;rintro _ HW ⟨y,rfl,q⟩;replace q:aP H2 HW b bs:=q;have eW:=e2.trans q;clear q;simp only[au,Aaa,Aab,pF,jj,jl,gg,gb,bN,ae,ag,gj,cg,a1,a2,b1,b2,c1,c2,d1,d2];refine al.ref (by simp only[EO]) (uv _ hb eW.cur _) ?_;rintro _ HZ ⟨on2,rfl,q⟩;replace q:aP HW HZ b bs:=q;have eZ:=eW.trans q;clear q;have r0Z:=fun e L=>r0 eZ e L;have r0Y:∀(e:List AV) (L:List (List AV)),(St.mk e L HZ).cells (.gp bR gR (k*7+0)) 1=some [.int .i64 v.aq[k].peer]:=fun e L=>r0 eZ e L;cases on2
  ·simp only[au,Aaa,Aab,pF,jj,jl,gg,gb,bN,ae,ag,gj,cg,a1,a2,b1,b2,c1,c2,d1,d2,iR,r0Z,r0Y];have fin:∃(peer:Int) (m:ah),(AV.tup [.int .i64 v.aq[k].peer,.agg (cS ⟨2,0,0,IntKind.i64.wrap (1+qq),⟨#[]⟩,[],y,0,⟨0,0,0⟩⟩ .nils)])=.tup [.int .i64 peer,.agg (cS m .nils)]∧m.args=[]∧m.name.size≤100∧(m.kind=2∨m.kind=4)∧aP H HZ b bs:=⟨_,_,rfl,rfl,Aac _,.inl rfl,eZ⟩
   first|exact⟨rfl,fin⟩|exact fin
  ·simp only[au,Aaa,Aab,pF,jj,jl,gg,gb,bN,ae,ag,gj,cg,a1,a2,b1,b2,c1,c2,d1,d2,iR,r0Z,r0Y];have fin:∃(peer:Int) (m:ah),(AV.tup [.int .i64 v.aq[k].peer,.agg (cS ⟨4,0,0,IntKind.i64.wrap (1+qq),⟨#[]⟩,[],⟨0,0⟩,0,⟨0,0,0⟩⟩ .nils)])=.tup [.int .i64 peer,.agg (cS m .nils)]∧m.args=[]∧m.name.size≤100∧(m.kind=2∨m.kind=4)∧aP H HZ b bs:=⟨_,_,rfl,rfl,Aac _,.inr rfl,eZ⟩
   first|exact⟨rfl,fin⟩|exact fin
def iw(l:List aB)(id:Int):Int:=match l.find? (fun q=>q.id == id)with|some q=>q.promise|none=>-1
theorem K8(β:Bool)(l:List aB)(hl:l.length≤1048576)(id:Int)(h:AH):T pQ Γ Fn.kbV [.vs β 2 false (l.map (aB.c β)),.int .i64 id] h fun v h'=>v=.int .i64 (iw l id)∧h'=h:=by
 have L0:=eY β 2 false l (aB.c β);refine VY (aC aG mixed [] _ _ _ ?_);unfold QN;simp only[au,Aaa,Aab,CE];refine fD aG mixed [] (fun k:Nat=>k≤l.length∧∀(i:Nat) (hi:i<l.length),i<k→(l[i].id == id)=false) (fun k=>l.length-k)
  (fun k=>DX (.vs β 2 false (l.map (aB.c β))) (.int .i64 id) (.int .i64 k) [] h) 0 ⟨by omega,fun i hi h=>by omega⟩ ⟨by simp[DX,gW,gM],rfl,rfl⟩ ?_
 rintro k ⟨hk,ht⟩;simp only[au,Aaa,Aab,CE,DX,L0];refine bz (fun hlt=>?_) (fun hge=>?_)
 ·have hlt:k<l.length:=by simpa using hlt
  have i0:=fI (β:=β) (sz:=2) (ex:=false) (ce:=aB.c β) hlt;cases hp:l[k].id == id
  ·simp only[au,Aaa,Aab,CE,i0,aB.c,hp];exact⟨k+1,⟨hlt,qK (P:=fun q:aB=>(q.id == id)=false) ht hp⟩,by omega,⟨by rw[wN (by omega)];simp[DX,gW,gM],rfl,rfl⟩⟩
  ·simp only[au,Aaa,Aab,CE,i0,aB.c,hp];exact⟨rfl,by simp only[iw,DH (p:=fun q:aB=>q.id == id) hlt ht hp]⟩
 ·have hge:k=l.length:=by simp at hge;omega
  subst hge;simp only[au,Aaa,Aab,CE];exact⟨rfl,by simp only[iw,zR (p:=fun q:aB=>q.id == id) ht]⟩
def uc(l:aF)(m:ah):Int:=if m.pos=0 then iw l.answers m.answer else gO l.exports m.pos
def px(v:ar)(peer:Int)(m:ah):Int:=match v.aq.find? (fun l=>l.peer == peer)with|some l=>uc l m|none=>-1
theorem kco_T(β β':Bool)(v:ar)(hv:v.ok 1048576)(peer:Int)(m:ah)(h:AH):T pQ Γ Fn.kco [.agg (v.c β),.int .i64 peer,.agg (m.c β')] h fun r h'=>r=.int .i64 (px v peer m)∧h'=h:=by
 refine Yo (aC aG mixed [] _ _ _ ?_);unfold NO;simp only[au,Aaa,Aab,B5,tF,tW,oK,oO,ar.c,ah.c];refine al.val (by simp only[EO]) (yF β v hv.2.2.2.2.1 peer _) ?_;rcases iB (fun l:aF=>l.peer == peer) v.aq with⟨k,hk,e1,e2,e3⟩|⟨e1,e2,e3⟩
 ·have i0:=fI (β:=β) (sz:=7) (ex:=false) (ce:=aF.c β) hk;have hlk:=hv.2.2.2.2.2.1 _ (Aax hk);by_cases hz:m.pos=0
  ·simp only[au,Aaa,Aab,B5,tF,tW,oK,oO,e1,show decide ((k:Int)<0)=false from by simp,i0,ar.c,ah.c,ag,aR hz,aF.c];refine al.val (by simp only[EO]) (K8 β v.aq[k].answers hlk.2.2 m.answer _) ?_;simp only[au,Aaa,Aab,B5,tF,tW,oK,oO];exact⟨rfl,by simp only[px,e3,uc,if_pos hz]⟩
  ·simp only[au,Aaa,Aab,B5,tF,tW,oK,oO,e1,show decide ((k:Int)<0)=false from by simp,i0,ar.c,ah.c,ag,aW hz,aF.c];refine al.val (by simp only[EO]) (J3 β v.aq[k] hlk.1 m.pos _) ?_;simp only[au,Aaa,Aab,B5,tF,tW,oK,oO];exact⟨rfl,by simp only[px,e3,uc,if_neg hz]⟩
 ·simp only[au,Aaa,Aab,B5,tF,tW,oK,oO,e1,show decide ((-1:Int)<0)=true from rfl];exact⟨rfl,by simp only[px,e2]⟩
theorem S9(β:Bool)(l:List aB)(hl:l.length≤1048576)(id:Int)(h:AH):T pQ Γ Fn.kcO [.vs β 2 false (l.map (aB.c β)),.int .i64 id] h fun v h'=>v=.bool (l.any fun q=>q.id == id)∧h'=h:=by
 have L0:=eY β 2 false l (aB.c β);refine ZL (aC aG mixed [] _ _ _ ?_);unfold Oq;simp only[au,Aaa,Aab,Dt];refine fD aG mixed [] (fun k:Nat=>k≤l.length∧∀(i:Nat) (hi:i<l.length),i<k→(l[i].id == id)=false) (fun k=>l.length-k)
  (fun k=>Em (.vs β 2 false (l.map (aB.c β))) (.int .i64 id) (.int .i64 k) [] h) 0 ⟨by omega,fun i hi h=>by omega⟩ ⟨by simp[Em,gW,gM],rfl,rfl⟩ ?_
 rintro k ⟨hk,ht⟩;simp only[au,Aaa,Aab,Dt,Em,L0];refine bz (fun hlt=>?_) (fun hge=>?_)
 ·have hlt:k<l.length:=by simpa using hlt
  have i0:=fI (β:=β) (sz:=2) (ex:=false) (ce:=aB.c β) hlt;cases hp:l[k].id == id
  ·simp only[au,Aaa,Aab,Dt,i0,aB.c,hp];exact⟨k+1,⟨hlt,qK (P:=fun q:aB=>(q.id == id)=false) ht hp⟩,by omega,⟨by rw[wN (by omega)];simp[Em,gW,gM],rfl,rfl⟩⟩
  ·simp only[au,Aaa,Aab,Dt,i0,aB.c,hp];have e:(l.any fun q=>q.id == id)=true:=List.any_eq_true.2 ⟨_,Aax hlt,hp⟩;rw[e];first|exact⟨rfl,rfl⟩|exact rfl|trivial
 ·have hge:k=l.length:=by simp at hge;omega
  subst hge;have e:(l.any fun q=>q.id == id)=false:=by
   rw[List.any_eq_false];intro x hx;obtain⟨i,hi,rfl⟩:=List.getElem_of_mem hx;simp[ht i hi hi]
  rw[e];simp only[au,Aaa,Aab,Dt];first|exact⟨rfl,rfl⟩|exact rfl|trivial
theorem Qb(n:Int)(h:AH):T pQ Γ Fn.kcu [.int .i64 n] h fun v h'=>v=.bool (tZ n 1 999999)∧h'=h:=by
 refine XC (aC aG mixed [] _ _ _ ?_);unfold N3;simp only[au,Aaa,Aab,Ko];refine al.val (by simp only[EO]) (gQ n 1 999999 h) ?_;simp only[au,Aaa,Aab,Ko];first|exact⟨rfl,rfl⟩|exact rfl|trivial
def k9(w:aJ):Bool:=if w.kind=0 then tZ w.n 0 999999 else if w.kind=1∨w.kind=2 then tZ w.n 1 999999 else decide (w.kind=3) && decide (w.n=0)
theorem Ii(β:Bool)(w:aJ)(h:AH):T pQ Γ Fn.kb3 [.agg (w.c β)] h fun v h'=>v=.bool (k9 w)∧h'=h:=by
 refine Vw (aC aG mixed [] _ _ _ ?_);unfold Qc;simp only[au,Aaa,Aab,Dm,aJ.c,cK,ae,ag]
 repeat' (first
  | (guard_target =~ al _ _ Fn.xG _ _ _;refine al.val (by simp only[EO]) (gQ _ _ _ _) ?_;simp only[au,Aaa,Aab,Dm,aJ.c,cK,ae,ag])
  | (refine pq (fun hh=>?_) (fun hh=>?_)<;>simp only[au,Aaa,Aab,Dm,hh,aJ.c,cK,ae,ag])
  | (refine oW (fun hh=>?_) (fun hh=>?_)<;>simp only[au,Aaa,Aab,Dm,hh,aJ.c,cK,ae,ag])
  | (refine bz (fun hh=>?_) (fun hh=>?_)<;>simp only[au,Aaa,Aab,Dm,hh,aJ.c,cK,ae,ag])
  | (first|(simp_all [k9,AS];done)|(simp_all [k9,AS];omega)))
def qE(n:Int):Bool:=tZ n 1 999999
def tK(w:aJ):Bool:=decide (w.kind=0∧w.n=0)
def tI(m:ah):Bool:=decide (m.answer=0) && ((m.name.toList == (ByteArray.mk #[]).toList) && (decide ((m.args.length:Int)=0) && decide (m.tag.vat=0∧m.tag.entity=0∧m.tag.seq=0)))
def pX(m:ah):Bool:=
 bif decide (m.kind=1)then m.args.all k9 && (((qE m.pos && decide (m.answer=0)) || (qE m.answer && decide (m.pos=0))) && (qE m.question && (si m.name && (decide ((m.args.length:Int)≤2) && (tK m.value && (decide (m.count=0) && (qE m.tag.vat && (qE m.tag.seq && tZ m.tag.entity 0 999999))))))))
 else bif decide (m.kind=2)then tI m && (qE m.question && (k9 m.value && (decide (m.pos=0) && decide (m.count=0))))
 else bif decide (m.kind=3) || (decide (m.kind=4) || decide (m.kind=5))then tI m && (qE m.question && (tK m.value && (decide (m.pos=0) && decide (m.count=0))))
 else bif decide (m.kind=6)then tI m && (decide (m.question=0) && (tK m.value && (qE m.pos && qE m.count)))
 else false
set_option maxHeartbeats 16000000 in
set_option maxRecDepth 100000 in
theorem HM(β:Bool)(m:ah)(hn:m.name.size≤1048576)(ha:m.args.length≤1048576)(h:AH):T pQ Γ Fn.kbY [.agg (m.c β)] h fun v h'=>v=.bool (pX m)∧h'=h:=by
 have L0:=eY β 2 false m.args (aJ.c β);refine aae (aC aG mixed [] _ _ _ ?_);unfold OR;simp only[au,Aaa,Aab,nH,cK,qH,ah.c,L0,ae,ag,dV,eU]
 repeat' (first
  | (guard_target =~ al _ _ Fn.kcu _ _ _;refine al.val (by simp only[EO]) (Qb _ _) ?_;simp only[au,Aaa,Aab,nH,cK,qH,ah.c,L0,ae,ag,dV,eU])
  | (guard_target =~ al _ _ Fn.xG _ _ _;refine al.val (by simp only[EO]) (gQ _ _ _ _) ?_;simp only[au,Aaa,Aab,nH,cK,qH,ah.c,L0,ae,ag,dV,eU])
  | (guard_target =~ al _ _ Fn.kbZ _ _ _;refine al.val (by simp only[EO]) (C2 _ hn _) ?_;simp only[au,Aaa,Aab,nH,cK,qH,ah.c,L0,ae,ag,dV,eU])
  | (guard_target =~ al _ _ Fn.kb3 _ _ _;refine al.val (by simp only[EO]) (Ii β m.value _) ?_;simp only[au,Aaa,Aab,nH,cK,qH,ah.c,L0,ae,ag,dV,eU])
  | (refine pq (fun hh=>?_) (fun hh=>?_)<;>simp only[au,Aaa,Aab,nH,cK,qH,ah.c,L0,ae,ag,dV,eU,hh])
  | (refine oW (fun hh=>?_) (fun hh=>?_)<;>simp only[au,Aaa,Aab,nH,cK,qH,ah.c,L0,ae,ag,dV,eU,hh])
  | (refine bz (fun hh=>?_) (fun hh=>?_)<;>simp only[au,Aaa,Aab,nH,cK,qH,ah.c,L0,ae,ag,dV,eU,hh])
  | ((try refine⟨AS _,?_⟩);(try refine⟨?_,rfl⟩);first|rfl|(simp only[pX,tI,qE,tK, *,cond_true,cond_false,Aai,Aaj,Aaf,Aag,Aao,Aap,Aak,Aal,Aam,Aah,Aad];done)|(simp[pX,tI,qE,tK, *,cond_true,cond_false,Aai,Aaj,Aaf,Aag,Aao,Aap,Aak,Aal,Aam,Aah,Aad];done)|(exfalso;simp_all;done)))
 all_goals
  refine fD aG mixed [] (fun k:Nat=>k≤m.args.length∧∀(i:Nat) (hi:i<m.args.length),i<k→k9 m.args[i]=true) (fun k=>m.args.length-k) (fun k=>Hn (.lp ([]:List (List AV)).length 0) (.lp (([]:List (List AV)).length+1) 0) (.int .i64 k) (([]:List (List AV))++[m.c β,[.int .i64 0,.int .i64 0]]) h) 0 ⟨Aac _,fun i _ h=>absurd h (Nat.not_lt_zero _)⟩ ⟨by simp[Hn,gW,gM],rfl,rfl⟩ ?_;rintro k ⟨hk,hall⟩;simp only[au,Aaa,Aab,nH,Hn,cK,qH,ah.c,L0,ae,ag,dV,eU];refine bz (fun hlt=>?_) (fun hge=>?_)
  ·have hlt:k<m.args.length:=by simpa using hlt
   have i0:=fI (β:=β) (sz:=2) (ex:=false) (ce:=aJ.c β) hlt;simp only[au,Aaa,Aab,nH,cK,qH,ah.c,L0,ae,ag,dV,eU,i0,aJ.c];refine al.val (by simp only[EO]) (Ii β m.args[k] _) ?_;cases hwk:k9 m.args[k]
   ·simp only[au,Aaa,Aab,nH,cK,qH,ah.c,L0,ae,ag,dV,eU];have hal:m.args.all k9=false:=all_false hlt hwk
    ((try refine⟨AS _,?_⟩);(try refine⟨?_,rfl⟩);first|rfl|(simp only[pX,tI,qE,tK, *,cond_true,cond_false,Aai,Aaj,Aaf,Aag,Aao,Aap,Aak,Aal,Aam,Aah,Aad];done)|(simp[pX,tI,qE,tK, *,cond_true,cond_false,Aai,Aaj,Aaf,Aag,Aao,Aap,Aak,Aal,Aam,Aah,Aad];done)|(exfalso;simp_all;done))
   ·simp only[au,Aaa,Aab,nH,cK,qH,ah.c,L0,ae,ag,dV,eU];exact⟨k+1,⟨hlt,fun i hi h=>by rcases Nat.lt_succ_iff_lt_or_eq.1 h with g|g;exact hall i hi g;subst g;exact hwk⟩,by omega,⟨by rw[wN (by omega)];simp[gW,gM],rfl,rfl⟩⟩
  have hk2:k=m.args.length:=by simp at hge;omega
  subst hk2;have hal:m.args.all k9=true:=all_true fun i hi h=>hall i hi h;clear hge hall;simp only[au,Aaa,Aab,nH,cK,qH,ah.c,L0,ae,ag,dV,eU]
  repeat' (first
   | (guard_target =~ al _ _ Fn.kcu _ _ _;refine al.val (by simp only[EO]) (Qb _ _) ?_;simp only[au,Aaa,Aab,nH,cK,qH,ah.c,L0,ae,ag,dV,eU])
   | (guard_target =~ al _ _ Fn.xG _ _ _;refine al.val (by simp only[EO]) (gQ _ _ _ _) ?_;simp only[au,Aaa,Aab,nH,cK,qH,ah.c,L0,ae,ag,dV,eU])
   | (guard_target =~ al _ _ Fn.kbZ _ _ _;refine al.val (by simp only[EO]) (C2 _ hn _) ?_;simp only[au,Aaa,Aab,nH,cK,qH,ah.c,L0,ae,ag,dV,eU])
   | (guard_target =~ al _ _ Fn.kb3 _ _ _;refine al.val (by simp only[EO]) (Ii β m.value _) ?_;simp only[au,Aaa,Aab,nH,cK,qH,ah.c,L0,ae,ag,dV,eU])
   | (refine pq (fun hh=>?_) (fun hh=>?_)<;>simp only[au,Aaa,Aab,nH,cK,qH,ah.c,L0,ae,ag,dV,eU,hh])
   | (refine oW (fun hh=>?_) (fun hh=>?_)<;>simp only[au,Aaa,Aab,nH,cK,qH,ah.c,L0,ae,ag,dV,eU,hh])
   | (refine bz (fun hh=>?_) (fun hh=>?_)<;>simp only[au,Aaa,Aab,nH,cK,qH,ah.c,L0,ae,ag,dV,eU,hh])
   | ((try refine⟨AS _,?_⟩);(try refine⟨?_,rfl⟩);first|rfl|(simp only[pX,tI,qE,tK, *,cond_true,cond_false,Aai,Aaj,Aaf,Aag,Aao,Aap,Aak,Aal,Aam,Aah,Aad];done)|(simp[pX,tI,qE,tK, *,cond_true,cond_false,Aai,Aaj,Aaf,Aag,Aao,Aap,Aak,Aal,Aam,Aah,Aad];done)|(exfalso;simp_all;done)))
theorem CN{v:ar}(hv:v.entities.length≤1048576)(n:Int){H:AH}{b:Nat}{wE w2 wL w4:AV}{fE f2 fL f4:List Nat}(o:VO H b v wE w2 wL w4 fE f2 fL f4):
 T pQ Γ Fn.kaO [.gp b 0 0,.int .i64 n] H fun r h'=>((bB n v.entities.length=true∧fh 12 wE n=some r)∨(bB n v.entities.length=false∧r=.nilp))∧h'=H:=by
 have hb:=o.hb;have cb:=VO.Cp hb;obtain⟨a1,a2,a3,a4⟩:=o.oE.cell;obtain⟨_,lE⟩:=dc o.oE;rw[Aan]at lE;refine QR (aC aG mixed [] _ _ _ ?_);unfold Kb;simp only[au,Aaa,Aab,Bb,A3,cb,a1,a2,a3,lE];refine al.val (by simp only[EO]) (xd _ _ _ _) ?_;rw[fG _ hv];cases e1:bB n v.entities.length
 ·simp only[au,Aaa,Aab,Bb];first|exact⟨rfl,.inr rfl⟩|exact⟨rfl,.inr ⟨rfl,rfl⟩⟩|exact⟨rfl,.inl ⟨rfl,i1⟩⟩|exact⟨rfl,.inl ⟨rfl,iR⟩⟩|exact⟨rfl,.inl ⟨i1,rfl⟩⟩|exact⟨rfl,.inl rfl⟩|exact⟨rfl,.inl i1⟩|exact⟨rfl,.inl iR⟩|(refine⟨rfl,?_⟩;simp_all;done)|trace_state
 ·obtain⟨k,hk,ek,_,_⟩:=cL e1;obtain⟨bR,gR,nR,row,fR,iR,_⟩:=o.jY hk;rw[←ek]at iR;simp only[au,Aaa,Aab,Bb,A3,cb,a1,a2,a3,iR];first|exact⟨rfl,.inr rfl⟩|exact⟨rfl,.inr ⟨rfl,rfl⟩⟩|exact⟨rfl,.inl ⟨rfl,i1⟩⟩|exact⟨rfl,.inl ⟨rfl,iR⟩⟩|exact⟨rfl,.inl ⟨i1,rfl⟩⟩|exact⟨rfl,.inl rfl⟩|exact⟨rfl,.inl i1⟩|exact⟨rfl,.inl iR⟩|(refine⟨rfl,?_⟩;simp_all;done)|trace_state
theorem S8{v:ar}(hv:v.entities.length≤1048576)(β:Bool)(x:an){H:AH}{b:Nat}{wE w2 wL w4:AV}{fE f2 fL f4:List Nat}(o:VO H b v wE w2 wL w4 fE f2 fL f4):
 T pQ Γ Fn.ka3 [.gp b 0 0,.agg (x.c β)] H fun r h'=>(((decide (x.kind=1) && bB x.n v.entities.length)=true∧fh 12 wE x.n=some r)∨((decide (x.kind=1) && bB x.n v.entities.length)=false∧r=.nilp))∧h'=H:=by
 refine Uu (aC aG mixed [] _ _ _ ?_);unfold Ro;by_cases h1:x.kind=1
 ·simp only[au,Aaa,Aab,Fo,cK,an.c,ag,aR h1];refine al.ref (by simp only[EO]) (CN hv x.n o) ?_;rintro r h' ⟨⟨e1,i1⟩|⟨e1,rfl⟩,e⟩
  ·replace e:h'=H:=e;subst e;obtain⟨k,hk,ek,_,_⟩:=cL e1;obtain⟨bR,gR,nR,row,fR,iR,_⟩:=o.jY hk;rw[←ek,i1]at iR;injection iR with iR
   subst iR;simp only[au,Aaa,Aab,Fo];rw[e1];first|exact⟨rfl,.inr rfl⟩|exact⟨rfl,.inr ⟨rfl,rfl⟩⟩|exact⟨rfl,.inl ⟨rfl,i1⟩⟩|exact⟨rfl,.inl ⟨rfl,iR⟩⟩|exact⟨rfl,.inl ⟨i1,rfl⟩⟩|exact⟨rfl,.inl rfl⟩|exact⟨rfl,.inl i1⟩|exact⟨rfl,.inl iR⟩|(refine⟨rfl,?_⟩;simp_all;done)|trace_state
  ·replace e:h'=H:=e;subst e;simp only[au,Aaa,Aab,Fo];rw[e1];first|exact⟨rfl,.inr rfl⟩|exact⟨rfl,.inr ⟨rfl,rfl⟩⟩|exact⟨rfl,.inl ⟨rfl,i1⟩⟩|exact⟨rfl,.inl ⟨rfl,iR⟩⟩|exact⟨rfl,.inl ⟨i1,rfl⟩⟩|exact⟨rfl,.inl rfl⟩|exact⟨rfl,.inl i1⟩|exact⟨rfl,.inl iR⟩|(refine⟨rfl,?_⟩;simp_all;done)|trace_state
 ·simp only[au,Aaa,Aab,Fo,cK,an.c,ag,aW h1];first|exact⟨rfl,.inr rfl⟩|exact⟨rfl,.inr ⟨rfl,rfl⟩⟩|exact⟨rfl,.inl ⟨rfl,i1⟩⟩|exact⟨rfl,.inl ⟨rfl,iR⟩⟩|exact⟨rfl,.inl ⟨i1,rfl⟩⟩|exact⟨rfl,.inl rfl⟩|exact⟨rfl,.inl i1⟩|exact⟨rfl,.inl iR⟩|(refine⟨rfl,?_⟩;simp_all;done)|trace_state
theorem zC(v:ar)(x:an):lM v x=((decide (x.kind=1) && bB x.n v.entities.length) && rQ (aD v x.n)):=by
 simp only[lM,aD,Aad]
theorem SD{v:ar}(hv:v.entities.length≤1048576)(β:Bool)(x:an){H:AH}{b:Nat}{wE w2 wL w4:AV}{fE f2 fL f4:List Nat}(o:VO H b v wE w2 wL w4 fE f2 fL f4):
 T pQ Γ Fn.Ue [.gp b 0 0,.agg (x.c β)] H fun r h'=>((lM v x=true∧fh 12 wE x.n=some r)∨(lM v x=false∧r=.nilp))∧h'=H:=by
 refine Vi (aC aG mixed [] _ _ _ ?_);unfold Pf;simp only[au,Aaa,Aab,CX,cK,an.c];refine al.ref (by simp only[EO]) (S8 hv false x o) ?_;rintro r h' ⟨⟨e1,i1⟩|⟨e1,rfl⟩,e⟩
 ·replace e:h'=H:=e;subst e;obtain⟨k,hk,ek,_,eA⟩:=cL (Bool.and_eq_true_iff.1 e1).2;obtain⟨bR,gR,nR,row,fR,iR,rR,lR,oR,_⟩:=o.jY hk;rw[←ek,i1]at iR;injection iR with iR
  subst iR;rw[←eA]at oR;have seeR:ou h' (.agg row) (.agg ((aD v x.n).c true)):=aM.fk (aA.bO true _) oR;obtain⟨wS,wQ,wA,fS,fQ,fA,rfl,_,oS,oQ,oA⟩:=c5 oR;obtain⟨x1,x2,x3,x4⟩:=oS.cell;obtain⟨x5,x6,x7,x8⟩:=oQ.cell;obtain⟨x9,xa,xb,xc⟩:=oA.cell;simp only[au,Aaa,Aab,CX,A3,rR,x1,x2,x3,x5,x6,x7,x9,xa,xb];refine al.fk (by simp only[EO,x3,x7,xb]) (aI seeR aZ) (fun h=>ZO true (aD v x.n) h) (.bool _) ?_;rw[zC,e1];cases hp:rQ (aD v x.n)
  ·simp only[au,Aaa,Aab,CX];first|exact⟨rfl,.inr rfl⟩|exact⟨rfl,.inr ⟨rfl,rfl⟩⟩|exact⟨rfl,.inl ⟨rfl,i1⟩⟩|exact⟨rfl,.inl ⟨rfl,iR⟩⟩|exact⟨rfl,.inl ⟨i1,rfl⟩⟩|exact⟨rfl,.inl rfl⟩|exact⟨rfl,.inl i1⟩|exact⟨rfl,.inl iR⟩|(refine⟨rfl,?_⟩;simp_all;done)|trace_state
  ·simp only[au,Aaa,Aab,CX];first|exact⟨rfl,.inr rfl⟩|exact⟨rfl,.inr ⟨rfl,rfl⟩⟩|exact⟨rfl,.inl ⟨rfl,i1⟩⟩|exact⟨rfl,.inl ⟨rfl,iR⟩⟩|exact⟨rfl,.inl ⟨i1,rfl⟩⟩|exact⟨rfl,.inl rfl⟩|exact⟨rfl,.inl i1⟩|exact⟨rfl,.inl iR⟩|(refine⟨rfl,?_⟩;simp_all;done)|trace_state
 ·replace e:h'=H:=e;subst e;rw[zC,e1];simp only[au,Aaa,Aab,CX];first|exact⟨rfl,.inr rfl⟩|exact⟨rfl,.inr ⟨rfl,rfl⟩⟩|exact⟨rfl,.inl ⟨rfl,i1⟩⟩|exact⟨rfl,.inl ⟨rfl,iR⟩⟩|exact⟨rfl,.inl ⟨i1,rfl⟩⟩|exact⟨rfl,.inl rfl⟩|exact⟨rfl,.inl i1⟩|exact⟨rfl,.inl iR⟩|(refine⟨rfl,?_⟩;simp_all;done)|trace_state
theorem F8(n:Int)(h:AH):T pQ Γ Fn.kbl [.int .i64 n] h fun v h'=>v=.bool (tZ n 1 999999)∧h'=h:=by
 refine Wn (aC aG mixed [] _ _ _ ?_);unfold Rx;simp only[au,Aaa,Aab,K3];refine al.val (by simp only[EO]) (xd _ _ _ _) ?_;simp only[au,Aaa,Aab,K3];first|exact⟨rfl,rfl⟩|exact rfl|trivial
theorem LR(β:Bool)(w:aJ)(h:AH):T pQ Γ Fn.kbk [.agg (w.c β)] h fun v h'=>v=.bool (k9 w)∧h'=h:=by
 refine kbk_e (aC aG mixed [] _ _ _ ?_);unfold Qf;by_cases k0:w.kind=0
 ·simp only[au,Aaa,Aab,yC,cK,aJ.c,ae,ag,aR k0];refine al.val (by simp only[EO]) (xd _ _ _ _) ?_;simp only[au,Aaa,Aab,yC,cK,aJ.c,ae,ag];simp[k9,k0,AS]
 by_cases k1:w.kind=1
 ·simp only[au,Aaa,Aab,yC,cK,aJ.c,ae,ag,aW k0,aR k1];refine al.val (by simp only[EO]) (F8 _ _) ?_;simp only[au,Aaa,Aab,yC,cK,aJ.c,ae,ag];simp[k9,k1,AS]
 by_cases k2:w.kind=2
 ·simp only[au,Aaa,Aab,yC,cK,aJ.c,ae,ag,aW k0,aW k1,aR k2];refine al.val (by simp only[EO]) (F8 _ _) ?_;simp only[au,Aaa,Aab,yC,cK,aJ.c,ae,ag];simp[k9,k2,AS]
 by_cases k3:w.kind=3
 ·simp only[au,Aaa,Aab,yC,cK,aJ.c,ae,ag,aW k0,aW k1,aW k2,aR k3];simp[k9,k3,AS]
 simp only[au,Aaa,Aab,yC,cK,aJ.c,ae,ag,aW k0,aW k1,aW k2,aW k3];simp[k9,k0,k1,k2,k3,AS]
theorem Zi(β:Bool)(t:nO)(h:AH):T pQ Γ Fn.kbj [.agg (t.c β)] h fun v h'=>v=.bool (qE t.vat && (qE t.seq && tZ t.entity 0 999999))∧h'=h:=by
 refine kbj_e (aC aG mixed [] _ _ _ ?_);unfold Ti;simp only[au,Aaa,Aab,Bs,cK,nO.c,ae,ag];refine al.val (by simp only[EO]) (F8 _ _) ?_;cases e1:tZ t.vat 1 999999
 ·simp only[au,Aaa,Aab,Bs,cK,nO.c,ae,ag];simp[qE,e1,AS]
 simp only[au,Aaa,Aab,Bs,cK,nO.c,ae,ag];refine al.val (by simp only[EO]) (F8 _ _) ?_;cases e2:tZ t.seq 1 999999
 ·simp only[au,Aaa,Aab,Bs,cK,nO.c,ae,ag];simp[qE,e1,e2,AS]
 simp only[au,Aaa,Aab,Bs,cK,nO.c,ae,ag];refine al.val (by simp only[EO]) (xd _ _ _ _) ?_;simp only[au,Aaa,Aab,Bs,cK,nO.c,ae,ag];simp[qE,e1,e2,AS]
end Go.Proofs.YtolciaflplefcaaGreat
