import Derived.Test.YtolciaflplefcaaGreatAmG8
import Derived.Test.YtolciaflplefcaaGreatAmG6
set_option linter.unusedVariables false
set_option linter.unusedSimpArgs false
open List renaming getElem?_append_left→Aaa,nodup_append→Aab,length_append→Aac,mem_append_right→Aad,append_assoc→Aae,flatten_cons→Aaf,mem_append→Aag,take_append_of_le_length→Aaj,drop_append_of_le_length→Aak,getElem?_set_ne→Aal,getD_eq_getElem?_getD→Aan,nodup_cons→Aao,mem_append_left→Aap,flatten_append→Aaq,getElem?_append_right→Aar,append_nil→Aas,mem_cons_of_mem→Aat,length_drop→Aau,drop_append→Aav,drop_eq_getElem_cons→Aaw,mem_cons→Aax,getElem?_eq_getElem→Aay,set_eq_take_append_cons_drop→Aaz,drop_of_length_le→AaA,take_of_length_le→AaB,drop_eq_nil_of_le→AaC,take_append_drop→AaD,length_take→AaE,length_cons→AaF,nil_append→AaI,mem_or_eq_of_mem_set→AaJ,getElem_mem→AaL,getElem_cons_zero→AaO,getElem_cons_succ→AaP,length_nil→AaQ,set_append_left→AaR,mem_of_mem_drop→AaT,mem_of_mem_take→AaU,all_cons→AaW,getElem?_drop→AaX,mem_replicate→AaZ,ext_getElem?→Aa0,mem_map→Aa2,all_flatten→Aa4,all_eq_true→Aa5,take_length→Aa6,take_left'→Aa7,length_map→Aa8,map_append→Aa9,map_cons→Aba
open Option renaming bind_some→Aah
open Nat renaming zero_add→Aai,add_sub_cancel_left→Aam,le_refl→AaG,min_eq_left→AaH,add_mul→AaK,zero_mul→AaM,add_zero→AaN,mul_le_mul_right→AaS,lt_of_lt_of_le→AaY,le_trans→Aa1,succ_mul→Abb,lt_or_ge→Abc
open Bool renaming and_self→AaV,and_eq_true→Aa3
namespace Go.AM
def an.td(x:an):Int:=2
def nO.td(x:nO):Int:=3
def aK.td(x:aK):Int:=6+yT an.td x.args
def cj.td(x:cj):Int:=2
def aA.td(x:aA):Int:=9+yT an.td x.slots+yT aK.td x.queue+yT cj.td x.askers
def aE.td(x:aE):Int:=3
def aB.td(x:aB):Int:=2
def aF.td(x:aF):Int:=4+yT aE.td x.exports+yT aB.td x.questions+yT aB.td x.answers
def aJ.td(x:aJ):Int:=2
def ah.td(x:ah):Int:=11+yT aJ.td x.args
def aY.td(x:aY):Int:=12+yT aJ.td x.message.args
def ar.td(x:ar):Int:=1+yT aA.td x.entities+yT aK.td x.loop+yT aF.td x.aq+yT aY.td x.out
end Go.AM
namespace Go.AM
theorem aM.JW{H:AH}{zas:List AV}{xs:List (List CD)}{f1:List Nat}(o1:aM H zas xs.flatten f1){ys:List AV}{row:List CD}{f2:List Nat}(o2:aM H ys row f2):aM H (zas++ys) (xs++[row]).flatten (f1++f2):=by
 rw[Aaq];simpa using o1.append o2
theorem df{H:AH}{v:AV}{sz bytes:Nat}{xs:List (List CD)}{fp:List Nat}(o:b9 H v (.sl sz xs) fp){ys:List AV}{row:List CD}{f2:List Nat}(nd:(fp++f2).Nodup)(h0:0<sz)(hy:ys.length=sz)
 (oy:aM H ys row f2) (hb:(xs.length+1)*(sz+bytes)≤aU):
 ∃v' H' fp',(∀e l,AI ⟨e,l,H++[some (0,ys)]⟩ sz bytes v (iU ⟨e,l,H++[some (0,ys)]⟩ sz false (.gs H.length 0 0 1 1 sz true)) (lenOf (.gs H.length 0 0 1 1 sz true)) (lenOf v)=.val v' ⟨e,l,H'⟩)∧
  b9 H' v' (.sl sz (xs++[row])) fp'∧fp'.Nodup∧(∀c,c∉fp→c<H.length→H'[c]? = H[c]?)∧H.length≤H'.length∧(∀c∈fp',c∈fp∨c∈f2∨H.length≤c):=by
 have hno:=oy.bM;have src:∀e l,iU ⟨e,l,H++[some (0,ys)]⟩ sz false (.gs H.length 0 0 1 1 sz true)=some ys:=fun e l=>by
  simp[iU,St.b6,eQ,sA hy]
 have hd:=Aab.1 nd;have hrl:row.length=sz:=by rw[←oy.len,hy]
 rcases o.qZ with⟨rfl,rfl,rfl⟩|⟨b,g,cap,ex,zas,tail,fp',rfl,rfl,hg,h3,ht,hc,ho⟩
 ·refine⟨.gs (H.length+1) 0 0 1 1 sz false,(H++[some (0,ys)])++[some (0,ys)],(H.length+1)::f2,fun e l=>?_,?_,?_,?_,?_,?_⟩
  ·rw[src];simp only[AI,lenOf,sS,St.push];rw[if_neg (by omega),if_neg (by simp at hb;omega),if_neg (by omega),if_pos hno];simp[AR.JA]
  ·have:=b9.sl_mk (h:=(H++[some (0,ys)])++[some (0,ys)]) (b:=H.length+1) (g:=0) (cap:=1) (sz:=sz) (ex:=false) (zas:=ys) (tail:=[]) (xs:=[row]) (fp:=f2)
    (by rw[Aas,show H.length+1=(H++[some (0,ys)]).length by simp];exact eQ _ _) (by simp[hrl]) (by simp) (by simp) (by simpa using(oy.grow (new:=[some (0,ys)])).grow (new:=[some (0,ys)]))
   simpa using this
  ·refine Aao.2 ⟨fun hm=>?_,hd.2.1⟩;have:=oy.lt _ hm;omega
  ·intro c _ hl;rw[Aae,Aaa hl]
  ·simp
  ·intro c hc;rcases Aax.1 hc with rfl|hc
   ·exact .inr (.inr (by omega))
   ·exact .inr (.inl hc)
 have hbl:b<H.length:=eS hg;have hal:zas.length=xs.length*sz:=by
  rw[ho.len];have:=j8 (l:=xs) (f:=fun x=>x) (sz:=sz) h3;simpa using this
 have hg2:cF (H++[some (0,ys)]) b=some (g,zas++tail):=zi hg _;have hnb:b∉f2:=fun hm=>hd.2.2 b (by simp) b hm rfl;have hnbp:b∉fp':=(Aao.1 hd.1).1;have hset:∀z,((H++[some (0,ys)]).set b z)=(H.set b z)++[some (0,ys)]:=fun z=>by rw[AaR _ _ hbl]
 have hgs:∀z:Nat×List AV,cF ((H++[some (0,ys)]).set b (some z)) b=some z:=fun z=>by
  simp only[cF,hset,Aaa (show b<(H.set b (some z)).length by simpa using hbl)];simp[hbl]
 have hfr:∀(z:Option (Nat×List AV)) (c:Nat),c≠b→c<H.length→((H++[some (0,ys)]).set b z)[c]? = H[c]?:=fun z c hc hl=>by
  rw[hset,Aaa (by simpa using hl),Aal (Ne.symm hc)]
 have own2:∀z,aM ((H++[some (0,ys)]).set b z) (zas++ys) (xs++[row]).flatten (fp'++f2):=fun z=>
  aM.JW (ho.frame fun c hc=>hfr z c (fun e=>hnbp (e▸hc)) (ho.lt c hc)) (oy.frame fun c hc=>hfr z c (fun e=>hnb (e▸hc)) (oy.lt c hc))
 have nd2:(b::(fp'++f2)).Nodup:=by simpa using nd
 have h3':∀l∈xs++[row],l.length=sz:=fun l hl=>by
  rcases Aag.1 hl with hl|hl
  ·exact h3 l hl
  ·rw[List.mem_singleton.1 hl];exact hrl
 have mem:∀c∈b::(fp'++f2),c∈b::fp'∨c∈f2∨H.length≤c:=fun c hc=>by
  rcases Aax.1 hc with rfl|hc
  ·exact .inl (by simp)
  ·rcases Aag.1 hc with hc|hc
   ·exact .inl (by simp[hc])
   ·exact .inr (.inl hc)
 by_cases hcap:xs.length+1≤cap
 ·have hroom:(xs.length+1)*sz≤(zas++tail).length:=by
   have h1:(xs.length+1)*sz=xs.length*sz+sz:=Abb _ _;have h2:1*sz≤(cap-xs.length)*sz:=AaS _ (by omega);have:=hc.2;rw[Aac,hal];omega
  have hroom2:(cap-(xs.length+1))*sz≤(tail.drop sz).length:=by
   have h1:cap-xs.length=(cap-(xs.length+1))+1:=by omega
   have h2:=hc.2;rw[h1,Abb]at h2;rw[Aau];omega
  have hov:c8 (zas++tail) (xs.length*sz) ys=(zas++ys)++tail.drop sz:=by
   simp only[c8];rw[←hal,Aa7,Aav,AaA (by omega),show zas.length+ys.length-zas.length=sz by omega]
   ·simp
   ·rfl
  refine⟨.gs b g 0 (xs.length+1) cap sz ex,(H++[some (0,ys)]).set b (some (g,(zas++ys)++tail.drop sz)),b::(fp'++f2),fun e l=>?_,?_,nd2,?_,by simp,mem⟩
  ·rw[src];simp only[AI,lenOf,sS];rw[if_neg (by omega),if_neg (by omega)];simp only[hg2,Aah,if_true,hno];rw[if_pos hcap,if_pos (by rw[Aai];exact hroom),Aai,hov];rfl
  ·have:=b9.sl_mk (h:=(H++[some (0,ys)]).set b (some (g,(zas++ys)++tail.drop sz))) (b:=b) (g:=g) (cap:=cap) (sz:=sz) (ex:=ex) (zas:=zas++ys) (tail:=tail.drop sz) (xs:=xs++[row]) (fp:=fp'++f2)
    (hgs _) h3' (fun x hx=>ht x (AaT hx)) ⟨by simpa using hcap,by simpa using hroom2⟩ (own2 _)
   simpa using this
  ·intro c hc hl;exact hfr _ c (fun e=>hc (by simp[e])) hl
 ·refine⟨.gs b (g+1) 0 (xs.length+1) (xs.length+1) sz false,(H++[some (0,ys)]).set b (some (g+1,zas++ys)),b::(fp'++f2),fun e l=>?_,?_,nd2,?_,by simp,mem⟩
  ·rw[src];simp only[AI,lenOf,sS];rw[if_neg (by omega),if_neg (by omega)];simp only[hg2,Aah,if_true,hno];rw[if_neg hcap];have:sub (zas++tail) 0 (xs.length*sz)=some zas:=by
    simp only[sub];rw[if_pos (by rw[Aai,←hal,Aac];omega)];simp[←hal]
   rw[this];rfl
  ·have:=b9.sl_mk (h:=(H++[some (0,ys)]).set b (some (g+1,zas++ys))) (b:=b) (g:=g+1) (cap:=xs.length+1) (sz:=sz) (ex:=false) (zas:=zas++ys) (tail:=[]) (xs:=xs++[row]) (fp:=fp'++f2)
    (by rw[Aas];exact hgs _) h3' (by simp) (by simp) (own2 _)
   simpa using this
  ·intro c hc hl;exact hfr _ c (fun e=>hc (by simp[e])) hl
end Go.AM
namespace Go.AM
theorem b9.cY{h:AH}{a:AV}{d:CD}{fp:List Nat}(o:b9 h a d fp):Go.AM.cY a=true:=by cases o<;>rfl
theorem gn(h:AH)(sz:Nat):b9 (h++[some (0,[])]) (.gs h.length 0 0 0 0 sz true) (.sl sz []) [h.length]:=
 b9.sl_mk (xs:=[]) (zas:=[]) (tail:=[]) (by simp[eQ]) (by simp) (by simp) (by simp) rfl
theorem Tt{h N H':AH}{fp:List Nat}(hl:(h++N).length≤H'.length)(hf:∀c,c∉fp→c<(h++N).length→H'[c]? = (h++N)[c]?)(hfp:∀c∈fp,h.length≤c):∃N',H'=h++N':=by
 refine⟨H'.drop h.length,?_⟩;have hlen:h.length≤H'.length:=by simp at hl;omega
 apply Aa0;intro c;rcases Abc c h.length with g|g
 ·rw[hf c (fun hc=>by have:=hfp c hc;omega) (by simp;omega),Aaa g,Aaa g]
 ·rw[Aar g,AaX,show h.length+(c-h.length)=c by omega]
theorem W0(z:List AV):(List.replicate 0 z).flatten=[]:=rfl
theorem U8(z:List AV):(List.replicate 1 z).flatten=z:=by simp
theorem KO(e:List AV)(l:List (List AV))(h:AH)(sz len:Nat)(cs:List AV):Jd ⟨e,l,h⟩ sz len (some cs)=if cs.all bM=true then .val (.gs h.length 0 0 len len sz true) ⟨e,l,h++[some (0,cs)]⟩else .stuck:=by simp[Jd,St.push]
theorem je(x:AV)(xs:List AV):(x::xs).all bM=(bM x && xs.all bM):=rfl
theorem jg:([]:List AV).all bM=true:=rfl
theorem uJ(k:IntKind)(n:Int):bM (.int k n)=true:=rfl
theorem xp(b:Bool):bM (.bool b)=true:=rfl
theorem vt(b:ByteArray):bM (.str b)=true:=rfl
theorem Sc:bM .nils=true:=rfl
theorem EA:type_of% (And.intro @W0 (And.intro @U8 (And.intro @KO (And.intro @je (And.intro @jg (And.intro @uJ (And.intro @xp (And.intro @vt (And.intro @Sc (And.intro @AaV (And.intro @AaM (@F9)))))))))))):=And.intro @W0 (And.intro @U8 (And.intro @KO (And.intro @je (And.intro @jg (And.intro @uJ (And.intro @xp (And.intro @vt (And.intro @Sc (And.intro @AaV (And.intro @AaM (@F9)))))))))))
end Go.AM
namespace Go.AM
structure cQ (h H:AH):Prop where
 len:h.length≤H.length
 fr:∀c,c<h.length→H[c]? = h[c]?
theorem cQ.refl(h:AH):cQ h h:=⟨AaG _,fun _ _=>rfl⟩
theorem cQ.trans{h1 h2 h3:AH}(a:cQ h1 h2)(b:cQ h2 h3):cQ h1 h3:=⟨Aa1 a.len b.len,fun c hc=>(b.fr c (AaY hc a.len)).trans (a.fr c hc)⟩
theorem cQ.app(h N:AH):cQ h (h++N):=⟨by simp,fun c hc=>Aaa hc⟩
theorem cQ.out{h H:AH}(e:cQ h H):∃N,H=h++N:=by
 refine⟨H.drop h.length,?_⟩;have:=e.len;apply Aa0;intro c;rcases Abc c h.length with g|g
 ·rw[e.fr c g,Aaa g]
 ·rw[Aar g,AaX,show h.length+(c-h.length)=c by omega]
theorem cQ.mark{h H H':AH}{fp:List Nat}(e:cQ h H)(hl:H'.length=H.length)(hf:∀c,c∉fp→H'[c]? = H[c]?)(hp:∀c∈fp,h.length≤c):cQ h H':=
 ⟨by rw[hl];exact e.len,fun c hc=>(hf c (fun hm=>by have:=hp c hm;omega)).trans (e.fr c hc)⟩
theorem b9.ext{h H:AH}{a:AV}{d:CD}{fp:List Nat}(o:b9 h a d fp)(e:cQ h H):b9 H a d fp:=o.frame fun c hc=>e.fr c (o.lt c hc)
theorem aM.ext{h H:AH}{zas:List AV}{ds:List CD}{fp:List Nat}(o:aM h zas ds fp)(e:cQ h H):aM H zas ds fp:=o.frame fun c hc=>e.fr c (o.lt c hc)
theorem b9.fk{α:Type}{H:AH}{v:AV}{sz:Nat}{cd:α→List CD}{c:α→List AV}{l:List α}{fp:List Nat}(hc:∀x,(cd x).map (CD.av true)=c x)(o:b9 H v (.sl sz (l.map cd)) fp):ou H v (.vs true sz false (l.map c)):=by
 have:=o.view.1;rw[CD.pV,List.map_map]at this;have e:((fun x=>List.map (CD.av true) x) ∘ cd)=c:=funext fun x=>hc x;rwa[e]at this
theorem aM.fk{H:AH}{zas:List AV}{cs:List CD}{ys:List AV}{fp:List Nat}(hc:cs.map (CD.av true)=ys)(o:aM H zas cs fp):ou H (.agg zas) (.agg ys):=by
 subst hc;have:=o.snap.spec;refine .agg zas _ this.1 (fun i=>zas.getD i .any) (fun i y hy=>?_) (fun i y hy=>?_)
 ·obtain⟨x,hx,_⟩:=this.2 i y hy;simp[Aan,hx]
 ·obtain⟨x,hx,hf⟩:=this.2 i y hy;simpa[Aan,hx]using hf
theorem aX.c1{h H:AH}{d:CD}{v:AV}(f:aX h [.c d] v H):∃fp,b9 H v d fp∧fp.Nodup∧(∀b∈fp,h.length≤b)∧cQ h H:=by
 obtain⟨new,fp,rfl,o,nd,hb⟩:=f.one;exact⟨fp,o,nd,hb,cQ.app h new⟩
theorem aX.a1{h H:AH}{cs:List CD}{v:AV}(f:aX h [.a cs] v H):∃zas fp,v=.agg zas∧aM H zas cs fp∧fp.Nodup∧(∀b∈fp,h.length≤b)∧cQ h H:=by
 obtain⟨zas,new,fp,e,rfl,o,nd,hb⟩:=f.oneA;exact⟨zas,fp,e,o,nd,hb,cQ.app h new⟩
theorem aX.c2{h H:AH}{d d':CD}(hd:d'.flat=true){v:AV}(f:aX h [.c d,.c d'] v H):∃a fp,v=.tup [a,d'.av true]∧b9 H a d fp∧fp.Nodup∧(∀b∈fp,h.length≤b)∧cQ h H:=by
 obtain⟨vs,new,fp,rfl,rfl,o,nd,hb,_⟩:=f
 match vs,o with
 | [a,a'],⟨f1,f2,e,o1,f3,f4,e',o2,e''⟩=>
  have o2:b9 (h++new) a' d' f3:=o2;have e'':f4=[]:=e'';subst e'';have:a'=d'.av true∧f3=[]:=by
   cases d' with
   | i=>obtain⟨rfl,rfl⟩:=j6.1 o2;simp[CD.mY]
   | b=>obtain⟨rfl,rfl⟩:=oF.1 o2;simp[CD.uC]
   | s=>obtain⟨rfl,rfl⟩:=nF.1 o2;simp[CD.uD]
   | sl=>cases hd
  obtain⟨rfl,rfl⟩:=this;simp at e';subst e';simp at e;subst e;exact⟨a,fp,rfl,o1,nd,hb,cQ.app h new⟩
theorem aX.a2{h H:AH}{cs:List CD}{d':CD}(hd:d'.flat=true){v:AV}(f:aX h [.a cs,.c d'] v H):∃zas fp,v=.tup [.agg zas,d'.av true]∧aM H zas cs fp∧fp.Nodup∧(∀b∈fp,h.length≤b)∧cQ h H:=by
 obtain⟨vs,new,fp,rfl,rfl,o,nd,hb,_⟩:=f
 match vs,o with
 | [a,a'],⟨f1,f2,e,o1,f3,f4,e',o2,e''⟩=>
  have o2:b9 (h++new) a' d' f3:=o2;have e'':f4=[]:=e'';subst e'';obtain⟨zas,rfl,o1⟩:=o1;have:a'=d'.av true∧f3=[]:=by
   cases d' with
   | i=>obtain⟨rfl,rfl⟩:=j6.1 o2;simp[CD.mY]
   | b=>obtain⟨rfl,rfl⟩:=oF.1 o2;simp[CD.uC]
   | s=>obtain⟨rfl,rfl⟩:=nF.1 o2;simp[CD.uD]
   | sl=>cases hd
  obtain⟨rfl,rfl⟩:=this;simp at e';subst e';simp at e;subst e;exact⟨zas,fp,rfl,o1,nd,hb,cQ.app h new⟩
theorem so(a:AV):vb [a]=a:=rfl
theorem rd_c(β:Bool)(d:CD):(RD.c d).av β=d.av β:=rfl
theorem ES(β:Bool)(cs:List CD):(RD.a cs).av β=.agg (cs.map (CD.av β)):=rfl
theorem aZ{h:AH}:uy h [] []:=trivial
theorem aI{h:AH}{x y:AV}{xs ys:List AV}(a:ou h x y)(b:uy h xs ys):uy h (x::xs) (y::ys):=⟨a,b⟩
end Go.AM
namespace Go.AM
theorem L7{H:AH}{v:AV}{sz bytes:Nat}{xs:List (List CD)}{fp:List Nat}(o:b9 H v (.sl sz xs) fp){ys:List AV}{rows:List (List CD)}{f2:List Nat}(nd:(fp++f2).Nodup)(h0:0<sz)
 (hr:∀r∈rows,r.length=sz) (oy:aM H ys rows.flatten f2) (hb:(xs.length+rows.length)*(sz+bytes)≤aU):
 ∃v' H' fp',(∀e l,sS ⟨e,l,H⟩ sz bytes v ys rows.length xs.length=some (v',⟨e,l,H'⟩))∧
  b9 H' v' (.sl sz (xs++rows)) fp'∧fp'.Nodup∧(∀c,c∉fp→c<H.length→H'[c]? = H[c]?)∧H.length≤H'.length∧(∀c∈fp',c∈fp∨c∈f2∨H.length≤c):=by
 have hno:=oy.bM;have hd:=Aab.1 nd;have hyl:ys.length=rows.length*sz:=by
  rw[oy.len];have:=j8 (l:=rows) (f:=fun x=>x) (sz:=sz) hr;simpa using this
 rcases o.qZ with⟨rfl,rfl,rfl⟩|⟨b,g,cap,ex,zas,tail,fp',rfl,rfl,hg,h3,ht,hc,ho⟩
 ·by_cases hz:rows.length=0
  ·have e:rows=[]:=List.length_eq_zero_iff.1 hz;subst e;refine⟨.nils,H,[],fun e l=>?_,.nil _,by simp,fun _ _ _=>rfl,AaG _,by simp⟩;simp only[sS];rw[if_neg (by omega),if_neg (by simp)];rfl
  ·refine⟨.gs H.length 0 0 rows.length rows.length sz false,H++[some (0,ys)],H.length::f2,fun e l=>?_,?_,?_,?_,by simp,?_⟩
   ·simp only[sS,St.push];rw[if_neg (by omega),if_neg (by simp only[AaQ]at hb ⊢;omega),if_neg hz,if_pos hno]
   ·have:=b9.sl_mk (h:=H++[some (0,ys)]) (b:=H.length) (g:=0) (cap:=rows.length) (sz:=sz) (ex:=false) (zas:=ys) (tail:=[]) (xs:=rows) (fp:=f2)
     (by rw[Aas];exact eQ _ _) hr (by simp) (by simp) (oy.grow (new:=[some (0,ys)]))
    simpa using this
   ·exact Aao.2 ⟨fun hm=>by have:=oy.lt _ hm;omega,hd.2.1⟩
   ·intro c _ hl;rw[Aaa hl]
   ·intro c hc;rcases Aax.1 hc with rfl|hc
    ·exact .inr (.inr (AaG _))
    ·exact .inr (.inl hc)
 have hbl:b<H.length:=eS hg;have hal:zas.length=xs.length*sz:=by
  rw[ho.len];have:=j8 (l:=xs) (f:=fun x=>x) (sz:=sz) h3;simpa using this
 have hnb:b∉f2:=fun hm=>hd.2.2 b (by simp) b hm rfl;have hnbp:b∉fp':=(Aao.1 hd.1).1;have hgs:∀z:Nat×List AV,cF (H.set b (some z)) b=some z:=fun z=>by simp[cF,hbl]
 have hfr:∀(z:Option (Nat×List AV)) (c:Nat),c≠b→(H.set b z)[c]? = H[c]?:=fun z c hc=>Aal (Ne.symm hc);have own2:∀z,aM (H.set b z) (zas++ys) (xs++rows).flatten (fp'++f2):=fun z=>by
  rw[Aaq];exact aM.append (ho.frame fun c hc=>hfr z c (fun e=>hnbp (e▸hc))) (oy.frame fun c hc=>hfr z c (fun e=>hnb (e▸hc)))
 have nd2:(b::(fp'++f2)).Nodup:=by simpa using nd
 have h3':∀l∈xs++rows,l.length=sz:=fun l hl=>by
  rcases Aag.1 hl with hl|hl
  ·exact h3 l hl
  ·exact hr l hl
 have mem:∀c∈b::(fp'++f2),c∈b::fp'∨c∈f2∨H.length≤c:=fun c hc=>by
  rcases Aax.1 hc with rfl|hc
  ·exact .inl (by simp)
  ·rcases Aag.1 hc with hc|hc
   ·exact .inl (by simp[hc])
   ·exact .inr (.inl hc)
 by_cases hcap:xs.length+rows.length≤cap
 ·have hroom:(xs.length+rows.length)*sz≤(zas++tail).length:=by
   have h1:(xs.length+rows.length)*sz=xs.length*sz+rows.length*sz:=AaK _ _ _;have h2:rows.length*sz≤(cap-xs.length)*sz:=AaS _ (by omega);have:=hc.2;rw[Aac,hal];omega
  have hroom2:(cap-(xs.length+rows.length))*sz≤(tail.drop ys.length).length:=by
   have h1:cap-xs.length=(cap-(xs.length+rows.length))+rows.length:=by omega
   have h2:=hc.2;rw[h1,AaK]at h2;rw[Aau,hyl];omega
  have hov:c8 (zas++tail) (xs.length*sz) ys=(zas++ys)++tail.drop ys.length:=by
   simp only[c8];rw[←hal,Aa7,Aav,AaA (by omega),show zas.length+ys.length-zas.length=ys.length by omega]
   ·simp
   ·rfl
  refine⟨.gs b g 0 (xs.length+rows.length) cap sz ex,H.set b (some (g,(zas++ys)++tail.drop ys.length)),b::(fp'++f2),fun e l=>?_,?_,nd2,?_,by simp,mem⟩
  ·simp only[sS];rw[if_neg (by omega),if_neg (by omega)];simp only[hg,Aah,if_true,hno];rw[if_pos hcap,if_pos (by rw[Aai];exact hroom),Aai,hov]
  ·have:=b9.sl_mk (h:=H.set b (some (g,(zas++ys)++tail.drop ys.length))) (b:=b) (g:=g) (cap:=cap) (sz:=sz) (ex:=ex) (zas:=zas++ys) (tail:=tail.drop ys.length) (xs:=xs++rows) (fp:=fp'++f2)
    (hgs _) h3' (fun x hx=>ht x (AaT hx)) ⟨by simpa using hcap,by simpa using hroom2⟩ (own2 _)
   simpa using this
  ·intro c hc hl;exact hfr _ c (fun e=>hc (by simp[e]))
 ·refine⟨.gs b (g+1) 0 (xs.length+rows.length) (xs.length+rows.length) sz false,H.set b (some (g+1,zas++ys)),b::(fp'++f2),fun e l=>?_,?_,nd2,?_,by simp,mem⟩
  ·simp only[sS];rw[if_neg (by omega),if_neg (by omega)];simp only[hg,Aah,if_true,hno];rw[if_neg hcap];have:sub (zas++tail) 0 (xs.length*sz)=some zas:=by
    simp only[sub];rw[if_pos (by rw[Aai,←hal,Aac];omega)];simp[←hal]
   rw[this];rfl
  ·have:=b9.sl_mk (h:=H.set b (some (g+1,zas++ys))) (b:=b) (g:=g+1) (cap:=xs.length+rows.length) (sz:=sz) (ex:=false) (zas:=zas++ys) (tail:=[]) (xs:=xs++rows) (fp:=fp'++f2)
    (by rw[Aas];exact hgs _) h3' (by simp) (by simp) (own2 _)
   simpa using this
  ·intro c hc hl;exact hfr _ c (fun e=>hc (by simp[e]))
theorem zF{H:AH}:∀{zas:List AV} {cs:List CD} {fp:List Nat},cs.all CD.flat=true→aM H zas cs fp→fp=[]
 | [],[],_,_,o=>o
 | a::zas,d::ds,fp,h,⟨f1,f2,e,o1,o2⟩=>by
  simp only[AaW,Aa3]at h;have e2:=zF h.2 o2;have e1:f1=[]:=by cases o1<;>first|rfl|(simp[CD.flat]at h)
  rw[e,e1,e2];rfl
theorem dc{H:AH}{v:AV}{sz:Nat}{xs:List (List CD)}{fp:List Nat}(o:b9 H v (.sl sz xs) fp):lenOf v=some xs.length∧Ce false v=some (.int .i64 xs.length):=by
 rcases o.qZ with⟨rfl,rfl,rfl⟩|⟨b,g,cap,ex,zas,tail,fp',rfl,rfl,hg,h3,ht,hc,ho⟩<;>exact⟨rfl,rfl⟩
theorem rY{α:Type}{H:AH}{v:AV}{β:Bool}{sz bytes:Nat}{xs:List (List CD)}{l:List α}{c:α→List AV}{cd:α→List CD}{fp:List Nat}(o:b9 H v (.sl sz xs) fp)(nd:fp.Nodup)(h0:0<sz)
 (hd:∀x,(cd x).length=sz∧(cd x).all CD.flat=true) (hcd:∀x,c x=(cd x).map (CD.av false)) (hb:(xs.length+l.length)*(sz+bytes)≤aU):
 ∃v' H' fp',(∀e L,AI ⟨e,L,H⟩ sz bytes v (iU ⟨e,L,H⟩ sz false (.vs β sz false (l.map c))) (lenOf (.vs β sz false (l.map c))) (lenOf v)=.val v' ⟨e,L,H'⟩)∧
  b9 H' v' (.sl sz (xs++l.map cd)) fp'∧fp'.Nodup∧(∀c,c∉fp→c<H.length→H'[c]? = H[c]?)∧H.length≤H'.length∧(∀c∈fp',c∈fp∨H.length≤c):=by
 have L1:=(dc o).1;have hfl:(l.map cd).flatten.all CD.flat=true:=by
  rw[Aa4,Aa5];intro y hy;obtain⟨x,_,rfl⟩:=Aa2.1 hy;exact(hd x).2
 have oz:aM H ((l.map c).flatten) (l.map cd).flatten []:=by
  rw[yx hcd];exact pI false hfl
 obtain⟨v',H',fp',h1,h2,h3,h4,h5,h6⟩:=L7 (bytes:=bytes) o (f2:=[]) (by simpa using nd) h0 (fun r hr=>by obtain⟨x,_,rfl⟩:=Aa2.1 hr;exact(hd x).1) oz (by simpa using hb);refine⟨v',H',fp',fun e L=>?_,h2,h3,h4,h5,fun c hc=>?_⟩
 ·rw[L1];simp only[iU,St.b6,if_true,lenOf,Aa8,AI];have:=h1 e L;rw[Aa8]at this;rw[this];rfl
 ·rcases h6 c hc with g|g|g
  ·exact .inl g
  ·simp at g
  ·exact .inr g
theorem cQ.CZ{h H0 H':AH}{fp:List Nat}(e:cQ h H0)(hl:H0.length≤H'.length)(hf:∀c,c∉fp→c<H0.length→H'[c]? = H0[c]?)(hp:∀c∈fp,h.length≤c):cQ h H':=
 ⟨Aa1 e.len hl,fun c hc=>(hf c (fun hm=>by have:=hp c hm;omega) (by have:=e.len;omega)).trans (e.fr c hc)⟩
theorem LQ{α:Type}(s:St)(β:Bool)(sz:Nat)(l:List α)(c:α→List AV){k:Nat}(hk:k≤l.length):ud (.sl sz) s (.vs β sz false (l.map c)) (.int .i64 k)=.val (.vs β sz false ((l.drop k).map c)) s:=by
 have e:qM (.int .i64 (k:Int))=some k:=by simp[qM,JC]
 simp only[ud,e,pO];have e2:List.take (l.map c).length (l.map c)=l.map c:=Aa6;simp[AR.nD,List.map_drop,hk];rw[AaB (by simp)]
end Go.AM
namespace Go.AM
variable {P:Program} {Γ:bG}
theorem T.AZ{f:FuncId}{args:List AV}{h:AH}{cs:List CD}{d':CD}(hd:d'.flat=true)(t:T P Γ f args h fun v h'=>∃aa new fp,v=.tup [.agg aa,d'.av true]∧h'=h++new∧aM h' aa cs fp∧fp.Nodup∧∀b∈fp,h.length≤b):T P Γ f args h (aX h [.a cs,.c d']):=
 t.fresh fun v h' ⟨a,new,fp,e1,e2,o,nd,hb⟩=>⟨[.agg a,d'.av true],new,fp,e1,e2,⟨fp,[],by simp,⟨a,rfl,o⟩,⟨[],[],rfl,CD.F7 hd true,rfl⟩⟩,nd,hb⟩
theorem xQ(h:AH){sz:Nat}{ys:List AV}{row:List CD}{f2:List Nat}(hy:ys.length=sz)(o:aM h ys row f2):b9 (h++[some (0,ys)]) (.gs h.length 0 0 1 1 sz true) (.sl sz [row]) (h.length::f2):=
 b9.sl_mk (h:=h++[some (0,ys)]) (b:=h.length) (g:=0) (cap:=1) (sz:=sz) (ex:=true) (zas:=ys) (tail:=[]) (xs:=[row]) (fp:=f2) (by rw[Aas];exact eQ _ _) (by simp[←o.len,hy]) (by simp) (by simp) (by simpa using o.grow (new:=[some (0,ys)]))
theorem cQ.mem{h H:AH}(e:cQ h H)(a b:List AV)(l:List (List AV)):Mem ⟨a,l,h⟩ ⟨b,l,H⟩:=
 ⟨fun _ _ hx=>hx,fun c x hx=>by
  have h1:=fC hx;exact DE (by show H[c]? = _;rw[e.fr c (aL h1)];exact h1)⟩
end Go.AM
namespace Go.AM
section
variable {α:Type} {c:α→List AV} {sz:Nat} (hc:∀x,(c x).length=sz)
include hc
theorem rX{m:List α}{k:Nat}(hk:k<m.length)(tail:List AV):(m.map c).flatten++tail=((m.take k).map c).flatten++(c m[k]++(((m.drop (k+1)).map c).flatten++tail))∧((m.take k).map c).flatten.length=k*sz:=by
 constructor
 ·have e:m=m.take k++m[k]::m.drop (k+1):=by rw[←Aaw hk,AaD]
  conv=>lhs;rw[e]
  simp only[Aa9,Aba,Aaq,Aaf,Aae]
 ·rw[j8 (fun x _=>hc x),AaE,AaH (Nat.le_of_lt hk)]
theorem FV{m:List α}{k:Nat}(hk:k<m.length)(tail:List AV):sub ((m.map c).flatten++tail) (k*sz) sz=some (c m[k]):=by
 obtain⟨h1,h2⟩:=rX hc hk tail;rw[h1];simp only[sub];rw[if_pos (by simp only[Aac,h2,hc];omega),←h2,List.drop_left,Aaj (by rw[hc];exact AaG _),AaB (by rw[hc];exact AaG _)]
theorem Mj{m:List α}{k:Nat}(hk:k<m.length)(x:α)(tail:List AV):c8 ((m.map c).flatten++tail) (k*sz) (c x)=((m.set k x).map c).flatten++tail:=by
 obtain⟨h1,h2⟩:=rX hc hk tail;have hk':k<(m.set k x).length:=by simpa using hk
 obtain⟨h3,h4⟩:=rX hc hk' tail;rw[h1,h3];have:=FD (pre:=((m.take k).map c).flatten) (cs:=c m[k]) (post:=((m.drop (k+1)).map c).flatten++tail) (vs:=c x) (off:=0) (by rw[hc,hc];omega);simp only[h2,AaN]at this;rw[this];have e1:(m.set k x).take k=m.take k:=by rw[List.take_set_of_le (AaG _)]
 have e2:(m.set k x).drop (k+1)=m.drop (k+1):=by rw[List.drop_set_of_lt (by omega)]
 have e3:c8 (c m[k]) 0 (c x)=c x:=by simp[c8,hc]
 rw[e1,e2,e3];simp
theorem I4{m:List α}{k:Nat}(hk:k<m.length)(x:α)(tail:List AV)(hn:(c x).all bM=true){H:AH}{b g:Nat}(h:cF H b=some (g,(m.map c).flatten++tail))(e:List AV)(l:List (List AV)):
 (St.mk e l H).store (.gp b g (k*sz)) (c x)=some ⟨e,l,H.set b (some (g,((m.set k x).map c).flatten++tail))⟩:=by
 have hl:(k*sz)+(c x).length≤((m.map c).flatten++tail).length:=by
  obtain⟨h1,h2⟩:=rX hc hk tail;rw[h1];simp only[Aac,h2,hc];omega
 simp only[St.store,h,Aah,if_true];rw[if_pos hl,Mj hc hk x tail];simp[hn]
theorem BR{m:List α}{i:Nat}(hi:i≤m.length)(z:α)(tail:List AV)(hn:(c z).all bM=true){H:AH}{b g:Nat}(h:cF H b=some (g,(m.map c).flatten++tail))(e:List AV)(l:List (List AV)):
 (St.mk e l H).store (.gp b g (i*sz)) (List.replicate (m.length-i) (c z)).flatten=some ⟨e,l,H.set b (some (g,((m.take i).map c).flatten++((List.replicate (m.length-i) (c z)).flatten++tail)))⟩:=by
 have e1:(m.map c).flatten++tail=((m.take i).map c).flatten++(((m.drop i).map c).flatten++tail):=by
  conv=>lhs;rw[←AaD i m]
  rw[Aa9,Aaq,Aae]
 have h2:((m.take i).map c).flatten.length=i*sz:=by rw[j8 (fun x _=>hc x),AaE,AaH hi]
 have h3:((m.drop i).map c).flatten.length=(m.length-i)*sz:=by rw[j8 (fun x _=>hc x),Aau]
 have h4:(List.replicate (m.length-i) (c z)).flatten.length=(m.length-i)*sz:=by
  have:=B3 (xs:=List.replicate (m.length-i) (c z)) (sz:=sz) (fun l hl=>by rw[(AaZ.1 hl).2];exact hc z);simpa using this
 have h5:(List.replicate (m.length-i) (c z)).flatten.all bM=true:=zh (fun x hx=>by rw[(AaZ.1 hx).2];exact hn);simp only[St.store,h,Aah,if_true];rw[e1,if_pos (by simp only[Aac,h2,h3,h4];omega),if_pos h5];have:=FD (pre:=((m.take i).map c).flatten) (cs:=((m.drop i).map c).flatten) (post:=tail) (vs:=(List.replicate (m.length-i) (c z)).flatten) (off:=0) (by omega);simp only[h2,AaN]at this;rw[this];have e3:c8 ((m.drop i).map c).flatten 0 (List.replicate (m.length-i) (c z)).flatten=(List.replicate (m.length-i) (c z)).flatten:=by simp only[c8,List.take_zero,AaI,Aai,h4];rw[AaA (by omega),Aas]
 rw[e3]
end
theorem Qh{Γ:bG}(gl:Bool)(s:St)(sz:Nat)(z:List AV)(x:X):step Γ gl s (.clr sz z x)=.G5 (Cx s sz z (s.eval Γ x)):=rfl
theorem Dn(s:St){b g len cap sz:Nat}{ex:Bool}{i:Nat}(h1:i≤len)(h2:len≤cap):ud (.sl sz) s (.gs b g 0 len cap sz ex) (.int .i64 i)=.val (.gs b g (i*sz) (len-i) (cap-i) sz ex) s:=by
 have e:qM (.int .i64 (i:Int))=some i:=by simp[qM,JC]
 simp[ud,e,pO,AR.nD,h1,h2]
theorem Hu(s:St){b g len cap sz:Nat}{ex:Bool}{i:Nat}(h2:i≤cap):Cd (.sl sz) s (.gs b g 0 len cap sz ex) (.int .i64 i)=.val (.gs b g 0 i cap sz ex) s:=by
 have e:qM (.int .i64 (i:Int))=some i:=by simp[qM,JC]
 simp[Cd,e,pO,AR.nD,h2]
end Go.AM
namespace Go.AM
theorem J2(k k':IntKind)(a:Int){b:Int}(h:0≤b):∃x,fg .shr .num (.int k a) (.int k' b)=some (.int k x):=⟨_,by simp only[fg];rw[if_pos h]⟩
theorem Ty(k:IntKind)(a b:Int):∃x,fg .xor .num (.int k a) (.int k b)=some (.int k x):=⟨_,by simp only[fg,if_true,lF];rfl⟩
theorem FO(a:Int){m:Nat}(hm:m<4611686018427387904):∃x,fg .and .num (.int .i64 a) (.int .i64 (m:Int))=some (.int .i64 x)∧0≤x∧x≤m:=by
 have e:(BitVec.ofInt 64 (m:Int)).toNat=m:=by
  rw[BitVec.ofInt_natCast,BitVec.toNat_ofNat,Nat.mod_eq_of_lt (by omega)]
 have h1:(BitVec.ofInt 64 a &&& BitVec.ofInt 64 (m:Int)).toNat≤m:=by
  rw[BitVec.toNat_and,e];exact Nat.and_le_right
 refine⟨((BitVec.ofInt 64 a &&& BitVec.ofInt 64 (m:Int)).toNat:Int),?_,by omega,by exact_mod_cast h1⟩;obtain⟨d,hd⟩:∃d,d=(BitVec.ofInt 64 a &&& BitVec.ofInt 64 (m:Int)).toNat:=⟨_,rfl⟩
 rw[←hd]at h1 ⊢;have hw:IntKind.i64.wrap (d:Int)=(d:Int):=jO (by omega) (by omega);have:fg .and .num (.int .i64 a) (.int .i64 (m:Int))=some (.int .i64 (IntKind.i64.wrap (((BitVec.ofInt 64 a &&& BitVec.ofInt 64 (m:Int)).toNat:Nat):Int))):=by simp only[fg,if_true,lF,IntKind.bits];rfl
 rw[this,←hd,hw]
theorem O3{Γ:bG}(gl:Bool)(s:St)(k:IntKind)(x:X):step Γ gl s (.cvi k x)=(match s.eval Γ x with|.int _ n=>.val (.int k (k.wrap n)) s|_=>.stuck):=rfl
def w9(H:AH)(b:Nat)(bs:List Int):Prop:=∃i h:Int,0≤i∧cF H b=some (0,[.vs false 1 false (bs.map fun n=>[.int .u8 n]),.int .i64 i,.int .i64 h])
theorem yu{H:AH}:∀{az:List AV} {cs:List CD} {fp:List Nat},cs.all CD.flat=true→aM H az cs fp→az=cs.map (CD.av false)
 | [],[],_,_,o=>rfl
 | a::az,d::ds,fp,h,⟨f1,f2,e,o1,o2⟩=>by
  simp only[AaW,Aa3]at h;rw[Aba,←yu h.2 o2]
  congr 1
  cases o1 with
  | i=>simp[CD.mY]
  | b=>simp[CD.uC]
  | s=>simp[CD.uD]
  | nil=>simp[CD.flat]at h
  | gs=>simp[CD.flat]at h
theorem BY(l:List Int):(l.map fun n=>[CD.i .i64 n]).flatten.all CD.flat=true:=by
 rw[Aa4,Aa5];intro y hy;obtain⟨x,_,rfl⟩:=Aa2.1 hy;rfl
theorem MN{H:AH}{w:AV}{fp:List Nat}{l:List Int}(o:b9 H w (.sl 1 (l.map fun n=>[.i .i64 n])) fp){k:Nat}(hk:k<l.length):∃p,fh 1 w (k:Int)=some p∧∀(e:List AV) (L:List (List AV)),(St.mk e L H).cells p 1=some [.int .i64 l[k]]:=by
 rcases o.qZ with⟨rfl,e,rfl⟩|⟨b,g,cap,ex,az,tail,fp',rfl,rfl,hg,hsz,ht,hc,hown⟩
 ·have:l=[]:=by simpa using e
  subst this;simp at hk
 have hz:=yu (BY l) hown;have e2:(l.map fun n=>[CD.i .i64 n]).flatten.map (CD.av false)=(l.map fun n=>[AV.int .i64 n]).flatten:=by simp[List.map_flatten,Function.comp_def,CD.mY]
 rw[e2]at hz;subst hz;refine⟨.gp b g (0+k*1),uW (by simpa using hk),fun e L=>?_⟩;rw[b8 hg,Aai];exact FV (c:=fun n:Int=>[AV.int .i64 n]) (sz:=1) (fun _=>rfl) hk tail
structure aP (H h':AH) (b:Nat) (bs:List Int):Prop where
 cur:w9 h' b bs
 len:H.length≤h'.length
 fr:∀c,c<H.length→c≠b→h'[c]? = H[c]?
theorem aP.trans{H h1 h2:AH}{b:Nat}{bs:List Int}(a:aP H h1 b bs)(c:aP h1 h2 b bs):aP H h2 b bs:=
 ⟨c.cur,Aa1 a.len c.len,fun x hx hb=>(c.fr x (AaY hx a.len) hb).trans (a.fr x hx hb)⟩
theorem w9.grow{H:AH}{b:Nat}{bs:List Int}(c:w9 H b bs)(N:AH):w9 (H++N) b bs:=by obtain⟨i,h,hi,hg⟩:=c;exact⟨i,h,hi,zi hg N⟩
theorem w9.ext{H H':AH}{b:Nat}{bs:List Int}(c:w9 H b bs)(e:cQ H H'):w9 H' b bs:=by obtain⟨N,rfl⟩:=e.out;exact c.grow N
theorem aP.pE{H H':AH}{b:Nat}{bs:List Int}(c:w9 H b bs)(e:cQ H H'):aP H H' b bs:=⟨c.ext e,e.len,fun x hx _=>e.fr x hx⟩
theorem aP.own{H H':AH}{b:Nat}{bs:List Int}(d:aP H H' b bs){a:AV}{cd:CD}{fp:List Nat}(o:b9 H a cd fp)(hb:b∉fp):b9 H' a cd fp:=o.frame fun c hc=>d.fr c (o.lt c hc) (fun e=>hb (e▸hc))
end Go.AM
namespace Go.AM
section
variable {P:Program} {Γ:bG}
theorem T.froz{f:FuncId}{args:List AV}{h:AH}{R:List RD→Prop}(t:T P Γ f args h fun v h'=>∃vs rs fp,v=vb vs∧kZ h' vs rs fp∧(∀b∈fp,h.length≤b)∧cQ h h'∧R rs):
 T P Γ f args h fun v h'=>(∃rs,R rs∧v=vb (rs.map (RD.av false)))∧h'=h:=by
 refine t.freeze ?_;rintro v h' ⟨vs,rs,fp,rfl,o,hb,e,r⟩;obtain⟨N,rfl⟩:=e.out;exact⟨h,N,_,rfl,rfl,fun b g cs hb=>.inl hb,o.Ww hb,⟨rs,r,rfl⟩,rfl⟩
theorem kB(s:St)(a b c v:AV)(vs:List AV):CW s 3 (.tup (a::b::c::v::vs))=.val v s:=rfl
end
end Go.AM
namespace Go.AM
section
variable {P:Program} {Θ:ub} {Γ:bG}
def AL(s:St):AV→AV→AR
 | .str v,.int _ n=>.nD s (if 0≤n then (v[n.toNat]?).map fun b=>.int .u8 b.toNat else none)
 | _,_=>.stuck
theorem tS(gl:Bool)(s:St)(x i:X):step Γ gl s (.idxstr x i)=AL s (s.eval Γ x) (s.eval Γ i):=by
 simp only[step];unfold AL;rfl
def iJ(v:ByteArray)(k:Nat):Nat:=(v.data.toList.getD k 0).toNat
theorem CU(s:St){v:ByteArray}{k:Nat}(h:k<v.size):AL s (.str v) (.int .i64 (k:Int))=.val (.int .u8 (iJ v k:Nat)) s:=by
 have e:v[k]? = some v[k]:=getElem?_pos v k h;have e2:v.data.toList[k]? = some v[k]:=by
  have h':k<v.data.size:=h;rw[Array.getElem?_toList,Array.getElem?_eq_getElem h'];rfl
 simp only[AL];rw[if_pos (by omega),Int.toNat_natCast,e];simp only[Option.map_some,AR.nD,iJ,Aan,e2,Option.getD_some]
end
theorem yq(v:ByteArray):Ce true (.str v)=some (.int .i64 v.size):=rfl
end Go.AM
namespace Go.AM
section
variable {Γ:bG}
end
end Go.AM
namespace Go.AM
section
variable {Γ:bG}
end
end Go.AM
namespace Go.AM
theorem aM.focus{h:AH}:∀{zas:List AV} {ds:List CD} {fp:List Nat},aM h zas ds fp→fp.Nodup→∀(j:Nat) (hj:j<ds.length),∃a f,zas[j]? = some a∧b9 h a ds[j] f∧f.Nodup∧(∀c∈f,c∈fp)∧
 ∀(h':AH) (a':AV) (d':CD) (f':List Nat),b9 h' a' d' f'→f'.Nodup→(∀c∈f',c∈f∨c∉fp)→(∀c∈fp,c∉f→h'[c]? = h[c]?)→
  ∃fp',aM h' (zas.set j a') (ds.set j d') fp'∧fp'.Nodup∧(∀c∈fp',c∈fp∨c∈f')∧(∀c∈fp',c∈f→c∈f')
 | [],[],_,_,_,j,hj=>by simp at hj
 | a::zas,d::ds,fp,⟨f1,f2,e,o1,o2⟩,nd,j,hj=>by
  subst e;obtain⟨n1,n2,n3⟩:=Aab.1 nd;cases j with
  | zero=>
   refine⟨a,f1,rfl,o1,n1,fun c hc=>Aap _ hc,fun h' a' d' f' o' nd' hf' fr=>?_⟩;have hdis:∀c∈f',c∉f2:=fun c hc h2=>by
    rcases hf' c hc with g|g
    ·exact n3 c g c h2 rfl
    ·exact g (Aad _ h2)
   refine⟨f'++f2,⟨f',f2,rfl,o',aM.frame o2 fun c hc=>fr c (Aad _ hc) (fun h1=>n3 c h1 c hc rfl)⟩,Aab.2 ⟨nd',n2,fun x hx y hy e=>hdis x hx (e▸hy)⟩,fun c hc=>?_,fun c hc hcf=>?_⟩
   ·rcases Aag.1 hc with g|g
    ·exact .inr g
    ·exact .inl (Aad _ g)
   ·rcases Aag.1 hc with g|g
    ·exact g
    ·exact absurd rfl (n3 c hcf c g)
  | succ j=>
   obtain⟨a0,f,g1,g2,g3,g4,g5⟩:=aM.focus o2 n2 j (by simpa using hj);refine⟨a0,f,by simpa using g1,by simpa using g2,g3,fun c hc=>Aad _ (g4 c hc),fun h' a' d' f' o' nd' hf' fr=>?_⟩;obtain⟨fp',q1,q2,q3,q4⟩:=g5 h' a' d' f' o' nd' (fun c hc=>(hf' c hc).imp id fun hn hm=>hn (Aad _ hm)) (fun c hc hcf=>fr c (Aad _ hc) hcf);have hdis:∀c∈f1,c∉fp':=fun c hc hm=>by
    rcases q3 c hm with g|g
    ·exact n3 c hc c g rfl
    ·rcases hf' c g with g'|g'
     ·exact n3 c hc c (g4 c g') rfl
     ·exact g' (Aap _ hc)
   refine⟨f1++fp',⟨f1,fp',rfl,o1.frame fun c hc=>fr c (Aap _ hc) (fun hm=>n3 c hc c (g4 c hm) rfl),q1⟩,Aab.2 ⟨n1,q2,fun x hx y hy e=>hdis x hx (e▸hy)⟩,fun c hc=>?_,fun c hc hcf=>?_⟩
   ·rcases Aag.1 hc with g|g
    ·exact .inl (Aap _ g)
    ·exact(q3 c g).imp (Aad _) id
   ·rcases Aag.1 hc with g|g
    ·exact absurd rfl (n3 c g c (g4 c hcf))
    ·exact q4 c g hcf
 | [],_::_,_,o,_,_,_=>o.elim
 | _::_,[],_,o,_,_,_=>o.elim
theorem B1{α:Type}{sz:Nat}:∀{xs:List (List α)},(∀l∈xs,l.length=sz)→∀{k off:Nat} (hk:k<xs.length),off<sz→∀d:α,
 xs.flatten.set (k*sz+off) d=(xs.set k (xs[k].set off d)).flatten∧xs.flatten[k*sz+off]? = xs[k][off]?∧k*sz+off<xs.flatten.length
 | [],_,k,off,hk,_,_=>by simp at hk
 | x::xs,hx,0,off,hk,ho,d=>by
  have hl:x.length=sz:=hx x (by simp);refine⟨?_,?_,?_⟩
  ·simp only[AaM,Aai,Aaf,List.set_cons_zero,AaO];rw[AaR _ _ (by omega)]
  ·simp only[AaM,Aai,Aaf,AaO];rw[Aaa (by omega)]
  ·simp;omega
 | x::xs,hx,k+1,off,hk,ho,d=>by
  have hl:x.length=sz:=hx x (by simp);obtain⟨h1,h2,h3⟩:=B1 (xs:=xs) (fun l h=>hx l (by simp[h])) (k:=k) (off:=off) (by simpa using hk) ho d;have e:(k+1)*sz+off=x.length+(k*sz+off):=by rw[AaK];omega
  refine⟨?_,?_,?_⟩
  ·simp only[Aaf,List.set_cons_succ,AaP];rw[e,List.set_append_right _ _ (by omega),Aam,h1]
  ·simp only[Aaf,AaP];rw[e,Aar (by omega),Aam,h2]
  ·simp only[Aaf,Aac];omega
theorem b9.lens{H:AH}{w:AV}{sz:Nat}{xs:List (List CD)}{fp:List Nat}(o:b9 H w (.sl sz xs) fp)(nd:fp.Nodup){k off:Nat}(hk:k<xs.length)(ho:off<sz)(hl:off<xs[k].length):
 ∃b g a f,fh sz w (k:Int)=some (.gp b g (k*sz))∧b<H.length∧b∈fp∧(∀(e:List AV) (L:List (List AV)),(St.mk e L H).cells (.gp b g (k*sz+off)) 1=some [a])∧b9 H a (xs[k][off]) f∧f.Nodup∧(∀c∈f,c∈fp)∧b∉f∧
  ∀(H':AH) (a':AV) (d':CD) (f':List Nat),b9 H' a' d' f'→f'.Nodup→(∀c∈f',c∈f∨c∉fp)→(∀c∈fp,c∉f→H'[c]? = H[c]?)→
   ∃H'' fp',(∀(e:List AV) (L:List (List AV)),(St.mk e L H').store (.gp b g (k*sz+off)) [a']=some ⟨e,L,H''⟩)∧b9 H'' w (.sl sz (xs.set k (xs[k].set off d'))) fp'∧fp'.Nodup∧(∀c∈fp',c∈fp∨c∈f')∧H''.length=H'.length∧∀c,c≠b→H''[c]? = H'[c]?:=by
 rcases o.qZ with⟨rfl,e,rfl⟩|⟨b,g,cap,ex,az,tail,fp',rfl,rfl,hg,hsz,ht,hc,hown⟩
 ·subst e;simp at hk
 obtain⟨nb,nd'⟩:=Aao.1 nd;have hf0:=B1 hsz hk ho xs[k][off];have hj:k*sz+off<xs.flatten.length:=hf0.2.2;have hjl:k*sz+off<az.length:=by rw[hown.len];exact hj
 obtain⟨a,f,h1,h2,h3,h4,h5⟩:=hown.focus nd' (k*sz+off) hj;have hd:xs.flatten[k*sz+off]=xs[k][off]:=by
  have:=hf0.2.1;rw[Aay hj,Aay hl]at this;exact Option.some.inj this
 rw[hd]at h2;have hbl:b<H.length:=eS hg;refine⟨b,g,a,f,by have:=uW (b:=b) (g:=g) (off:=0) (len:=xs.length) (cap:=cap) (sz:=sz) (ex:=ex) hk;rwa[Aai]at this,hbl,by simp,fun e L=>?_,h2,h3,fun c hc=>Aat _ (h4 c hc),fun hb=>nb (h4 b hb),?_⟩
 ·rw[b8 hg];unfold sub;rw[if_pos (by simp;omega),Aak (by omega)];rw[Aay hjl]at h1;rw[Aaw hjl,Option.some.inj h1];rfl
 ·intro H' a' d' f' o' nd2 hf' fr;have hgb:cF H' b=some (g,az++tail):=by
   have:=fr b (by simp) (fun hb=>nb (h4 b hb));unfold cF at hg ⊢;rw[this];exact hg
  have hbl':b<H'.length:=eS hgb;have hbf':b∉f':=fun hb=>by
   rcases hf' b hb with q|q
   ·exact nb (h4 b q)
   ·exact q (by simp)
  have key:=h5 (H'.set b (some (g,az.set (k*sz+off) a'++tail))) a' d' f' (o'.frame fun c hc=>Aal (fun e:b=c=>hbf' (by rw[e];exact hc))) nd2 (fun c hc=>(hf' c hc).imp id fun hn hm=>hn (Aat _ hm)) (fun c hc hcf=>by
   rw[Aal (fun e:b=c=>nb (by rw[e];exact hc))];exact fr c (Aat _ hc) hcf)
  obtain⟨fq,q1,q2,q3,_⟩:=key;have hbq:b∉fq:=fun hb=>by
   rcases q3 b hb with q|q
   ·exact nb q
   ·exact hbf' q
  refine⟨H'.set b (some (g,az.set (k*sz+off) a'++tail)),b::fq,fun e L=>?_,?_,Aao.2 ⟨hbq,q2⟩,fun c hc=>?_,by simp,fun c hcb=>Aal (Ne.symm hcb)⟩
  ·simp only[St.store,hgb,Aah,if_true,AaF,AaQ,AaW,List.all_nil,o'.bM,AaV];rw[if_pos (by simp;omega)]
   congr 3
   simp only[c8,AaF,AaQ];rw[Aaj (by omega),Aak (by omega),←Aae,Aaz,if_pos hjl];simp
  ·have hset:=(B1 hsz hk ho d').1;rw[hset]at q1;have:=b9.sl_mk (h:=H'.set b (some (g,az.set (k*sz+off) a'++tail))) (b:=b) (g:=g) (cap:=cap) (sz:=sz) (ex:=ex) (zas:=az.set (k*sz+off) a') (tail:=tail) (xs:=xs.set k (xs[k].set off d')) (fp:=fq)
    (by simp[cF,hbl']) (fun y hy=>by
     rcases AaJ hy with g|g
     ·exact hsz y g
     ·rw[g,List.length_set];exact hsz _ (AaL hk)) ht (by simpa using hc) q1
   simpa using this
  ·rcases Aax.1 hc with rfl|hc
   ·exact .inl (by simp)
   ·exact(q3 c hc).imp (Aat _) id
end Go.AM
namespace Go.AM
theorem de{e:List AV}{L:List (List AV)}{h:AH}{i off n:Nat}{z:List AV}(hi:L[i]? = some z):(St.mk e L h).cells (.lp i off) n=sub z off n:=by
 simp only[St.cells,hi,Aah]
theorem tR{e:List AV}{L:List (List AV)}{h:AH}{i off:Nat}{z:List AV}{v:AV}(hi:L[i]? = some z)(ho:off+1≤z.length)(hv:cn v=true):(St.mk e L h).store (.lp i off) [v]=some ⟨e,L.set i (c8 z off [v]),h⟩:=by
 simp[St.store,hi,ho,hv]
theorem pP{e:List AV}{L:List (List AV)}{h:AH}{i:Nat}{z vs:List AV}(hi:L[i]? = some z)(ho:vs.length=z.length)(hv:vs.all cn=true):(St.mk e L h).store (.lp i 0) vs=some ⟨e,L.set i vs,h⟩:=by
 simp only[St.store,hi,Aah,Aai];rw[if_pos (by omega),hv,if_pos rfl]
 congr 3
 simp[c8,ho]
theorem ju{L:List (List AV)}{i:Nat}{z:List AV}(hi:L[i]? = some z)(x:List (List AV)):(L++x)[i]? = some z:=by
 rw[Aaa (aL hi)];exact hi
theorem nZ{L:List (List AV)}{i j:Nat}{z y:List AV}(hi:L[i]? = some z)(hij:j≠i):(L.set j y)[i]? = some z:=by
 rw[Aal hij];exact hi
theorem mO{L:List (List AV)}{i:Nat}{z y:List AV}(hi:L[i]? = some z):(L.set i y)[i]? = some y:=by
 rw[List.getElem?_set_self (aL hi)]
theorem xT(L:List (List AV))(x:List AV):(L++[x])[L.length]? = some x:=by simp
theorem b9.row{H:AH}{w:AV}{sz:Nat}{xs:List (List CD)}{fp:List Nat}(o:b9 H w (.sl sz xs) fp)(nd:fp.Nodup){k:Nat}(hk:k<xs.length):
 ∃b g az f,fh sz w (k:Int)=some (.gp b g (k*sz))∧b<H.length∧b∈fp∧(∀(e:List AV) (L:List (List AV)),(St.mk e L H).cells (.gp b g (k*sz)) sz=some az)∧
  (∀(e:List AV) (L:List (List AV)) (off n:Nat),off+n≤sz→(St.mk e L H).cells (.gp b g (k*sz+off)) n=sub az off n)∧aM H az xs[k] f∧f.Nodup∧(∀c∈f,c∈fp)∧az.length=sz:=by
 rcases o.qZ with⟨rfl,e,rfl⟩|⟨b,g,cap,ex,az,tail,fp',rfl,rfl,hg,hsz,ht,hc,hown⟩
 ·subst e;simp at hk
 obtain⟨nb,nd'⟩:=Aao.1 nd;have hfl:xs.flatten=(xs.take k).flatten++(xs[k]++(xs.drop (k+1)).flatten):=by
  rw[←Aaf,←Aaw hk,←Aaq,AaD]
 rw[hfl]at hown;obtain⟨a1,a2,f1,f2,e1,e2,o1,o2⟩:=hown.split;obtain⟨a3,a4,f3,f4,e3,e4,o3,o4⟩:=o2.split;subst e1 e2 e3 e4;have l1:a1.length=k*sz:=by
  rw[o1.len];have:∀(ys:List (List CD)),(∀l∈ys,l.length=sz)→ys.flatten.length=ys.length*sz:=fun ys=>by
   induction ys with
   | nil=>intro _;simp
   | cons y ys ih=>intro h;rw[Aaf,Aac,ih (fun l hl=>h l (by simp[hl])),h y (by simp),AaF,AaK];omega
  rw[this _ (fun l hl=>hsz l (AaU hl)),AaE,AaH (by omega)]
 have l3:a3.length=sz:=by rw[o3.len];exact hsz _ (AaL hk)
 have hcell:∀(e:List AV) (L:List (List AV)) (off n:Nat),off+n≤sz→(St.mk e L H).cells (.gp b g (k*sz+off)) n=sub a3 off n:=fun e L off n hn=>by
  rw[b8 hg];unfold sub;rw[if_pos (by simp;omega),if_pos (by omega)]
  congr 1
  rw[Aae,Aav,AaC (by omega),AaI,l1,Aam,Aae,Aak (by omega),Aaj (by rw[Aau];omega)]
 obtain⟨n1,n2,n3⟩:=Aab.1 nd';obtain⟨n4,n5,n6⟩:=Aab.1 n2;refine⟨b,g,a3,f3,by have:=uW (b:=b) (g:=g) (off:=0) (len:=xs.length) (cap:=cap) (sz:=sz) (ex:=ex) hk;rwa[Aai]at this,eS hg,by simp,fun e L=>?_,hcell,o3,n4,fun c hc=>by simp[hc],l3⟩;have:=hcell e L 0 sz (by omega);rw[AaN]at this;rw[this];unfold sub;rw[if_pos (by omega),List.drop_zero,←l3,Aa6]
end Go.AM
namespace Go.AM
theorem lf4(env:List AV)(L zs:List (List AV))(a0 a1 a2 a3 z:List AV)(h:AH)(off n0:Nat):(St.mk env (L++a0::a1::a2::a3::z::zs) h).cells (.lp (L.length+4) off) n0=sub z off n0:=dZ (i:=4) rfl
theorem sf4(env:List AV)(L zs:List (List AV))(a0 a1 a2 a3 z:List AV)(h:AH)(off:Nat)(vs:List AV):(St.mk env (L++a0::a1::a2::a3::z::zs) h).store (.lp (L.length+4) off) vs=qp (fun z'=>⟨env,L++a0::a1::a2::a3::z'::zs,h⟩) (lK ⟨env,L++a0::a1::a2::a3::z::zs,h⟩ (.lp (L.length+4) off) vs) (uh z off vs):=
 iv fun _ hs=>eF (i:=4) rfl hs
theorem lf5(env:List AV)(L zs:List (List AV))(a0 a1 a2 a3 a4 z:List AV)(h:AH)(off n0:Nat):(St.mk env (L++a0::a1::a2::a3::a4::z::zs) h).cells (.lp (L.length+5) off) n0=sub z off n0:=dZ (i:=5) rfl
theorem sf5(env:List AV)(L zs:List (List AV))(a0 a1 a2 a3 a4 z:List AV)(h:AH)(off:Nat)(vs:List AV):(St.mk env (L++a0::a1::a2::a3::a4::z::zs) h).store (.lp (L.length+5) off) vs=qp (fun z'=>⟨env,L++a0::a1::a2::a3::a4::z'::zs,h⟩) (lK ⟨env,L++a0::a1::a2::a3::a4::z::zs,h⟩ (.lp (L.length+5) off) vs) (uh z off vs):=
 iv fun _ hs=>eF (i:=5) rfl hs
theorem lf6(env:List AV)(L zs:List (List AV))(a0 a1 a2 a3 a4 a5 z:List AV)(h:AH)(off n0:Nat):(St.mk env (L++a0::a1::a2::a3::a4::a5::z::zs) h).cells (.lp (L.length+6) off) n0=sub z off n0:=dZ (i:=6) rfl
theorem sf6(env:List AV)(L zs:List (List AV))(a0 a1 a2 a3 a4 a5 z:List AV)(h:AH)(off:Nat)(vs:List AV):(St.mk env (L++a0::a1::a2::a3::a4::a5::z::zs) h).store (.lp (L.length+6) off) vs=qp (fun z'=>⟨env,L++a0::a1::a2::a3::a4::a5::z'::zs,h⟩) (lK ⟨env,L++a0::a1::a2::a3::a4::a5::z::zs,h⟩ (.lp (L.length+6) off) vs) (uh z off vs):=
 iv fun _ hs=>eF (i:=6) rfl hs
theorem lf7(env:List AV)(L zs:List (List AV))(a0 a1 a2 a3 a4 a5 a6 z:List AV)(h:AH)(off n0:Nat):(St.mk env (L++a0::a1::a2::a3::a4::a5::a6::z::zs) h).cells (.lp (L.length+7) off) n0=sub z off n0:=dZ (i:=7) rfl
theorem sf7(env:List AV)(L zs:List (List AV))(a0 a1 a2 a3 a4 a5 a6 z:List AV)(h:AH)(off:Nat)(vs:List AV):(St.mk env (L++a0::a1::a2::a3::a4::a5::a6::z::zs) h).store (.lp (L.length+7) off) vs=qp (fun z'=>⟨env,L++a0::a1::a2::a3::a4::a5::a6::z'::zs,h⟩) (lK ⟨env,L++a0::a1::a2::a3::a4::a5::a6::z::zs,h⟩ (.lp (L.length+7) off) vs) (uh z off vs):=
 iv fun _ hs=>eF (i:=7) rfl hs
theorem lf8(env:List AV)(L zs:List (List AV))(a0 a1 a2 a3 a4 a5 a6 a7 z:List AV)(h:AH)(off n0:Nat):(St.mk env (L++a0::a1::a2::a3::a4::a5::a6::a7::z::zs) h).cells (.lp (L.length+8) off) n0=sub z off n0:=dZ (i:=8) rfl
theorem sf8(env:List AV)(L zs:List (List AV))(a0 a1 a2 a3 a4 a5 a6 a7 z:List AV)(h:AH)(off:Nat)(vs:List AV):(St.mk env (L++a0::a1::a2::a3::a4::a5::a6::a7::z::zs) h).store (.lp (L.length+8) off) vs=qp (fun z'=>⟨env,L++a0::a1::a2::a3::a4::a5::a6::a7::z'::zs,h⟩) (lK ⟨env,L++a0::a1::a2::a3::a4::a5::a6::a7::z::zs,h⟩ (.lp (L.length+8) off) vs) (uh z off vs):=
 iv fun _ hs=>eF (i:=8) rfl hs
theorem lf9(env:List AV)(L zs:List (List AV))(a0 a1 a2 a3 a4 a5 a6 a7 a8 z:List AV)(h:AH)(off n0:Nat):(St.mk env (L++a0::a1::a2::a3::a4::a5::a6::a7::a8::z::zs) h).cells (.lp (L.length+9) off) n0=sub z off n0:=dZ (i:=9) rfl
theorem sf9(env:List AV)(L zs:List (List AV))(a0 a1 a2 a3 a4 a5 a6 a7 a8 z:List AV)(h:AH)(off:Nat)(vs:List AV):(St.mk env (L++a0::a1::a2::a3::a4::a5::a6::a7::a8::z::zs) h).store (.lp (L.length+9) off) vs=qp (fun z'=>⟨env,L++a0::a1::a2::a3::a4::a5::a6::a7::a8::z'::zs,h⟩) (lK ⟨env,L++a0::a1::a2::a3::a4::a5::a6::a7::a8::z::zs,h⟩ (.lp (L.length+9) off) vs) (uh z off vs):=
 iv fun _ hs=>eF (i:=9) rfl hs
theorem lf10(env:List AV)(L zs:List (List AV))(a0 a1 a2 a3 a4 a5 a6 a7 a8 a9 z:List AV)(h:AH)(off n0:Nat):(St.mk env (L++a0::a1::a2::a3::a4::a5::a6::a7::a8::a9::z::zs) h).cells (.lp (L.length+10) off) n0=sub z off n0:=dZ (i:=10) rfl
theorem Xn(env:List AV)(L zs:List (List AV))(a0 a1 a2 a3 a4 a5 a6 a7 a8 a9 z:List AV)(h:AH)(off:Nat)(vs:List AV):(St.mk env (L++a0::a1::a2::a3::a4::a5::a6::a7::a8::a9::z::zs) h).store (.lp (L.length+10) off) vs=qp (fun z'=>⟨env,L++a0::a1::a2::a3::a4::a5::a6::a7::a8::a9::z'::zs,h⟩) (lK ⟨env,L++a0::a1::a2::a3::a4::a5::a6::a7::a8::a9::z::zs,h⟩ (.lp (L.length+10) off) vs) (uh z off vs):=
 iv fun _ hs=>eF (i:=10) rfl hs
theorem WN(env:List AV)(L zs:List (List AV))(a0 a1 a2 a3 a4 a5 a6 a7 a8 a9 a10 z:List AV)(h:AH)(off n0:Nat):(St.mk env (L++a0::a1::a2::a3::a4::a5::a6::a7::a8::a9::a10::z::zs) h).cells (.lp (L.length+11) off) n0=sub z off n0:=dZ (i:=11) rfl
theorem sf11(env:List AV)(L zs:List (List AV))(a0 a1 a2 a3 a4 a5 a6 a7 a8 a9 a10 z:List AV)(h:AH)(off:Nat)(vs:List AV):(St.mk env (L++a0::a1::a2::a3::a4::a5::a6::a7::a8::a9::a10::z::zs) h).store (.lp (L.length+11) off) vs=qp (fun z'=>⟨env,L++a0::a1::a2::a3::a4::a5::a6::a7::a8::a9::a10::z'::zs,h⟩) (lK ⟨env,L++a0::a1::a2::a3::a4::a5::a6::a7::a8::a9::a10::z::zs,h⟩ (.lp (L.length+11) off) vs) (uh z off vs):=
 iv fun _ hs=>eF (i:=11) rfl hs
theorem Y5(env:List AV)(L zs:List (List AV))(a0 a1 a2 a3 a4 a5 a6 a7 a8 a9 a10 a11 z:List AV)(h:AH)(off n0:Nat):(St.mk env (L++a0::a1::a2::a3::a4::a5::a6::a7::a8::a9::a10::a11::z::zs) h).cells (.lp (L.length+12) off) n0=sub z off n0:=dZ (i:=12) rfl
theorem VL(env:List AV)(L zs:List (List AV))(a0 a1 a2 a3 a4 a5 a6 a7 a8 a9 a10 a11 z:List AV)(h:AH)(off:Nat)(vs:List AV):(St.mk env (L++a0::a1::a2::a3::a4::a5::a6::a7::a8::a9::a10::a11::z::zs) h).store (.lp (L.length+12) off) vs=qp (fun z'=>⟨env,L++a0::a1::a2::a3::a4::a5::a6::a7::a8::a9::a10::a11::z'::zs,h⟩) (lK ⟨env,L++a0::a1::a2::a3::a4::a5::a6::a7::a8::a9::a10::a11::z::zs,h⟩ (.lp (L.length+12) off) vs) (uh z off vs):=
 iv fun _ hs=>eF (i:=12) rfl hs
theorem qH:type_of% (And.intro @lf4 (And.intro @sf4 (And.intro @lf5 (And.intro @sf5 (And.intro @lf6 (And.intro @sf6 (And.intro @lf7 (And.intro @sf7 (And.intro @lf8 (And.intro @sf8 (And.intro @lf9 (And.intro @sf9 (And.intro @lf10 (And.intro @Xn (And.intro @WN (And.intro @sf11 (And.intro @Y5 @VL))))))))))))))))):=And.intro @lf4 (And.intro @sf4 (And.intro @lf5 (And.intro @sf5 (And.intro @lf6 (And.intro @sf6 (And.intro @lf7 (And.intro @sf7 (And.intro @lf8 (And.intro @sf8 (And.intro @lf9 (And.intro @sf9 (And.intro @lf10 (And.intro @Xn (And.intro @WN (And.intro @sf11 (And.intro @Y5 @VL))))))))))))))))
end Go.AM
namespace Go.AM
theorem Kl{pre row post:List AV}{i n:Nat}(hi:i+n≤row.length):sub (pre++row++post) (pre.length+i) n=sub row i n:=by
 unfold sub;rw[if_pos (by simp;omega),if_pos hi,Aae,Aav,AaC (by omega),AaI,Aam,Aak (by omega),Aaj (by rw[Aau];omega)]
theorem Jq{pre row post vs:List AV}{i:Nat}(hi:i+vs.length≤row.length):c8 (pre++row++post) (pre.length+i) vs=pre++c8 row i vs++post:=by
 unfold c8;rw[Aae pre row post,List.take_append,AaB (show pre.length≤pre.length+i by omega),Aam,Aaj (show i≤row.length by omega),
  Aav,AaC (show pre.length≤pre.length+i+vs.length by omega),AaI,show pre.length+i+vs.length-pre.length=i+vs.length by omega,Aak hi]
 simp only[Aae]
structure pj (H:AH) (b g:Nat) (pre row post:List AV):Prop where
 eq:cF H b=some (g,pre++row++post)
theorem pj.lt{H:AH}{b g:Nat}{pre row post:List AV}(m:pj H b g pre row post):b<H.length:=eS m.eq
theorem pj.cells{H:AH}{b g:Nat}{pre row post:List AV}(m:pj H b g pre row post)(e:List AV)(L:List (List AV))(i n:Nat)(hi:i+n≤row.length):(St.mk e L H).cells (.gp b g (pre.length+i)) n=sub row i n:=by
 rw[b8 m.eq,Kl hi]
theorem pj.sH{H:AH}{b g:Nat}{pre row post:List AV}(m:pj H b g pre row post)(e:List AV)(L:List (List AV))(n:Nat)(hi:n≤row.length):(St.mk e L H).cells (.gp b g pre.length) n=sub row 0 n:=by
 have:=m.cells e L 0 n (by omega);rwa[AaN]at this
theorem pj.frame{H H':AH}{b g:Nat}{pre row post:List AV}(m:pj H b g pre row post)(h:H'[b]? = H[b]?):pj H' b g pre row post:=⟨by have:=m.eq;unfold cF at this ⊢;rw[h];exact this⟩
theorem pj.store{H:AH}{b g:Nat}{pre row post:List AV}(m:pj H b g pre row post){i:Nat}{vs:List AV}(hi:i+vs.length≤row.length)(hv:vs.all bM=true):
 ∃H',(∀(e:List AV) (L:List (List AV)),(St.mk e L H).store (.gp b g (pre.length+i)) vs=some ⟨e,L,H'⟩)∧pj H' b g pre (c8 row i vs) post∧H'.length=H.length∧∀c,c≠b→H'[c]? = H[c]?:=by
 refine⟨H.set b (some (g,pre++c8 row i vs++post)),fun e L=>?_,⟨?_⟩,by simp,fun c hc=>Aal (Ne.symm hc)⟩
 ·simp only[St.store,m.eq,Aah,if_true];rw[if_pos (by simp;omega),hv,if_pos rfl,Jq hi]
 ·have:=m.lt;simp[cF,this]
theorem pj.nil{H:AH}{b g:Nat}{row:List AV}(h:cF H b=some (g,row)):pj H b g [] row []:=⟨by simpa using h⟩
theorem pj.snap{H:AH}{b g:Nat}{pre row post ys:List AV}(m:pj H b g pre row post)(s:ou H (.agg row) (.agg ys)):ou H (.gp b g pre.length) (.ip true ys):=by
 have key:∀(i:Nat) (y:AV),ys[i]? = some y→∃x,row[i]? = some x∧ou H x y:=by
  cases s with
  | same=>exact fun i y hy=>⟨y,hy,.same _⟩
  | agg _ _ h1 f h2 r=>exact fun i y hy=>⟨f i,h2 i y hy,r i y hy⟩
 refine .gp b g pre.length (pre++row++post) ys (fun i=>row.getD i .any) (fC m.eq) (fun j x hx=>?_) (fun j x hx=>?_)
 ·obtain⟨z,hz,_⟩:=key j x hx;have hj:=aL hz;rw[Aae,Aar (by omega),Aam,Aaa hj,hz];simp[Aan,hz]
 ·obtain⟨z,hz,hs⟩:=key j x hx;simpa[Aan,hz]using hs
theorem b9.sw{H:AH}{w:AV}{sz:Nat}{xs:List (List CD)}{fp:List Nat}(o:b9 H w (.sl sz xs) fp)(nd:fp.Nodup){k:Nat}(hk:k<xs.length):
 ∃b g pre row post f,fh sz w (k:Int)=some (.gp b g pre.length)∧pj H b g pre row post∧row.length=sz∧aM H row xs[k] f∧f.Nodup∧(∀c∈f,c∈fp)∧b∈fp∧b∉f∧
  ∀(H':AH) (row':List AV) (d':List CD) (f':List Nat),aM H' row' d' f'→f'.Nodup→d'.length=sz→(∀c∈f',c∈f∨c∉fp)→pj H' b g pre row' post→(∀c∈fp,c∉f→c≠b→H'[c]? = H[c]?)→
   ∃fp',b9 H' w (.sl sz (xs.set k d')) fp'∧fp'.Nodup∧(∀c∈fp',c∈fp∨c∈f'):=by
 rcases o.qZ with⟨rfl,e,rfl⟩|⟨b,g,cap,ex,az,tail,fp',rfl,rfl,hg,hsz,ht,hc,hown⟩
 ·subst e;simp at hk
 obtain⟨nb,nd'⟩:=Aao.1 nd;have hfl:∀d:List CD,(xs.set k d).flatten=(xs.take k).flatten++(d++(xs.drop (k+1)).flatten):=fun d=>by
  rw[←Aaf,←Aaq,Aaz,if_pos hk]
 have hf0:=hfl xs[k];rw[List.set_getElem_self]at hf0;rw[hf0]at hown;obtain⟨a1,a2,f1,f2,e1,e2,o1,o2⟩:=hown.split;obtain⟨a3,a4,f3,f4,e3,e4,o3,o4⟩:=o2.split;subst e1 e2 e3 e4;have l1:a1.length=k*sz:=by
  rw[o1.len];have:∀(ys:List (List CD)),(∀l∈ys,l.length=sz)→ys.flatten.length=ys.length*sz:=fun ys=>by
   induction ys with
   | nil=>intro _;simp
   | cons y ys ih=>intro h;rw[Aaf,Aac,ih (fun l hl=>h l (by simp[hl])),h y (by simp),AaF,AaK];omega
  rw[this _ (fun l hl=>hsz l (AaU hl)),AaE,AaH (by omega)]
 have l3:a3.length=sz:=by rw[o3.len];exact hsz _ (AaL hk)
 obtain⟨n1,n2,n3⟩:=Aab.1 nd';obtain⟨n4,n5,n6⟩:=Aab.1 n2;refine⟨b,g,a1,a3,a4++tail,f3,by have:=uW (b:=b) (g:=g) (off:=0) (len:=xs.length) (cap:=cap) (sz:=sz) (ex:=ex) hk;rwa[Aai,←l1]at this,⟨by rw[hg];simp⟩,l3,o3,n4,fun c hc=>by simp[hc],by simp,fun hb=>nb (by simp[hb]),?_⟩;intro H' row' d' f' o' nd2 hdl hf' hm fr;have hbf':b∉f':=fun hb=>by
  rcases hf' b hb with q|q
  ·exact nb (by simp[q])
  ·exact q (by simp)
 have d1:∀c∈f',c∉f1:=fun c hc h1=>by
  rcases hf' c hc with q|q
  ·exact n3 c h1 c (Aap _ q) rfl
  ·exact q (by simp[h1])
 have d4:∀c∈f',c∉f4:=fun c hc h1=>by
  rcases hf' c hc with q|q
  ·exact n6 c q c h1 rfl
  ·exact q (by simp[h1])
 have o1':=o1.frame (h':=H') fun c hc=>fr c (by simp[hc]) (fun h3=>n3 c hc c (Aap _ h3) rfl) (fun e=>nb (by rw[←e];simp[hc]));have o4':=o4.frame (h':=H') fun c hc=>fr c (by simp[hc]) (fun h3=>n6 c h3 c hc rfl) (fun e=>nb (by rw[←e];simp[hc]));refine⟨b::(f1++(f'++f4)),?_,Aao.2 ⟨?_,Aab.2 ⟨n1,Aab.2 ⟨nd2,n5,fun x hx y hy e=>d4 x hx (e▸hy)⟩,fun x hx y hy e=>?_⟩⟩,fun c hc=>?_⟩
 ·have:=b9.sl_mk (h:=H') (b:=b) (g:=g) (cap:=cap) (sz:=sz) (ex:=ex) (zas:=a1++(row'++a4)) (tail:=tail) (xs:=xs.set k d') (fp:=f1++(f'++f4))
   (by rw[hm.eq];simp) (fun y hy=>by
    rcases AaJ hy with g|g
    ·exact hsz y g
    ·rw[g,hdl]) ht (by simpa using hc) (by rw[hfl];exact o1'.append (o'.append o4'))
  simpa using this
 ·simp only[Aag,not_or];exact⟨fun h=>nb (by simp[h]),hbf',fun h=>nb (by simp[h])⟩
 ·subst e;rcases Aag.1 hy with q|q
  ·exact d1 x q hx
  ·exact n3 x hx x (Aad _ q) rfl
 ·simp only[Aax,Aag]at hc ⊢;rcases hc with q|q|q|q
  ·exact .inl (.inl q)
  ·exact .inl (.inr (.inl q))
  ·exact .inr q
  ·exact .inl (.inr (.inr (.inr q)))
end Go.AM
