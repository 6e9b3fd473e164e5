import Derived.Test.YtdlbaonelfcahaaGreatDoorAmG9
import Derived.Test.YtdlbaonelfcahaaGreatDoorAmG6
import Derived.Test.YtdlbaonelfcahaaGreatDoorAmG8
import Derived.Test.YtdlbaonelfcahaaGreatDoorAmG7
import Derived.Sort.Grow
import Derived.Shelf.Strconv.Itoa3
import Derived.Shelf.Strconv.AtoiAll
import Derived.Shelf.Small.Wraps
import Derived.Lib.AtoiTie
import Derived.Lib.Split
import Derived.Lib.Replace
import Derived.Lib.IndexMore
set_option linter.unusedVariables false
set_option linter.unusedSimpArgs false
namespace Go.AM
theorem aV.Br{H:AH}{zas:List AV}{xs:List (List CD)}{f1:List Nat}(o1:aV H zas xs.flatten f1){ys:List AV}{row:List CD}{f2:List Nat}(o2:aV H ys row f2):aV H (zas++ys) (xs++[row]).flatten (f1++f2):=by
  rw[List.flatten_append];simpa using o1.append o2
theorem dz{H:AH}{v:AV}{sz bytes:Nat}{xs:List (List CD)}{fp:List Nat}(o:bO H v (.sl sz xs) fp){ys:List AV}{row:List CD}{f2:List Nat}(nd:(fp++f2).Nodup)(h0:0<sz)(hy:ys.length=sz)
    (oy:aV H ys row f2) (hb:(xs.length+1)*(sz+bytes)≤aX):
    ∃v' H' fp',(∀e l,lK ⟨e,l,H++[some (0,ys)]⟩ sz bytes v (cH ⟨e,l,H++[some (0,ys)]⟩ sz false (.gs H.length 0 0 1 1 sz true)) (lenOf (.gs H.length 0 0 1 1 sz true)) (lenOf v)=.val v' ⟨e,l,H'⟩)∧
      bO H' v' (.sl sz (xs++[row])) fp'∧fp'.Nodup∧(∀c,c∉fp→c<H.length→H'[c]? = H[c]?)∧H.length≤H'.length∧(∀c∈fp',c∈fp∨c∈f2∨H.length≤c):=by
  have hno:=oy.bk
  have src:∀e l,cH ⟨e,l,H++[some (0,ys)]⟩ sz false (.gs H.length 0 0 1 1 sz true)=some ys:=fun e l=>by
    simp[cH,St.bl,bC,me hy]
  have hd:=List.nodup_append.1 nd
  have hrl:row.length=sz:=by rw[←oy.len,hy]
  rcases o.fj with⟨rfl,rfl,rfl⟩|⟨b,g,cap,ex,zas,tail,fp',rfl,rfl,hg,h3,ht,hc,ho⟩
  · refine⟨.gs (H.length+1) 0 0 1 1 sz false,(H++[some (0,ys)])++[some (0,ys)],(H.length+1)::f2,fun e l=>?_,?_,?_,?_,?_,?_⟩
    · rw[src]
      simp only[lK,lenOf,iW,St.push]
      rw[if_neg (by omega),if_neg (by simp at hb;omega),if_neg (by omega),if_pos hno]
      simp[AR.Al]
    · have:=bO.sl_mk (h:=(H++[some (0,ys)])++[some (0,ys)]) (b:=H.length+1) (g:=0) (cap:=1) (sz:=sz) (ex:=false) (zas:=ys) (tail:=[]) (xs:=[row]) (fp:=f2)
        (by rw[List.append_nil,show H.length+1=(H++[some (0,ys)]).length by simp];exact bC _ _) (by simp[hrl]) (by simp) (by simp) (by simpa using(oy.grow (new:=[some (0,ys)])).grow (new:=[some (0,ys)]))
      simpa using this
    · refine List.nodup_cons.2 ⟨fun hm=>?_,hd.2.1⟩
      have:=oy.lt _ hm;omega
    · intro c _ hl;rw[List.append_assoc,List.getElem?_append_left hl]
    · simp
    · intro c hc
      rcases List.mem_cons.1 hc with rfl|hc
      · exact .inr (.inr (by omega))
      · exact .inr (.inl hc)
  have hbl:b<H.length:=dd hg
  have hal:zas.length=xs.length*sz:=by
    rw[ho.len]
    have:=cY (l:=xs) (f:=fun x=>x) (sz:=sz) h3
    simpa using this
  have hg2:bA (H++[some (0,ys)]) b=some (g,zas++tail):=sH hg _
  have hnb:b∉f2:=fun hm=>hd.2.2 b (by simp) b hm rfl
  have hnbp:b∉fp':=(List.nodup_cons.1 hd.1).1
  have hset:∀z,((H++[some (0,ys)]).set b z)=(H.set b z)++[some (0,ys)]:=fun z=>by rw[List.set_append_left _ _ hbl]
  have hgs:∀z:Nat×List AV,bA ((H++[some (0,ys)]).set b (some z)) b=some z:=fun z=>by
    simp only[bA,hset,List.getElem?_append_left (show b<(H.set b (some z)).length by simpa using hbl)];simp[hbl]
  have hfr:∀(z:Option (Nat×List AV)) (c:Nat),c≠b→c<H.length→((H++[some (0,ys)]).set b z)[c]? = H[c]?:=fun z c hc hl=>by
    rw[hset,List.getElem?_append_left (by simpa using hl),List.getElem?_set_ne (Ne.symm hc)]
  have own2:∀z,aV ((H++[some (0,ys)]).set b z) (zas++ys) (xs++[row]).flatten (fp'++f2):=fun z=>
    aV.Br (ho.frame fun c hc=>hfr z c (fun e=>hnbp (e▸hc)) (ho.lt c hc)) (oy.frame fun c hc=>hfr z c (fun e=>hnb (e▸hc)) (oy.lt c hc))
  have nd2:(b::(fp'++f2)).Nodup:=by simpa using nd
  have h3':∀l∈xs++[row],l.length=sz:=fun l hl=>by
    rcases List.mem_append.1 hl with hl|hl
    · exact h3 l hl
    · rw[List.mem_singleton.1 hl];exact hrl
  have mem:∀c∈b::(fp'++f2),c∈b::fp'∨c∈f2∨H.length≤c:=fun c hc=>by
    rcases List.mem_cons.1 hc with rfl|hc
    · exact .inl (by simp)
    · rcases List.mem_append.1 hc with hc|hc
      · exact .inl (by simp[hc])
      · exact .inr (.inl hc)
  by_cases hcap:xs.length+1≤cap
  · have hroom:(xs.length+1)*sz≤(zas++tail).length:=by
      have h1:(xs.length+1)*sz=xs.length*sz+sz:=Nat.succ_mul _ _
      have h2:1*sz≤(cap-xs.length)*sz:=Nat.mul_le_mul_right _ (by omega)
      have:=hc.2
      rw[List.length_append,hal];omega
    have hroom2:(cap-(xs.length+1))*sz≤(tail.drop sz).length:=by
      have h1:cap-xs.length=(cap-(xs.length+1))+1:=by omega
      have h2:=hc.2
      rw[h1,Nat.succ_mul]at h2
      rw[List.length_drop];omega
    have hov:over (zas++tail) (xs.length*sz) ys=(zas++ys)++tail.drop sz:=by
      simp only[over]
      rw[←hal,List.take_left',List.drop_append,List.drop_of_length_le (by omega),show zas.length+ys.length-zas.length=sz by omega]
      · simp
      · rfl
    refine⟨.gs b g 0 (xs.length+1) cap sz ex,(H++[some (0,ys)]).set b (some (g,(zas++ys)++tail.drop sz)),b::(fp'++f2),fun e l=>?_,?_,nd2,?_,by simp,mem⟩
    · rw[src]
      simp only[lK,lenOf,iW]
      rw[if_neg (by omega),if_neg (by omega)]
      simp only[hg2,Option.bind_some,if_true,hno]
      rw[if_pos hcap,if_pos (by rw[Nat.zero_add];exact hroom),Nat.zero_add,hov]
      rfl
    · have:=bO.sl_mk (h:=(H++[some (0,ys)]).set b (some (g,(zas++ys)++tail.drop sz))) (b:=b) (g:=g) (cap:=cap) (sz:=sz) (ex:=ex) (zas:=zas++ys) (tail:=tail.drop sz) (xs:=xs++[row]) (fp:=fp'++f2)
        (hgs _) h3' (fun x hx=>ht x (List.mem_of_mem_drop hx)) ⟨by simpa using hcap,by simpa using hroom2⟩ (own2 _)
      simpa using this
    · intro c hc hl;exact hfr _ c (fun e=>hc (by simp[e])) hl
  · refine⟨.gs b (g+1) 0 (xs.length+1) (xs.length+1) sz false,(H++[some (0,ys)]).set b (some (g+1,zas++ys)),b::(fp'++f2),fun e l=>?_,?_,nd2,?_,by simp,mem⟩
    · rw[src]
      simp only[lK,lenOf,iW]
      rw[if_neg (by omega),if_neg (by omega)]
      simp only[hg2,Option.bind_some,if_true,hno]
      rw[if_neg hcap]
      have:sub (zas++tail) 0 (xs.length*sz)=some zas:=by
        simp only[sub];rw[if_pos (by rw[Nat.zero_add,←hal,List.length_append];omega)];simp[←hal]
      rw[this];rfl
    · have:=bO.sl_mk (h:=(H++[some (0,ys)]).set b (some (g+1,zas++ys))) (b:=b) (g:=g+1) (cap:=xs.length+1) (sz:=sz) (ex:=false) (zas:=zas++ys) (tail:=[]) (xs:=xs++[row]) (fp:=fp'++f2)
        (by rw[List.append_nil];exact hgs _) h3' (by simp) (by simp) (own2 _)
      simpa using this
    · intro c hc hl;exact hfr _ c (fun e=>hc (by simp[e])) hl
end Go.AM
namespace Go.AM
theorem bO.cR{h:AH}{a:AV}{d:CD}{fp:List Nat}(o:bO h a d fp):Go.AM.cR a=true:=by cases o<;>rfl
theorem dQ(h:AH)(sz:Nat):bO (h++[some (0,[])]) (.gs h.length 0 0 0 0 sz true) (.sl sz []) [h.length]:=
  bO.sl_mk (xs:=[]) (zas:=[]) (tail:=[]) (by simp[bC]) (by simp) (by simp) (by simp) rfl
theorem vb{h N H':AH}{fp:List Nat}(hl:(h++N).length≤H'.length)(hf:∀c,c∉fp→c<(h++N).length→H'[c]? = (h++N)[c]?)(hfp:∀c∈fp,h.length≤c):∃N',H'=h++N':=by
  refine⟨H'.drop h.length,?_⟩
  have hlen:h.length≤H'.length:=by simp at hl;omega
  apply List.ext_getElem?
  intro c
  rcases Nat.lt_or_ge c h.length with g|g
  · rw[hf c (fun hc=>by have:=hfp c hc;omega) (by simp;omega),List.getElem?_append_left g,List.getElem?_append_left g]
  · rw[List.getElem?_append_right g,List.getElem?_drop,show h.length+(c-h.length)=c by omega]
theorem Td(z:List AV):(List.replicate 0 z).flatten=[]:=rfl
theorem Ui(z:List AV):(List.replicate 1 z).flatten=z:=by simp
theorem Bw(e:List AV)(l:List (List AV))(h:AH)(sz len:Nat)(cs:List AV):vO ⟨e,l,h⟩ sz len (some cs)=if cs.all bk=true then .val (.gs h.length 0 0 len len sz true) ⟨e,l,h++[some (0,cs)]⟩else .stuck:=by simp[vO,St.push]
theorem u9(x:AV)(xs:List AV):(x::xs).all bk=(bk x && xs.all bk):=rfl
theorem uJ:([]:List AV).all bk=true:=rfl
theorem j8(k:IntKind)(n:Int):bk (.int k n)=true:=rfl
theorem kD(b:Bool):bk (.bool b)=true:=rfl
theorem jZ(b:ByteArray):bk (.str b)=true:=rfl
theorem G2:bk .nils=true:=rfl
theorem EA:type_of% (And.intro @Td (And.intro @Ui (And.intro @Bw (And.intro @u9 (And.intro @uJ (And.intro @j8 (And.intro @kD (And.intro @jZ (And.intro @G2 (And.intro @Bool.and_self (And.intro @Nat.zero_mul (@yY)))))))))))):=And.intro @Td (And.intro @Ui (And.intro @Bw (And.intro @u9 (And.intro @uJ (And.intro @j8 (And.intro @kD (And.intro @jZ (And.intro @G2 (And.intro @Bool.and_self (And.intro @Nat.zero_mul (@yY)))))))))))
end Go.AM
namespace Go.AM
structure cc (h H:AH):Prop where
  len:h.length≤H.length
  fr:∀c,c<h.length→H[c]? = h[c]?
theorem cc.refl(h:AH):cc h h:=⟨Nat.le_refl _,fun _ _=>rfl⟩
theorem cc.trans{h1 h2 h3:AH}(a:cc h1 h2)(b:cc h2 h3):cc h1 h3:=⟨Nat.le_trans a.len b.len,fun c hc=>(b.fr c (Nat.lt_of_lt_of_le hc a.len)).trans (a.fr c hc)⟩
theorem cc.app(h N:AH):cc h (h++N):=⟨by simp,fun c hc=>List.getElem?_append_left hc⟩
theorem cc.out{h H:AH}(e:cc h H):∃N,H=h++N:=by
  refine⟨H.drop h.length,?_⟩
  have:=e.len
  apply List.ext_getElem?
  intro c
  rcases Nat.lt_or_ge c h.length with g|g
  · rw[e.fr c g,List.getElem?_append_left g]
  · rw[List.getElem?_append_right g,List.getElem?_drop,show h.length+(c-h.length)=c by omega]
theorem cc.mark{h H H':AH}{fp:List Nat}(e:cc h H)(hl:H'.length=H.length)(hf:∀c,c∉fp→H'[c]? = H[c]?)(hp:∀c∈fp,h.length≤c):cc h H':=
  ⟨by rw[hl];exact e.len,fun c hc=>(hf c (fun hm=>by have:=hp c hm;omega)).trans (e.fr c hc)⟩
theorem bO.ext{h H:AH}{a:AV}{d:CD}{fp:List Nat}(o:bO h a d fp)(e:cc h H):bO H a d fp:=o.frame fun c hc=>e.fr c (o.lt c hc)
theorem aV.ext{h H:AH}{zas:List AV}{ds:List CD}{fp:List Nat}(o:aV h zas ds fp)(e:cc h H):aV H zas ds fp:=o.frame fun c hc=>e.fr c (o.lt c hc)
theorem bO.jE{α:Type}{H:AH}{v:AV}{sz:Nat}{cd:α→List CD}{c:α→List AV}{l:List α}{fp:List Nat}(hc:∀x,(cd x).map (CD.av true)=c x)(o:bO H v (.sl sz (l.map cd)) fp):gU H v (.vs true sz false (l.map c)):=by
  have:=o.view.1
  rw[CD.eG,List.map_map]at this
  have e:((fun x=>List.map (CD.av true) x) ∘ cd)=c:=funext fun x=>hc x
  rwa[e]at this
theorem aV.jE{H:AH}{zas:List AV}{cs:List CD}{ys:List AV}{fp:List Nat}(hc:cs.map (CD.av true)=ys)(o:aV H zas cs fp):gU H (.agg zas) (.agg ys):=by
  subst hc
  have:=o.snap.spec
  refine .agg zas _ this.1 (fun i=>zas.getD i .any) (fun i y hy=>?_) (fun i y hy=>?_)
  · obtain⟨x,hx,_⟩:=this.2 i y hy;simp[List.getD_eq_getElem?_getD,hx]
  · obtain⟨x,hx,hf⟩:=this.2 i y hy;simpa[List.getD_eq_getElem?_getD,hx]using hf
theorem bc.c1{h H:AH}{d:CD}{v:AV}(f:bc h [.c d] v H):∃fp,bO H v d fp∧fp.Nodup∧(∀b∈fp,h.length≤b)∧cc h H:=by
  obtain⟨new,fp,rfl,o,nd,hb⟩:=f.one;exact⟨fp,o,nd,hb,cc.app h new⟩
theorem bc.a1{h H:AH}{cs:List CD}{v:AV}(f:bc h [.a cs] v H):∃zas fp,v=.agg zas∧aV H zas cs fp∧fp.Nodup∧(∀b∈fp,h.length≤b)∧cc h H:=by
  obtain⟨zas,new,fp,e,rfl,o,nd,hb⟩:=f.KQ;exact⟨zas,fp,e,o,nd,hb,cc.app h new⟩
theorem bc.c2{h H:AH}{d d':CD}(hd:d'.flat=true){v:AV}(f:bc h [.c d,.c d'] v H):∃a fp,v=.tup [a,d'.av true]∧bO H a d fp∧fp.Nodup∧(∀b∈fp,h.length≤b)∧cc h H:=by
  obtain⟨vs,new,fp,rfl,rfl,o,nd,hb,_⟩:=f
  match vs,o with
  | [a,a'],⟨f1,f2,e,o1,f3,f4,e',o2,e''⟩=>
    have o2:bO (h++new) a' d' f3:=o2
    have e'':f4=[]:=e''
    subst e''
    have:a'=d'.av true∧f3=[]:=by
      cases d' with
      | i=>obtain⟨rfl,rfl⟩:=dU.1 o2;simp[CD.dD]
      | b=>obtain⟨rfl,rfl⟩:=dT.1 o2;simp[CD.hY]
      | s=>obtain⟨rfl,rfl⟩:=dM.1 o2;simp[CD.gQ]
      | sl=>cases hd
    obtain⟨rfl,rfl⟩:=this
    simp at e';subst e'
    simp at e;subst e
    exact⟨a,fp,rfl,o1,nd,hb,cc.app h new⟩
theorem bc.a2{h H:AH}{cs:List CD}{d':CD}(hd:d'.flat=true){v:AV}(f:bc h [.a cs,.c d'] v H):∃zas fp,v=.tup [.agg zas,d'.av true]∧aV H zas cs fp∧fp.Nodup∧(∀b∈fp,h.length≤b)∧cc h H:=by
  obtain⟨vs,new,fp,rfl,rfl,o,nd,hb,_⟩:=f
  match vs,o with
  | [a,a'],⟨f1,f2,e,o1,f3,f4,e',o2,e''⟩=>
    have o2:bO (h++new) a' d' f3:=o2
    have e'':f4=[]:=e''
    subst e''
    obtain⟨zas,rfl,o1⟩:=o1
    have:a'=d'.av true∧f3=[]:=by
      cases d' with
      | i=>obtain⟨rfl,rfl⟩:=dU.1 o2;simp[CD.dD]
      | b=>obtain⟨rfl,rfl⟩:=dT.1 o2;simp[CD.hY]
      | s=>obtain⟨rfl,rfl⟩:=dM.1 o2;simp[CD.gQ]
      | sl=>cases hd
    obtain⟨rfl,rfl⟩:=this
    simp at e';subst e'
    simp at e;subst e
    exact⟨zas,fp,rfl,o1,nd,hb,cc.app h new⟩
theorem oW(a:AV):jv [a]=a:=rfl
theorem oq(a b:AV):jv [a,b]=.tup [a,b]:=rfl
theorem D5(β:Bool)(d:CD):(RD.c d).av β=d.av β:=rfl
theorem Dw(β:Bool)(cs:List CD):(RD.a cs).av β=.agg (cs.map (CD.av β)):=rfl
theorem dR{h:AH}:jS h [] []:=trivial
theorem bY{h:AH}{x y:AV}{xs ys:List AV}(a:gU h x y)(b:jS h xs ys):jS h (x::xs) (y::ys):=⟨a,b⟩
end Go.AM
namespace Go.AM
theorem BV{H:AH}{v:AV}{sz bytes:Nat}{xs:List (List CD)}{fp:List Nat}(o:bO H v (.sl sz xs) fp){ys:List AV}{rows:List (List CD)}{f2:List Nat}(nd:(fp++f2).Nodup)(h0:0<sz)
    (hr:∀r∈rows,r.length=sz) (oy:aV H ys rows.flatten f2) (hb:(xs.length+rows.length)*(sz+bytes)≤aX):
    ∃v' H' fp',(∀e l,iW ⟨e,l,H⟩ sz bytes v ys rows.length xs.length=some (v',⟨e,l,H'⟩))∧
      bO H' v' (.sl sz (xs++rows)) fp'∧fp'.Nodup∧(∀c,c∉fp→c<H.length→H'[c]? = H[c]?)∧H.length≤H'.length∧(∀c∈fp',c∈fp∨c∈f2∨H.length≤c):=by
  have hno:=oy.bk
  have hd:=List.nodup_append.1 nd
  have hyl:ys.length=rows.length*sz:=by
    rw[oy.len]
    have:=cY (l:=rows) (f:=fun x=>x) (sz:=sz) hr
    simpa using this
  rcases o.fj with⟨rfl,rfl,rfl⟩|⟨b,g,cap,ex,zas,tail,fp',rfl,rfl,hg,h3,ht,hc,ho⟩
  · by_cases hz:rows.length=0
    · have e:rows=[]:=List.length_eq_zero_iff.1 hz
      subst e
      refine⟨.nils,H,[],fun e l=>?_,.nil _,by simp,fun _ _ _=>rfl,Nat.le_refl _,by simp⟩
      simp only[iW]
      rw[if_neg (by omega),if_neg (by simp)];rfl
    · refine⟨.gs H.length 0 0 rows.length rows.length sz false,H++[some (0,ys)],H.length::f2,fun e l=>?_,?_,?_,?_,by simp,?_⟩
      · simp only[iW,St.push]
        rw[if_neg (by omega),if_neg (by simp only[List.length_nil]at hb ⊢;omega),if_neg hz,if_pos hno]
      · have:=bO.sl_mk (h:=H++[some (0,ys)]) (b:=H.length) (g:=0) (cap:=rows.length) (sz:=sz) (ex:=false) (zas:=ys) (tail:=[]) (xs:=rows) (fp:=f2)
          (by rw[List.append_nil];exact bC _ _) hr (by simp) (by simp) (oy.grow (new:=[some (0,ys)]))
        simpa using this
      · exact List.nodup_cons.2 ⟨fun hm=>by have:=oy.lt _ hm;omega,hd.2.1⟩
      · intro c _ hl;rw[List.getElem?_append_left hl]
      · intro c hc
        rcases List.mem_cons.1 hc with rfl|hc
        · exact .inr (.inr (Nat.le_refl _))
        · exact .inr (.inl hc)
  have hbl:b<H.length:=dd hg
  have hal:zas.length=xs.length*sz:=by
    rw[ho.len]
    have:=cY (l:=xs) (f:=fun x=>x) (sz:=sz) h3
    simpa using this
  have hnb:b∉f2:=fun hm=>hd.2.2 b (by simp) b hm rfl
  have hnbp:b∉fp':=(List.nodup_cons.1 hd.1).1
  have hgs:∀z:Nat×List AV,bA (H.set b (some z)) b=some z:=fun z=>by simp[bA,hbl]
  have hfr:∀(z:Option (Nat×List AV)) (c:Nat),c≠b→(H.set b z)[c]? = H[c]?:=fun z c hc=>List.getElem?_set_ne (Ne.symm hc)
  have own2:∀z,aV (H.set b z) (zas++ys) (xs++rows).flatten (fp'++f2):=fun z=>by
    rw[List.flatten_append]
    exact aV.append (ho.frame fun c hc=>hfr z c (fun e=>hnbp (e▸hc))) (oy.frame fun c hc=>hfr z c (fun e=>hnb (e▸hc)))
  have nd2:(b::(fp'++f2)).Nodup:=by simpa using nd
  have h3':∀l∈xs++rows,l.length=sz:=fun l hl=>by
    rcases List.mem_append.1 hl with hl|hl
    · exact h3 l hl
    · exact hr l hl
  have mem:∀c∈b::(fp'++f2),c∈b::fp'∨c∈f2∨H.length≤c:=fun c hc=>by
    rcases List.mem_cons.1 hc with rfl|hc
    · exact .inl (by simp)
    · rcases List.mem_append.1 hc with hc|hc
      · exact .inl (by simp[hc])
      · exact .inr (.inl hc)
  by_cases hcap:xs.length+rows.length≤cap
  · have hroom:(xs.length+rows.length)*sz≤(zas++tail).length:=by
      have h1:(xs.length+rows.length)*sz=xs.length*sz+rows.length*sz:=Nat.add_mul _ _ _
      have h2:rows.length*sz≤(cap-xs.length)*sz:=Nat.mul_le_mul_right _ (by omega)
      have:=hc.2
      rw[List.length_append,hal];omega
    have hroom2:(cap-(xs.length+rows.length))*sz≤(tail.drop ys.length).length:=by
      have h1:cap-xs.length=(cap-(xs.length+rows.length))+rows.length:=by omega
      have h2:=hc.2
      rw[h1,Nat.add_mul]at h2
      rw[List.length_drop,hyl];omega
    have hov:over (zas++tail) (xs.length*sz) ys=(zas++ys)++tail.drop ys.length:=by
      simp only[over]
      rw[←hal,List.take_left',List.drop_append,List.drop_of_length_le (by omega),show zas.length+ys.length-zas.length=ys.length by omega]
      · simp
      · rfl
    refine⟨.gs b g 0 (xs.length+rows.length) cap sz ex,H.set b (some (g,(zas++ys)++tail.drop ys.length)),b::(fp'++f2),fun e l=>?_,?_,nd2,?_,by simp,mem⟩
    · simp only[iW]
      rw[if_neg (by omega),if_neg (by omega)]
      simp only[hg,Option.bind_some,if_true,hno]
      rw[if_pos hcap,if_pos (by rw[Nat.zero_add];exact hroom),Nat.zero_add,hov]
    · have:=bO.sl_mk (h:=H.set b (some (g,(zas++ys)++tail.drop ys.length))) (b:=b) (g:=g) (cap:=cap) (sz:=sz) (ex:=ex) (zas:=zas++ys) (tail:=tail.drop ys.length) (xs:=xs++rows) (fp:=fp'++f2)
        (hgs _) h3' (fun x hx=>ht x (List.mem_of_mem_drop hx)) ⟨by simpa using hcap,by simpa using hroom2⟩ (own2 _)
      simpa using this
    · intro c hc hl;exact hfr _ c (fun e=>hc (by simp[e]))
  · refine⟨.gs b (g+1) 0 (xs.length+rows.length) (xs.length+rows.length) sz false,H.set b (some (g+1,zas++ys)),b::(fp'++f2),fun e l=>?_,?_,nd2,?_,by simp,mem⟩
    · simp only[iW]
      rw[if_neg (by omega),if_neg (by omega)]
      simp only[hg,Option.bind_some,if_true,hno]
      rw[if_neg hcap]
      have:sub (zas++tail) 0 (xs.length*sz)=some zas:=by
        simp only[sub];rw[if_pos (by rw[Nat.zero_add,←hal,List.length_append];omega)];simp[←hal]
      rw[this];rfl
    · have:=bO.sl_mk (h:=H.set b (some (g+1,zas++ys))) (b:=b) (g:=g+1) (cap:=xs.length+rows.length) (sz:=sz) (ex:=false) (zas:=zas++ys) (tail:=[]) (xs:=xs++rows) (fp:=fp'++f2)
        (by rw[List.append_nil];exact hgs _) h3' (by simp) (by simp) (own2 _)
      simpa using this
    · intro c hc hl;exact hfr _ c (fun e=>hc (by simp[e]))
theorem gM{H:AH}{v:AV}{sz:Nat}{xs:List (List CD)}{fp:List Nat}(o:bO H v (.sl sz xs) fp):lenOf v=some xs.length∧fu false v=some (.int .i64 xs.length):=by
  rcases o.fj with⟨rfl,rfl,rfl⟩|⟨b,g,cap,ex,zas,tail,fp',rfl,rfl,hg,h3,ht,hc,ho⟩<;>exact⟨rfl,rfl⟩
theorem j7{α:Type}{H:AH}{v:AV}{β:Bool}{sz bytes:Nat}{xs:List (List CD)}{l:List α}{c:α→List AV}{cd:α→List CD}{fp:List Nat}(o:bO H v (.sl sz xs) fp)(nd:fp.Nodup)(h0:0<sz)
    (hd:∀x,(cd x).length=sz∧(cd x).all CD.flat=true) (hcd:∀x,c x=(cd x).map (CD.av false)) (hb:(xs.length+l.length)*(sz+bytes)≤aX):
    ∃v' H' fp',(∀e L,lK ⟨e,L,H⟩ sz bytes v (cH ⟨e,L,H⟩ sz false (.vs β sz false (l.map c))) (lenOf (.vs β sz false (l.map c))) (lenOf v)=.val v' ⟨e,L,H'⟩)∧
      bO H' v' (.sl sz (xs++l.map cd)) fp'∧fp'.Nodup∧(∀c,c∉fp→c<H.length→H'[c]? = H[c]?)∧H.length≤H'.length∧(∀c∈fp',c∈fp∨H.length≤c):=by
  have L1:=(gM o).1
  have hfl:(l.map cd).flatten.all CD.flat=true:=by
    rw[List.all_flatten,List.all_eq_true];intro y hy;obtain⟨x,_,rfl⟩:=List.mem_map.1 hy;exact(hd x).2
  have oz:aV H ((l.map c).flatten) (l.map cd).flatten []:=by
    rw[wI hcd];exact kg false hfl
  obtain⟨v',H',fp',h1,h2,h3,h4,h5,h6⟩:=BV (bytes:=bytes) o (f2:=[]) (by simpa using nd) h0 (fun r hr=>by obtain⟨x,_,rfl⟩:=List.mem_map.1 hr;exact(hd x).1) oz (by simpa using hb)
  refine⟨v',H',fp',fun e L=>?_,h2,h3,h4,h5,fun c hc=>?_⟩
  · rw[L1];simp only[cH,St.bl,if_true,lenOf,List.length_map,lK]
    have:=h1 e L
    rw[List.length_map]at this
    rw[this];rfl
  · rcases h6 c hc with g|g|g
    · exact .inl g
    · simp at g
    · exact .inr g
theorem cc.vI{h H0 H':AH}{fp:List Nat}(e:cc h H0)(hl:H0.length≤H'.length)(hf:∀c,c∉fp→c<H0.length→H'[c]? = H0[c]?)(hp:∀c∈fp,h.length≤c):cc h H':=
  ⟨Nat.le_trans e.len hl,fun c hc=>(hf c (fun hm=>by have:=hp c hm;omega) (by have:=e.len;omega)).trans (e.fr c hc)⟩
theorem C1{α:Type}(s:St)(β:Bool)(sz:Nat)(l:List α)(c:α→List AV){k:Nat}(hk:k≤l.length):cutFrom (.sl sz) s (.vs β sz false (l.map c)) (.int .i64 k)=.val (.vs β sz false ((l.drop k).map c)) s:=by
  have e:jd (.int .i64 (k:Int))=some k:=by simp[jd,xA]
  simp only[cutFrom,e,eL]
  have e2:List.take (l.map c).length (l.map c)=l.map c:=List.take_length
  simp[AR.eI,List.map_drop,hk]
  rw[List.take_of_length_le (by simp)]
end Go.AM
namespace Go.AM
variable {P:Program} {Γ:bG}
theorem T.yu{f:FuncId}{args:List AV}{h:AH}{d d':CD}(hd:d'.flat=true)(t:T P Γ f args h fun v h'=>∃a new fp,v=.tup [a,d'.av true]∧h'=h++new∧bO h' a d fp∧fp.Nodup∧∀b∈fp,h.length≤b):T P Γ f args h (bc h [.c d,.c d']):=
  t.fresh fun v h' ⟨a,new,fp,e1,e2,o,nd,hb⟩=>⟨[a,d'.av true],new,fp,e1,e2,⟨fp,[],by simp,o,⟨[],[],rfl,CD.pX hd true,rfl⟩⟩,nd,hb⟩
theorem T.kb{f:FuncId}{args:List AV}{h:AH}{cs:List CD}{d':CD}(hd:d'.flat=true)(t:T P Γ f args h fun v h'=>∃aa new fp,v=.tup [.agg aa,d'.av true]∧h'=h++new∧aV h' aa cs fp∧fp.Nodup∧∀b∈fp,h.length≤b):T P Γ f args h (bc h [.a cs,.c d']):=
  t.fresh fun v h' ⟨a,new,fp,e1,e2,o,nd,hb⟩=>⟨[.agg a,d'.av true],new,fp,e1,e2,⟨fp,[],by simp,⟨a,rfl,o⟩,⟨[],[],rfl,CD.pX hd true,rfl⟩⟩,nd,hb⟩
theorem vP(h:AH){sz:Nat}{ys:List AV}{row:List CD}{f2:List Nat}(hy:ys.length=sz)(o:aV h ys row f2):bO (h++[some (0,ys)]) (.gs h.length 0 0 1 1 sz true) (.sl sz [row]) (h.length::f2):=
  bO.sl_mk (h:=h++[some (0,ys)]) (b:=h.length) (g:=0) (cap:=1) (sz:=sz) (ex:=true) (zas:=ys) (tail:=[]) (xs:=[row]) (fp:=f2) (by rw[List.append_nil];exact bC _ _) (by simp[←o.len,hy]) (by simp) (by simp) (by simpa using o.grow (new:=[some (0,ys)]))
theorem cc.mem{h H:AH}(e:cc h H)(a b:List AV)(l:List (List AV)):Mem ⟨a,l,h⟩ ⟨b,l,H⟩:=
  ⟨fun _ _ hx=>hx,fun c x hx=>by
    have h1:=b6 hx
    exact vB (by show H[c]? = _;rw[e.fr c (aK h1)];exact h1)⟩
end Go.AM
namespace Go.AM
section
variable {α:Type} {c:α→List AV} {sz:Nat} (hc:∀x,(c x).length=sz)
include hc
end
theorem Sg{Γ:bG}(gl:Bool)(s:St)(sz:Nat)(z:List AV)(x:X):step Γ gl s (.clr sz z x)=.AG (xm s sz z (s.eval Γ x)):=rfl
theorem Ae(s:St){b g len cap sz:Nat}{ex:Bool}{i:Nat}(h1:i≤len)(h2:len≤cap):cutFrom (.sl sz) s (.gs b g 0 len cap sz ex) (.int .i64 i)=.val (.gs b g (i*sz) (len-i) (cap-i) sz ex) s:=by
  have e:jd (.int .i64 (i:Int))=some i:=by simp[jd,xA]
  simp[cutFrom,e,eL,AR.eI,h1,h2]
theorem DS(s:St){b g len cap sz:Nat}{ex:Bool}{i:Nat}(h2:i≤cap):kE (.sl sz) s (.gs b g 0 len cap sz ex) (.int .i64 i)=.val (.gs b g 0 i cap sz ex) s:=by
  have e:jd (.int .i64 (i:Int))=some i:=by simp[jd,xA]
  simp[kE,e,eL,AR.eI,h2]
end Go.AM
namespace Go.AM
theorem pz{Γ:bG}(gl:Bool)(s:St)(k:IntKind)(x:X):step Γ gl s (.cvi k x)=(match s.eval Γ x with|.int _ n=>.val (.int k (k.wrap n)) s|_=>.stuck):=rfl
end Go.AM
namespace Go.AM
section
variable {P:Program} {Γ:bG}
end
end Go.AM
namespace Go.AM
section
variable {Γ:bG}
end
end Go.AM
namespace Go.AM
section
variable {Γ:bG}
theorem MK(gl:Bool)(s:St)(b:Bool)(xs:List X):step Γ gl s (.mm b xs)=.eI s (Ks b (xs.map (s.eval Γ))):=rfl
theorem Km(k:IntKind)(a c:Int):Ks true [.int k a,.int k c]=some (.int k (max a c)):=by
  simp only[Ks,if_true]
  congr 2
  split<;>omega
end
end Go.AM
namespace Go.AM
theorem Cs(n:Nat):IntKind.u8.wrap (n:Int)=((n % 256:Nat):Int):=by
  unfold IntKind.wrap
  simp[IntKind.bits,IntKind.signed]
def enc:Nat→Nat→List Int
  | 0,n=>[(n:Int)]
  | f+1,n=>if n<128 then [(n:Int)]else ((n % 128+128:Nat):Int)::enc f (n / 128)
end Go.AM
namespace Go.AM
variable {ρ:cN} {ls:List Nat} {L:List (List AV)} {h:AH} {w:World}
theorem RH.kL{w':World}(r:RH ρ ls L h w)(hs:w.heap.size≤w'.heap.size)(ho:∀c,c<w.heap.size→w'.heap[c]? = w.heap[c]?):RH ρ ls L h w':=by
  have up:∀{c:Nat} {x:Obj},w.heap[c]? = some x→w'.heap[c]? = some x:=fun e=>by rw[ho _ (c6 e)];exact e
  refine⟨fun b g cs e=>?_,fun i cs e=>?_,r.len,r.nod,r.hh,r.hl,fun β c arr e=>?_,r.iml,r.imh,fun b g c o n e=>⟨Nat.lt_of_lt_of_le (r.dom b g c o n e).1 hs,(r.dom b g c o n e).2⟩⟩
  · obtain⟨c,o,n,arr,T,fr,e1,e2,e3⟩:=r.hp b g cs e
    exact⟨c,o,n,arr,T,fr,e1,up e2,e3⟩
  · obtain⟨c,arr,T,fr,e1,e2,e3⟩:=r.lp i cs e
    exact⟨c,arr,T,fr,e1,up e2,e3⟩
  · obtain⟨T,fr,e1⟩:=r.im β c arr e
    exact⟨T,fr,up e1⟩
theorem gW.kL{w':World}(hs:w.heap.size≤w'.heap.size)(ho:∀c,c<w.heap.size→w'.heap[c]? = w.heap[c]?)(eo:w'.os=w.os)(ep:w'.output=w.output):gW ρ ls h w ρ ls h w':=
  ⟨.refl _,.refl _,hs,fun c hc _=>ho c hc,fun _ _ _ _ _ _ h m=>.inr ⟨_,_,_,_,h,m⟩,fun _ _ h=>.inr h,fun _ _ _ _ e=>e,Nat.le_refl _,eo,ep⟩
theorem qB{x:AV}{vs:List Value}(r:eB ρ [] [x] vs):∃v,vs=[v]∧RV ρ [] x v:=by
  obtain⟨h1,h2⟩:=r
  match vs,h1 with
  | [v],_=>exact⟨v,rfl,h2 0 x rfl⟩
end Go.AM
namespace Go.AM
section
variable {P:Program} {Θ:jL} {Γ:bG}
def oB(s:St):AV→AV→AR
  | .str v,.int _ n=>.eI s (if 0≤n then (v[n.toNat]?).map fun b=>.int .u8 b.toNat else none)
  | _,_=>.stuck
theorem fN(gl:Bool)(s:St)(x i:X):step Γ gl s (.idxstr x i)=oB s (s.eval Γ x) (s.eval Γ i):=by
  simp only[step];unfold oB;rfl
def cQ(v:ByteArray)(k:Nat):Nat:=(v.data.toList.getD k 0).toNat
theorem ko(s:St){v:ByteArray}{k:Nat}(h:k<v.size):oB s (.str v) (.int .i64 (k:Int))=.val (.int .u8 (cQ v k:Nat)) s:=by
  have e:v[k]? = some v[k]:=getElem?_pos v k h
  have e2:v.data.toList[k]? = some v[k]:=by
    have h':k<v.data.size:=h
    rw[Array.getElem?_toList,Array.getElem?_eq_getElem h'];rfl
  simp only[oB]
  rw[if_pos (by omega),Int.toNat_natCast,e]
  simp only[Option.map_some,AR.eI,cQ,List.getD_eq_getElem?_getD,e2,Option.getD_some]
end
theorem fT(v:ByteArray):fu true (.str v)=some (.int .i64 v.size):=rfl
end Go.AM
namespace Go.AM
open Go.Proofs Go.Shelf Go.RowKit
variable {P:Program} {Γ:bG} {h:AH}
def bp(n:Int):ByteArray:=⟨(Lib.itoa n).toArray⟩
theorem RH.below{ρ:cN}{ls:List Nat}{L:List (List AV)}{w w':World}(r:RH ρ ls L h w)(b:Below w.heap.size w w'):RH ρ ls L h w':=r.kL b.size b.block
theorem gW.below{ρ:cN}{ls:List Nat}{w w':World}(b:Below w.heap.size w w'):gW ρ ls h w ρ ls h w':=.kL b.size b.block b.os b.output
theorem uu.var{ρ:cN}{w:World}(gg:uu Γ ρ)(r:RH ρ [] [] h w){g:Nat}{cs:List AV}(e:Γ g=some cs):
    ∃arr T fr,w.heap[g]? = some (.cells arr T fr)∧arr.size=cs.length∧∀(i:Nat) (x:AV),cs[i]? = some x→∃y,arr[i]? = some y∧RV ρ [] x y:=by
  obtain⟨arr,h1,h2,h3⟩:=gg g cs e
  obtain⟨T,fr,h4⟩:=r.im _ _ _ h1
  exact⟨arr,T,fr,h4,h3,fun i x hx=>by have:=h2 i x hx;simpa using this⟩
theorem uu.da{ρ:cN}{w:World}(gg:uu Γ ρ)(r:RH ρ [] [] h w){g:Nat}{k:IntKind}{zs:List Int}(e:Γ g=some (zs.map (AV.int k))){nm:String}(hg:P.globalNamed nm=some g):Lib.TabIs P w nm k zs:=by
  obtain⟨arr,T,fr,h1,h2,h3⟩:=gg.var r e
  unfold Lib.TabIs World.var?
  rw[hg]
  simp only[Option.bind_some,h1,Option.some.injEq]
  apply Array.ext_getElem?
  intro i
  by_cases hi:i<zs.length
  · have hx:(zs.map (AV.int k))[i]? = some (.int k zs[i]):=by simp[hi]
    obtain⟨y,hy,ry⟩:=h3 i _ hx
    cases ry
    rw[hy];simp[hi]
  · rw[Array.getElem?_eq_none (by rw[h2,List.length_map];omega),Array.getElem?_eq_none (by simp;omega)]
theorem Kk{ren:Ren}(Ly:LaysM.n171 P ren)(hcl:dO P (ren.f 171)){g:Nat}(hg:P.globalNamed "internal/strconv.uint64pow10" = some g)(hΓ:Γ g=some (Lib.pow10Tab.map (AV.int .u64)))
    (n:Int) (h0:-9223372036854775808≤n) (h1:n≤9223372036854775807) (h:AH):T P Γ (ren.f 171) [.int .i64 n] h fun v h'=>v=.str (bp n)∧h'=h:=by
  refine⟨hcl,fun ρ w cargs r gg ra=>?_⟩
  obtain⟨v,rfl,rv⟩:=qB ra
  cases rv
  refine(Any.strconv_Itoa Ly n h0 h1 w (gg.da r hΓ hg)).mono ?_
  rintro e w' ⟨rfl,k,os,rfl⟩
  have hs:w.heap.size≤(Sort.grow (w.drewN k) os).heap.size:=by simp[Sort.grow]
  have ho:∀c,c<w.heap.size→(Sort.grow (w.drewN k) os).heap[c]? = w.heap[c]?:=by
    intro c hc
    simp only[Sort.grow,World.heap_drewN]
    exact Array.getElem?_append_left hc
  exact⟨.str (bp n),_,ρ,h,rfl,.str _ _,r.kL hs ho,.kL hs ho rfl rfl,rfl,rfl⟩
theorem RV.DJ{ρ:cN}{x y:AV}{a b:Value}(h1:RV ρ [] x a)(h2:RV ρ [] y b):RV ρ [] (.tup [x,y]) (.tuple #[a,b]):=by
  refine .tup _ _ _ rfl (fun i z hz=>?_)
  match i,hz with
  | 0,hz=>simp at hz;subst hz;exact h1
  | 1,hz=>simp at hz;subst hz;exact h2
  | n+2,hz=>simp at hz
def wX(l:List UInt8)(x:Int)(e:Value):Prop:=match Lib.atoiAll l with
  | .ok n=>x=n∧e=.nilIface
  | _=>∃t p,e=.iface t p
theorem KC{ren:Ren}(Ly:LaysC.n172 P ren)(hcl:dO P (ren.f 172)){t1 t2:TypeId}{p1 p2:Value}
    (hΓ1:Γ (ren.g 15)=some [.opq (.iface t1 p1)]) (hΓ2:Γ (ren.g 16)=some [.opq (.iface t2 p2)]) (s:ByteArray) (hs:s.size≤281474976710656) (h:AH):
    T P Γ (ren.f 172) [.str s] h fun v h'=>(∃x e,v=.tup [.int .i64 x,.opq e]∧wX s.data.toList x e)∧h'=h:=by
  refine⟨hcl,fun ρ w cargs r gg ra=>?_⟩
  obtain⟨v,rfl,rv⟩:=qB ra
  cases rv
  have cellOf:∀{g:Nat} {t:TypeId} {p:Value},Γ g=some [.opq (.iface t p)]→w.cell? ⟨g,0,none⟩=some (.iface t p):=by
    intro g t p e
    obtain⟨arr,T,fr,k1,k2,k3⟩:=gg.var r e
    obtain⟨y,hy,ry⟩:=k3 0 _ rfl
    cases ry
    rw[cell_of k1];exact hy
  cases ha:Lib.atoiAll s.data.toList with
  | ok n=>
    refine(Any.strconv_Atoi_ok Ly s (by omega) n ha w).mono ?_
    rintro e w' ⟨rfl,hw⟩
    have hb:Below w.heap.size w w':=by
      rcases hw with rfl|⟨t,rfl⟩
      · exact Below.refl _ _
      · exact Lib.bytesWorld_below _ _ _
    exact⟨.tup [.int .i64 n,.opq .nilIface],_,ρ,h,rfl,.DJ (.int _ _ _) (.opq _ _),r.below hb,.below hb,⟨n,_,rfl,by simp[wX,ha]⟩,rfl⟩
  | range=>
    refine(Any.strconv_Atoi_range Ly s hs ha (.iface t2 p2) w (cellOf hΓ2) (.inr ⟨_,_,rfl⟩)).mono ?_
    rintro e w' ⟨N,rfl,_,_,hb⟩
    exact⟨.tup [.int .i64 _,.opq _],_,ρ,h,rfl,.DJ (.int _ _ _) (.opq _ _),r.below hb,.below hb,⟨_,_,rfl,by simp[wX,ha]⟩,rfl⟩
  | _=>
    refine(Any.strconv_Atoi_syntax Ly s hs ha (.iface t1 p1) w (cellOf hΓ1) (.inr ⟨_,_,rfl⟩)).mono ?_
    rintro e w' ⟨N,rfl,_,_,hb⟩
    exact⟨.tup [.int .i64 0,.opq _],_,ρ,h,rfl,.DJ (.int _ _ _) (.opq _ _),r.below hb,.below hb,⟨0,_,rfl,by simp[wX,ha]⟩,rfl⟩
theorem uF{x y:AV}{ρ:cN}{vs:List Value}(r:eB ρ [] [x,y] vs):∃v w,vs=[v,w]∧RV ρ [] x v∧RV ρ [] y w:=by
  obtain⟨h1,h2⟩:=r
  match vs,h1 with
  | [v,w],_=>exact⟨v,w,rfl,h2 0 x rfl,h2 1 y rfl⟩
theorem wH{ren:Ren}(Ly:Lays.n103 P ren)(hcl:dO P (ren.f 103))(s p:ByteArray)(h:AH):
    T P Γ (ren.f 103) [.str s,.str p] h fun v h'=>v=.tup [.str ⟨(Lib.trimPrefix s.data.toList p.data.toList).toArray⟩,.bool (Lib.hasPrefix s.data.toList p.data.toList)]∧h'=h:=by
  refine⟨hcl,fun ρ w cargs r gg ra=>?_⟩
  obtain⟨v,u,rfl,rv,ru⟩:=uF ra
  cases rv;cases ru
  refine(Any.strings_CutPrefix Ly s p w).mono ?_
  rintro e w' ⟨rfl,rfl⟩
  exact⟨_,_,ρ,h,rfl,.DJ (.str _ _) (.bool _ _),r,.refl _ _ _ _,rfl,rfl⟩
theorem jf{u:Nat}(h:10≤u):Lib.decDigits u=Lib.decDigits (u / 10)++[UInt8.ofNat (48+u % 10)]:=by
  rw[Lib.decDigits,dif_neg (by omega)]
theorem dX{u:Nat}(h:u<10):Lib.decDigits u=[UInt8.ofNat (48+u)]:=by
  rw[Lib.decDigits,dif_pos h]
def qL(u:Nat):List UInt8:=if u=0 then []else Lib.decDigits u
theorem qQ{u:Nat}(h:u≠0):qL u=qL (u / 10)++[UInt8.ofNat (48+u % 10)]:=by
  unfold qL
  rw[if_neg h]
  by_cases h1:u<10
  · rw[dX h1,if_pos (by omega),Nat.mod_eq_of_lt h1];rfl
  · rw[jf (by omega),if_neg (by omega)]
theorem pe{d:Nat}(h:d<256):(UInt8.ofNat d).toNat=d:=by simp[UInt8.toNat_ofNat',Nat.mod_eq_of_lt h]
theorem nQ:∀(l m:List UInt8) (a:Nat),Lib.decFrom a (l++m)=(Lib.decFrom a l).bind fun b=>Lib.decFrom b m
  | [],m,a=>rfl
  | c::l,m,a=>by
    simp only[List.cons_append,Lib.decFrom]
    cases Lib.digitVal c with
    | none=>rfl
    | some d=>exact nQ l m _
theorem vf:∀(u:Nat),Lib.decFrom 0 (qL u)=some u:=by
  intro u
  induction u using Nat.strongRecOn with
  | _ u ih=>
    by_cases h:u=0
    · subst h;rfl
    · rw[qQ h,nQ,ih (u / 10) (by omega)]
      simp only[Option.bind_some,Lib.decFrom,Lib.digitVal]
      rw[pe (by omega),if_pos (by omega)]
      simp only[Option.some.injEq];omega
theorem eH(u:Nat):Lib.decFrom 0 (Lib.decDigits u)=some u:=by
  by_cases h:u=0
  · subst h;rw[dX (by omega)];rfl
  · have:=vf u;rwa[qL,if_neg h]at this
theorem eK(n:Nat):(bp n).data.toList=Lib.decDigits n:=by simp[bp,Lib.itoa_nonneg]
theorem AB{a b:Nat}(h:bp a=bp b):a=b:=by
  have e:(bp a).data.toList=(bp b).data.toList:=by rw[h]
  rw[eK,eK]at e
  have:=eH a
  rw[e,eH]at this
  exact(Option.some.inj this).symm
theorem j6(u:Nat):∃c r,Lib.decDigits u=c::r∧48≤c.toNat∧c.toNat≤57:=by
  induction u using Nat.strongRecOn with
  | _ u ih=>
    by_cases h:u<10
    · exact⟨_,[],dX h,by rw[pe (by omega)];omega,by rw[pe (by omega)];omega⟩
    · obtain⟨c,r,e,h1,h2⟩:=ih (u / 10) (by omega)
      exact⟨c,r++[UInt8.ofNat (48+u % 10)],by rw[jf (by omega),e];rfl,h1,h2⟩
theorem iQ{u k:Nat}(h:u<10 ^ k)(hk:0<k):(Lib.decDigits u).length≤k:=by
  induction k generalizing u with
  | zero=>omega
  | succ k ih=>
    by_cases h1:u<10
    · rw[dX h1];simp
    · rw[jf (by omega)]
      simp only[List.length_append,List.length_cons,List.length_nil]
      have hk0:0<k:=by
        rcases Nat.eq_zero_or_pos k with rfl|hp
        · simp at h;omega
        · exact hp
      have:=ih (u:=u / 10) (by rw[Nat.pow_succ]at h;omega) hk0
      omega
open Classical in
noncomputable def jR(s:ByteArray):Option Nat:=if h:∃n:Nat,n≤1000000000000∧s=bp n then some h.choose else none
theorem nV{n:Nat}(h:n≤1000000000000):jR (bp n)=some n:=by
  have hx:∃m:Nat,m≤1000000000000∧bp n=bp m:=⟨n,h,rfl⟩
  unfold jR
  rw[dif_pos hx]
  exact congrArg some (AB hx.choose_spec.2).symm
theorem nu{s:ByteArray}(h:∀n:Nat,n≤1000000000000→s≠bp n):jR s=none:=by
  unfold jR
  rw[dif_neg]
  rintro⟨n,h1,h2⟩
  exact h n h1 h2
theorem yB(gl:Bool)(s:St)(x:X):step Γ gl s (.cvt x)=.eI s (((s.bl 1 (s.eval Γ x)).bind cn).map fun l=>.str ⟨l.toArray⟩):=rfl
theorem D4(e:List AV)(L:List (List AV))(H:AH)(x:AV)(ex:Bool):(St.mk e L (H++[some (0,[x])])).bl 1 (.gs H.length 0 0 1 1 1 ex)=some [x]:=by
  simp[St.bl,bA,sub]
theorem xW{a b:ByteArray}(h:a.size+b.size≤9223372036854775807):bU .add .num (.str a) (.str b)=some (.str (a++b)):=by
  have:¬(((a.size+b.size:Nat):Int)>IntKind.i64.max):=by
    have:IntKind.i64.max=9223372036854775807:=by decide
    omega
  simp only[bU];rw[if_neg this]
theorem zz(k:IntKind)(n:Int):Lh .neg (.int k n)=some (.int k (k.wrap (0-n))):=rfl
theorem oH(n:Int):bU .quo .num (.int .i64 n) (.int .i64 10)=some (.int .i64 (IntKind.i64.wrap (n.tdiv 10))):=rfl
theorem oe(n:Int):bU .rem .num (.int .i64 n) (.int .i64 10)=some (.int .i64 (n.tmod 10)):=rfl
theorem FP(a b:List UInt8):(⟨a.toArray⟩:ByteArray)++⟨b.toArray⟩=⟨(a++b).toArray⟩:=by
  apply ByteArray.ext
  simp[ByteArray.data_append]
theorem gy(l:List UInt8):(⟨l.toArray⟩:ByteArray).size=l.length:=by simp[ByteArray.size]
theorem bB(a b:ByteArray):(a.toList == b.toList)=decide (a=b):=by
  by_cases h:a=b
  · subst h;simp
  · rw[decide_eq_false h]
    rw[beq_eq_false_iff_ne]
    intro e
    exact h (ByteArray.ext (by
      have e1:a.data.toList=b.data.toList:=by
        simpa only[ByteArray.toList_eq]using e
      exact Array.toList_inj.1 e1))
theorem Dz(n:Int)(hn:n.natAbs≤9223372036854775808):(n.tmod 10).natAbs=n.natAbs % 10:=by
  rw[Int.natAbs_tmod];rfl
theorem DR(n:Int):(n.tdiv 10).natAbs=n.natAbs / 10:=by
  rw[Int.natAbs_tdiv];rfl
theorem T.text{f:FuncId}{args:List AV}{h:AH}{s:ByteArray}(t:T P Γ f args h fun v h'=>v=.str s∧∃N,h'=h++N):T P Γ f args h fun v h'=>v=.str s∧h'=h:=by
  have:=T.frozen (rs:=[.c (.s s)]) (t.fresh (by
    rintro v h' ⟨rfl,N,rfl⟩
    exact⟨[.str s],N,[],rfl,rfl,⟨[],[],rfl,.s _,rfl⟩,List.nodup_nil,by simp⟩))
  exact this.mono fun v h' ⟨h1,h2⟩=>⟨by simpa[jv,RD.av,CD.av]using h1,h2⟩
theorem Ep{P:Program}{W:World}{nm:String}{g:Nat}{k:IntKind}{zs:List Int}(hg:P.globalNamed nm=some g)(ht:Lib.TabIs P W nm k zs):
    ∃arr,(cE W).imm false g=some arr∧fk (cE W) [] arr 0 (zs.map (AV.int k))∧arr.size=(zs.map (AV.int k)).length:=by
  unfold Lib.TabIs World.var? at ht
  rw[hg]at ht
  simp only[Option.bind_some]at ht
  split at ht
  · rename_i cs T fr hh
    injection ht with ht
    subst ht
    refine⟨_,by simp only[cE,hh];rfl,fun i x hx=>?_,by simp⟩
    simp only[List.getElem?_map,Option.map_eq_some_iff]at hx
    obtain⟨z,hz,rfl⟩:=hx
    exact⟨.int k z,by simp[hz],.int _ _ _⟩
  · cases ht
theorem uX{W:World}{g:Nat}{v:Value}{T:TypeId}{fr:Nat×Nat}(h:W.heap[g]? = some (.cells #[v] T fr)):
    ∃arr,(cE W).imm false g=some arr∧fk (cE W) [] arr 0 [.opq v]∧arr.size=[AV.opq v].length:=by
  refine⟨#[v],by simp only[cE,h];rfl,fun i x hx=>?_,rfl⟩
  match i,hx with
  | 0,hx=>simp at hx;subst hx;exact⟨v,rfl,.opq _ _⟩
  | n+1,hx=>simp at hx
end Go.AM
namespace Go.AM
def Ax:List UInt8:=[99,101,108,108,32,103,101,116,58,32,115,108,111,116,32,48,32,48,59,32,114,101,116,117,114,110,32,48,10,99,101,108,108,32,115,101,116,58,32,97,114,103,32,48,32,48,59,32,115,101,116,32,48,32,48,59,32,114,101,116,117,114,110,32,48,10,99,101,108,108,32,97,100,100,58,32,115,108,111,116,32,48,32,48,59,32,97,114,103,32,49,32,48,59,32,97,100,100,32,48,32,48,32,49,59,32,115,101,116,32,48,32,48,59,32,114,101,116,117,114,110,32,48,10,103,97,116,101,32,103,101,116,58,32,115,108,111,116,32,48,32,48,59,32,115,101,110,100,32,49,32,48,32,103,101,116,59,32,114,101,116,117,114,110,32,49,10,103,97,116,101,32,97,100,100,58,32,115,108,111,116,32,48,32,48,59,32,97,114,103,32,49,32,48,59,32,115,101,110,100,32,50,32,48,32,97,100,100,32,49,59,32,114,101,116,117,114,110,32,50,10,103,97,116,101,32,99,108,111,115,101,58,32,99,111,110,115,116,32,48,32,48,59,32,115,101,116,32,48,32,48,59,32,114,101,116,117,114,110,32,48,10,109,101,116,101,114,32,103,101,116,58,32,115,108,111,116,32,49,32,48,59,32,114,101,116,117,114,110,32,49,10,109,101,116,101,114,32,97,100,100,58,32,115,108,111,116,32,49,32,49,59,32,99,111,110,115,116,32,50,32,49,59,32,97,100,100,32,49,32,49,32,50,59,32,115,101,116,32,49,32,49,59,32,115,108,111,116,32,48,32,48,59,32,97,114,103,32,51,32,48,59,32,115,101,110,100,32,52,32,48,32,97,100,100,32,51,59,32,114,101,116,117,114,110,32,52,10,109,101,116,101,114,32,99,111,117,110,116,58,32,115,108,111,116,32,48,32,49,59,32,114,101,116,117,114,110,32,48,10,109,97,107,101,114,32,109,97,107,101,58,32,97,114,103,32,48,32,48,59,32,110,101,119,32,49,32,103,97,116,101,32,48,59,32,114,101,116,117,114,110,32,49]
def dH:List UInt8:=[115,99,114,105,112,116,32,99,101,108,108,10,109,101,116,104,111,100,32,103,101,116,10,115,108,111,116,32,48,32,48,10,114,101,116,117,114,110,32,48,10,109,101,116,104,111,100,32,115,101,116,10,97,114,103,32,48,32,48,10,115,101,116,32,48,32,48,10,114,101,116,117,114,110,32,48,10,109,101,116,104,111,100,32,97,100,100,10,115,108,111,116,32,48,32,48,10,97,114,103,32,49,32,48,10,97,100,100,32,48,32,48,32,49,10,115,101,116,32,48,32,48,10,114,101,116,117,114,110,32,48,10,115,99,114,105,112,116,32,103,97,116,101,10,109,101,116,104,111,100,32,103,101,116,10,115,108,111,116,32,48,32,48,10,115,101,110,100,32,49,32,48,32,103,101,116,10,114,101,116,117,114,110,32,49,10,109,101,116,104,111,100,32,97,100,100,10,115,108,111,116,32,48,32,48,10,97,114,103,32,49,32,48,10,115,101,110,100,32,50,32,48,32,97,100,100,32,49,10,114,101,116,117,114,110,32,50,10,109,101,116,104,111,100,32,99,108,111,115,101,10,99,111,110,115,116,32,48,32,48,10,115,101,116,32,48,32,48,10,114,101,116,117,114,110,32,48,10,115,99,114,105,112,116,32,109,101,116,101,114,10,109,101,116,104,111,100,32,103,101,116,10,115,108,111,116,32,49,32,48,10,114,101,116,117,114,110,32,49,10,109,101,116,104,111,100,32,97,100,100,10,115,108,111,116,32,49,32,49,10,99,111,110,115,116,32,50,32,49,10,97,100,100,32,49,32,49,32,50,10,115,101,116,32,49,32,49,10,115,108,111,116,32,48,32,48,10,97,114,103,32,51,32,48,10,115,101,110,100,32,52,32,48,32,97,100,100,32,51,10,114,101,116,117,114,110,32,52,10,109,101,116,104,111,100,32,99,111,117,110,116,10,115,108,111,116,32,48,32,49,10,114,101,116,117,114,110,32,48,10,115,99,114,105,112,116,32,109,97,107,101,114,10,109,101,116,104,111,100,32,109,97,107,101,10,97,114,103,32,48,32,48,10,110,101,119,32,49,32,103,97,116,101,32,48,10,114,101,116,117,114,110,32,49,10]
def pat:ByteArray:=⟨Ax.toArray⟩
def nl:ByteArray:=⟨#[10]⟩
theorem c9:Lib.countB pat nl=9:=by decide +kernel
structure yh where
  line:List UInt8
  own:List UInt8
  met:List UInt8
  code:List UInt8
  rep:List UInt8
def fX:List yh:=[
  ⟨[99,101,108,108,32,103,101,116,58,32,115,108,111,116,32,48,32,48,59,32,114,101,116,117,114,110,32,48],[99,101,108,108],[103,101,116],[115,108,111,116,32,48,32,48,59,32,114,101,116,117,114,110,32,48],[115,108,111,116,32,48,32,48,10,114,101,116,117,114,110,32,48]⟩,
  ⟨[99,101,108,108,32,115,101,116,58,32,97,114,103,32,48,32,48,59,32,115,101,116,32,48,32,48,59,32,114,101,116,117,114,110,32,48],[99,101,108,108],[115,101,116],[97,114,103,32,48,32,48,59,32,115,101,116,32,48,32,48,59,32,114,101,116,117,114,110,32,48],[97,114,103,32,48,32,48,10,115,101,116,32,48,32,48,10,114,101,116,117,114,110,32,48]⟩,
  ⟨[99,101,108,108,32,97,100,100,58,32,115,108,111,116,32,48,32,48,59,32,97,114,103,32,49,32,48,59,32,97,100,100,32,48,32,48,32,49,59,32,115,101,116,32,48,32,48,59,32,114,101,116,117,114,110,32,48],[99,101,108,108],[97,100,100],[115,108,111,116,32,48,32,48,59,32,97,114,103,32,49,32,48,59,32,97,100,100,32,48,32,48,32,49,59,32,115,101,116,32,48,32,48,59,32,114,101,116,117,114,110,32,48],[115,108,111,116,32,48,32,48,10,97,114,103,32,49,32,48,10,97,100,100,32,48,32,48,32,49,10,115,101,116,32,48,32,48,10,114,101,116,117,114,110,32,48]⟩,
  ⟨[103,97,116,101,32,103,101,116,58,32,115,108,111,116,32,48,32,48,59,32,115,101,110,100,32,49,32,48,32,103,101,116,59,32,114,101,116,117,114,110,32,49],[103,97,116,101],[103,101,116],[115,108,111,116,32,48,32,48,59,32,115,101,110,100,32,49,32,48,32,103,101,116,59,32,114,101,116,117,114,110,32,49],[115,108,111,116,32,48,32,48,10,115,101,110,100,32,49,32,48,32,103,101,116,10,114,101,116,117,114,110,32,49]⟩,
  ⟨[103,97,116,101,32,97,100,100,58,32,115,108,111,116,32,48,32,48,59,32,97,114,103,32,49,32,48,59,32,115,101,110,100,32,50,32,48,32,97,100,100,32,49,59,32,114,101,116,117,114,110,32,50],[103,97,116,101],[97,100,100],[115,108,111,116,32,48,32,48,59,32,97,114,103,32,49,32,48,59,32,115,101,110,100,32,50,32,48,32,97,100,100,32,49,59,32,114,101,116,117,114,110,32,50],[115,108,111,116,32,48,32,48,10,97,114,103,32,49,32,48,10,115,101,110,100,32,50,32,48,32,97,100,100,32,49,10,114,101,116,117,114,110,32,50]⟩,
  ⟨[103,97,116,101,32,99,108,111,115,101,58,32,99,111,110,115,116,32,48,32,48,59,32,115,101,116,32,48,32,48,59,32,114,101,116,117,114,110,32,48],[103,97,116,101],[99,108,111,115,101],[99,111,110,115,116,32,48,32,48,59,32,115,101,116,32,48,32,48,59,32,114,101,116,117,114,110,32,48],[99,111,110,115,116,32,48,32,48,10,115,101,116,32,48,32,48,10,114,101,116,117,114,110,32,48]⟩,
  ⟨[109,101,116,101,114,32,103,101,116,58,32,115,108,111,116,32,49,32,48,59,32,114,101,116,117,114,110,32,49],[109,101,116,101,114],[103,101,116],[115,108,111,116,32,49,32,48,59,32,114,101,116,117,114,110,32,49],[115,108,111,116,32,49,32,48,10,114,101,116,117,114,110,32,49]⟩,
  ⟨[109,101,116,101,114,32,97,100,100,58,32,115,108,111,116,32,49,32,49,59,32,99,111,110,115,116,32,50,32,49,59,32,97,100,100,32,49,32,49,32,50,59,32,115,101,116,32,49,32,49,59,32,115,108,111,116,32,48,32,48,59,32,97,114,103,32,51,32,48,59,32,115,101,110,100,32,52,32,48,32,97,100,100,32,51,59,32,114,101,116,117,114,110,32,52],[109,101,116,101,114],[97,100,100],[115,108,111,116,32,49,32,49,59,32,99,111,110,115,116,32,50,32,49,59,32,97,100,100,32,49,32,49,32,50,59,32,115,101,116,32,49,32,49,59,32,115,108,111,116,32,48,32,48,59,32,97,114,103,32,51,32,48,59,32,115,101,110,100,32,52,32,48,32,97,100,100,32,51,59,32,114,101,116,117,114,110,32,52],[115,108,111,116,32,49,32,49,10,99,111,110,115,116,32,50,32,49,10,97,100,100,32,49,32,49,32,50,10,115,101,116,32,49,32,49,10,115,108,111,116,32,48,32,48,10,97,114,103,32,51,32,48,10,115,101,110,100,32,52,32,48,32,97,100,100,32,51,10,114,101,116,117,114,110,32,52]⟩,
  ⟨[109,101,116,101,114,32,99,111,117,110,116,58,32,115,108,111,116,32,48,32,49,59,32,114,101,116,117,114,110,32,48],[109,101,116,101,114],[99,111,117,110,116],[115,108,111,116,32,48,32,49,59,32,114,101,116,117,114,110,32,48],[115,108,111,116,32,48,32,49,10,114,101,116,117,114,110,32,48]⟩,
  ⟨[109,97,107,101,114,32,109,97,107,101,58,32,97,114,103,32,48,32,48,59,32,110,101,119,32,49,32,103,97,116,101,32,48,59,32,114,101,116,117,114,110,32,49],[109,97,107,101,114],[109,97,107,101],[97,114,103,32,48,32,48,59,32,110,101,119,32,49,32,103,97,116,101,32,48,59,32,114,101,116,117,114,110,32,49],[97,114,103,32,48,32,48,10,110,101,119,32,49,32,103,97,116,101,32,48,10,114,101,116,117,114,110,32,49]⟩]
def lines:List ByteArray:=fX.map fun r=>⟨r.line.toArray⟩
theorem rV:∀(a b:List UInt8),(10:UInt8)∉a→Lib.index (a++10::b) [10]=a.length
  | [],b,_=>by simp[Lib.index,List.isPrefixOf]
  | c::a,b,h=>by
    have h1:((10:UInt8) == c)=false:=beq_eq_false_iff_ne.2 (fun e=>h (by simp[e]))
    have h2:=rV a b (fun e=>h (by simp[e]))
    rw[List.cons_append,Lib.index,h2]
    simp only[List.isPrefixOf,h1,Bool.false_and,Bool.false_eq_true,if_false]
    rw[if_neg (by simp)]
    simp
theorem wZ(a b:List UInt8)(h:(10:UInt8)∉a)(n:Nat):Lib.splitB nl 0 (n+1) ⟨(a++10::b).toArray⟩=⟨a.toArray⟩::Lib.splitB nl 0 n ⟨b.toArray⟩:=by
  have hi:Lib.indexB ⟨(a++10::b).toArray⟩ nl=a.length:=by
    show Lib.index (a++10::b).toArray.toList [10]=_
    rw[List.toList_toArray];exact rV a b h
  have e1:(⟨(a++10::b).toArray⟩:ByteArray).extract 0 a.length=⟨a.toArray⟩:=by
    apply ByteArray.ext;simp[ByteArray.data_extract]
  have e2:(⟨(a++10::b).toArray⟩:ByteArray).extract (a.length+1) (⟨(a++10::b).toArray⟩:ByteArray).size=⟨b.toArray⟩:=by
    apply ByteArray.ext;simp[ByteArray.data_extract,ByteArray.size];exact List.take_of_length_le (by omega)
  rw[Lib.splitB,hi]
  rw[if_neg (by simp)]
  simp only[Int.toNat_natCast,Nat.add_zero,e1]
  rw[show nl.size=1 from rfl,e2]
def zj:List (List UInt8)→List UInt8
  | []=>[]
  | [a]=>a
  | a::b::r=>a++10::zj (b::r)
theorem nJ:∀(l:List (List UInt8)) (a:List UInt8),(∀x∈a::l,(10:UInt8)∉x)→Lib.splitB nl 0 l.length ⟨(zj (a::l)).toArray⟩=(a::l).map fun x=>⟨x.toArray⟩
  | [],a,_=>rfl
  | b::l,a,h=>by
    rw[zj,List.length_cons,wZ _ _ (h a (by simp)),nJ l b (fun x hx=>h x (by simp[List.mem_cons.1 hx]))]
    rfl
theorem C6:Ax=zj (fX.map yh.line):=by decide +kernel
theorem LA:∀x∈fX.map yh.line,(10:UInt8)∉x:=by decide +kernel
theorem AU:Lib.splitB nl 0 9 pat=lines:=by
  have:=nJ ((fX.map yh.line).tail) ((fX.map yh.line).headD []) (fun x hx=>LA x (show x∈fX.map yh.line from hx))
  rw[pat,C6]
  exact this
theorem KZ:fX.all (fun r=>decide (Lib.cut r.line [58,32]=(r.own++[32]++r.met,r.code,true)) && decide (Lib.cut (r.own++[32]++r.met) [32]=(r.own,r.met,true)) && decide (Lib.replaceAll r.code [59,32] [10]=r.rep))=true:=by decide +kernel
def yx(own:List UInt8):List UInt8:=[115,99,114,105,112,116,32]++own++[10]
def uw(met rep:List UInt8):List UInt8:=[109,101,116,104,111,100,32]++met++[10]++rep++[10]
def yV(st:List UInt8×List UInt8)(r:yh):List UInt8×List UInt8:=(r.own,st.2++(if r.own=st.1 then []else yx r.own)++uw r.met r.rep)
def mM(i:Nat):List UInt8×List UInt8:=(fX.take i).foldl yV ([],[])
theorem D9:(mM 10).2=dH:=by decide +kernel
theorem DW:∀i,i<11→(mM i).2.length≤1000:=by decide +kernel
theorem DE:fX.length=10:=rfl
theorem DL:∀r∈fX,r.line.length≤100∧r.own.length≤100∧r.met.length≤100∧r.code.length≤100∧r.rep.length≤100:=by decide +kernel
theorem Aa{i:Nat}(hi:i<fX.length):mM (i+1)=yV (mM i) fX[i]:=by
  rw[mM,List.take_succ_eq_append_getElem hi,List.foldl_append];rfl
end Go.AM
namespace Go.AM
abbrev Tx:=List UInt8
def tb(l:Tx):ByteArray:=⟨l.toArray⟩
def aU(b:UInt8):Tx→List Tx
  | []=>[[]]
  | c::r=>if c=b then []::aU b r else (match aU b r with|x::xs=>(c::x)::xs|[]=>[[c]])
theorem kf(b:UInt8):∀l,aU b l≠[]
  | []=>by simp[aU]
  | c::r=>by
    unfold aU
    split
    · simp
    · split<;>simp
def iT:Nat→Tx
  | 1=>[99,111,110,115,116]|2=>[97,114,103]|3=>[115,108,111,116]|4=>[115,101,108,102]|5=>[97,100,100]|6=>[115,101,110,100]
  | 7=>[110,101,119]|8=>[115,101,116]|9=>[115,107,105,112]|10=>[114,101,116,117,114,110]|_=>[]
structure bJ where
  op:Int
  a:Int
  b:Int
  c:Int
  d:Int
  name:Tx
  deriving DecidableEq
def bJ.D(x:bJ):aN:=⟨x.op,x.a,x.b,x.c,x.d,tb x.name⟩
def CZ:Nat→Nat→Tx
  | 0,_=>[]
  | f+1,n=>if n<10 then [UInt8.ofNat (48+n)]else CZ f (n / 10)++[UInt8.ofNat (48+n % 10)]
def mg(s:Tx):Option Nat:=
  let n:=s.foldl (fun(a:Nat) (c:UInt8)=>10*a+(c.toNat-48)) 0
  if s.all (fun c=>decide (48≤c.toNat) && decide (c.toNat≤57)) && decide (s.length≤13) && decide (CZ 20 n=s) && decide (n≤1000000000000)then some n else none
def dA(ws:List Tx)(i:Nat):Int:=match ws[i]? with|some w=>(match mg w with|some n=>(n:Int)|none=>-1)|none=>-1
def kt(w:Tx):Nat:=((List.range 10).map (· + 1)).find? (fun k=>iT k=w) |>.getD 0
def Jz(s:Tx):Bool:=decide (1≤s.length) && (decide (s.length≤6) && s.all fun c=>decide (97≤c.toNat) && decide (c.toNat≤122))
def kH(n:Int):Bool:=decide (0≤n) && decide (n≤7)
def NY(x:bJ):Bool:=(decide (x.c = -1) && decide (x.d = -1)) || (kH x.c && (decide (x.d = -1) || kH x.d))
def Qi(n lo hi:Int):Bool:=decide (lo≤n) && decide (n≤hi)
def mh(x:bJ):Bool:=decide (x.c=0) && (decide (x.d=0) && decide (x.name=[]))
def my(x:bJ):Bool:=
  if x.op=1 then mh x && (kH x.a && Qi x.b 0 999999)
  else if x.op=2 then mh x && (kH x.a && Qi x.b 0 1)
  else if x.op=3 then mh x && (kH x.a && Qi x.b 0 2)
  else if x.op=4∨x.op=10 then mh x && (kH x.a && decide (x.b=0))
  else if x.op=5 then kH x.a && (kH x.b && (kH x.c && (decide (x.d=0) && decide (x.name=[]))))
  else if x.op=6 then kH x.a && (kH x.b && (NY x && Jz x.name))
  else if x.op=7 then kH x.a && (decide (x.b=0) && (NY x && Jz x.name))
  else if x.op=8 then mh x && (Qi x.a 0 2 && kH x.b)
  else if x.op=9 then mh x && (kH x.a && Qi x.b 1 12)
  else false
def iO(n:Int):Tx:=if n<0 then 45::CZ 20 n.natAbs else CZ 20 n.natAbs
def sp(s:Tx):Tx:=32::s
def jq(x:bJ):Tx:=
  if my x=false then []else
  let s:=iT x.op.toNat
  let tail:=fun s:Tx=>let s:=if x.c = -1 then s else s++sp (iO x.c);if x.d = -1 then s else s++sp (iO x.d)
  if x.op=4∨x.op=10 then s++sp (iO x.a)
  else if x.op=5 then s++sp (iO x.a)++sp (iO x.b)++sp (iO x.c)
  else if x.op=6 then tail (s++sp (iO x.a)++sp (iO x.b)++sp x.name)
  else if x.op=7 then tail (s++sp (iO x.a)++sp x.name)
  else s++sp (iO x.a)++sp (iO x.b)
def J2(ws:List Tx):bJ:=
  let op:=kt (ws.headD [])
  let x:bJ:=⟨op,dA ws 1,0,0,0,[]⟩
  if op=4∨op=10 then x
  else if op=5 then { x with b:=dA ws 2,c:=dA ws 3 }
  else if op=6 then { x with b:=dA ws 2,c:=dA ws 4,d:=dA ws 5,name:=ws.getD 3 [] }
  else if op=7 then { x with c:=dA ws 3,d:=dA ws 4,name:=ws.getD 2 [] }
  else { x with b:=dA ws 2 }
def zy(s:Tx):Option bJ:=let x:=J2 (aU 32 s);if my x=true∧jq x=s then some x else none
structure cD where
  name:Tx
  code:List bJ
  deriving DecidableEq
structure bj where
  name:Tx
  methods:List cD
  deriving DecidableEq
def bu:Tx:=[115,99,114,105,112,116,32]
def bz:Tx:=[109,101,116,104,111,100,32]
def xJ{α:Type}(l:List α)(f:α→α):List α:=match l.reverse with|x::r=>(f x::r).reverse|[]=>[]
def W8(l:List bj)(line:Tx):Option (List bj):=
  if 7<line.length∧line.take 7=bu then some (l++[⟨line.drop 7,[]⟩])
  else if l≠[]∧7<line.length∧line.take 7=bz then some (xJ l fun s=>{ s with methods:=s.methods++[⟨line.drop 7,[]⟩] })
  else match zy line with
    | some x=>(match l.getLast? with
      | some s=>if s.methods=[]then none else some (xJ l fun s=>{ s with methods:=xJ s.methods fun m=>{ m with code:=m.code++[x] } })
      | none=>none)
    | none=>none
def po(t:Tx):List Tx:=(aU 10 t).dropLast
def Rn(t:Tx):Option (List bj):=(po t).foldl (fun(o:Option (List bj)) line=>o.bind fun l=>W8 l line) (some [])
def gO:List bj:=(Rn dH).getD []
def fmtS(s:bj):Tx:=bu++s.name++[10]++(s.methods.map fun m=>bz++m.name++[10]++(m.code.map fun x=>jq x++[10]).flatten).flatten
theorem xp:(gO.map fmtS).flatten=dH:=by decide +kernel
end Go.AM
namespace Go.AM
def lN(b:UInt8)(ps:List Tx)(c:UInt8):List Tx:=if c=b then ps++[[]]else ps.dropLast++[ps.getLast?.getD []++[c]]
theorem kJ{b c:UInt8}{p:Tx}{ps:List Tx}(h:ps≠[]):lN b (p::ps) c=p::lN b ps c:=by
  unfold lN
  split
  · rfl
  · cases ps with
    | nil=>exact absurd rfl h
    | cons q r=>simp[List.getLast?_cons_cons]
theorem nK(b:UInt8)(c:UInt8):∀l,aU b (l++[c])=lN b (aU b l) c
  | []=>by
    simp only[List.nil_append,aU,lN]
    split<;>simp
  | d::r=>by
    have ih:=nK b c r
    simp only[List.cons_append,aU]
    split
    · rw[ih,kJ (kf b r)]
    · rw[ih]
      cases hs:aU b r with
      | nil=>exact absurd hs (kf b r)
      | cons x xs=>
        cases xs with
        | nil=>
          by_cases hc:c=b<;>simp[lN,hc]
        | cons y ys=>
          have e1:=kJ (b:=b) (c:=c) (p:=x) (ps:=y::ys) (by simp)
          have e2:=kJ (b:=b) (c:=c) (p:=d::x) (ps:=y::ys) (by simp)
          rw[e1,e2]
theorem mQ{b:UInt8}{l:Tx}{i:Nat}(hi:i<l.length):aU b (l.take (i+1))=lN b (aU b (l.take i)) l[i]:=by
  rw[List.take_succ_eq_append_getElem hi,nK]
def bZ:List Tx:=(po dH).filter fun l=>!(decide (l.take 7=bu) || decide (l.take 7=bz))
theorem D3:bZ.all (fun s=>(zy s).isSome && (aU 32 s).all fun w=>decide (w≠[]) && decide (w.length≤6))=true:=by decide +kernel
end Go.AM
namespace Go.AM
def cD.D(m:cD):aJ:=⟨tb m.name,m.code.map bJ.D⟩
def bj.D(s:bj):aB:=⟨tb s.name,s.methods.map cD.D⟩
def Ky(v:ByteArray):Bool:=(decide ((1:Int)≤v.size) && decide ((v.size:Int)≤6)) && (List.range v.size).all fun k=>decide (97≤(cQ v k:Int)) && decide ((cQ v k:Int)≤122)
def iH(n:Int):Bool:=decide (0≤n) && decide (n≤7)
def wR(n lo hi:Int):Bool:=decide (lo≤n) && decide (n≤hi)
def vo(x:aN):Bool:=(decide (x.c_ = -1) && decide (x.d = -1)) || (iH x.c_ && (decide (x.d = -1) || iH x.d))
def hZ(x:aN):Bool:=decide (x.c_=0) && (decide (x.d=0) && decide (x.name=tb []))
def fM(x:aN):Bool:=
  if x.op=1 then hZ x && (iH x.a && wR x.b 0 999999)
  else if x.op=2 then hZ x && (iH x.a && wR x.b 0 1)
  else if x.op=3 then hZ x && (iH x.a && wR x.b 0 2)
  else if x.op=4∨x.op=10 then hZ x && (iH x.a && decide (x.b=0))
  else if x.op=5 then iH x.a && (iH x.b && (iH x.c_ && (decide (x.d=0) && decide (x.name=tb []))))
  else if x.op=6 then iH x.a && (iH x.b && (vo x && Ky x.name))
  else if x.op=7 then iH x.a && (decide (x.b=0) && (vo x && Ky x.name))
  else if x.op=8 then hZ x && (wR x.a 0 2 && iH x.b)
  else if x.op=9 then hZ x && (iH x.a && wR x.b 1 12)
  else false
def pN(m:aJ):Bool:=m.code.all fM && (Ky m.name && decide (m.code.length≤12))
def A4(l:List aJ):Bool:=(List.range l.length).all fun i=>(List.range i).all fun k=>decide ((l[k]?.map aJ.name)≠(l[i]?.map aJ.name))
def ye(s:aB):Bool:=s.methods.all pN && (A4 s.methods && (Ky s.name && decide (s.methods.length≤4)))
def As(l:List aB):Bool:=l.all ye && ((List.range l.length).all fun i=>(List.range i).all fun k=>decide ((l[k]?.map aB.name)≠(l[i]?.map aB.name))) && decide (l.length≤6)
def dP:List aB:=gO.map bj.D
theorem ou:As dP=true:=by decide +kernel
theorem j9:dP.length=4:=by decide +kernel
end Go.AM
namespace Go.AM
end Go.AM
namespace Go.AM
theorem cu{e:List AV}{L:List (List AV)}{h:AH}{i off n:Nat}{z:List AV}(hi:L[i]? = some z):(St.mk e L h).cells (.lp i off) n=sub z off n:=by
  simp only[St.cells,hi,Option.bind_some]
theorem jc{e:List AV}{L:List (List AV)}{h:AH}{i off:Nat}{z:List AV}{v:AV}(hi:L[i]? = some z)(ho:off+1≤z.length)(hv:b8 v=true):(St.mk e L h).store (.lp i off) [v]=some ⟨e,L.set i (over z off [v]),h⟩:=by
  simp[St.store,hi,ho,hv]
theorem tj{e:List AV}{L:List (List AV)}{h:AH}{i:Nat}{z vs:List AV}(hi:L[i]? = some z)(ho:vs.length=z.length)(hv:vs.all b8=true):(St.mk e L h).store (.lp i 0) vs=some ⟨e,L.set i vs,h⟩:=by
  simp only[St.store,hi,Option.bind_some,Nat.zero_add]
  rw[if_pos (by omega),hv,if_pos rfl]
  congr 3
  simp[over,ho]
theorem fD{L:List (List AV)}{i:Nat}{z:List AV}(hi:L[i]? = some z)(x:List (List AV)):(L++x)[i]? = some z:=by
  rw[List.getElem?_append_left (aK hi)];exact hi
theorem gD{L:List (List AV)}{i j:Nat}{z y:List AV}(hi:L[i]? = some z)(hij:j≠i):(L.set j y)[i]? = some z:=by
  rw[List.getElem?_set_ne hij];exact hi
theorem iu{L:List (List AV)}{i:Nat}{z y:List AV}(hi:L[i]? = some z):(L.set i y)[i]? = some y:=by
  rw[List.getElem?_set_self (aK hi)]
theorem vc(L:List (List AV))(x:List AV):(L++[x])[L.length]? = some x:=by simp
theorem bO.row{H:AH}{w:AV}{sz:Nat}{xs:List (List CD)}{fp:List Nat}(o:bO H w (.sl sz xs) fp)(nd:fp.Nodup){k:Nat}(hk:k<xs.length):
    ∃b g az f,cm sz w (k:Int)=some (.gp b g (k*sz))∧b<H.length∧b∈fp∧(∀(e:List AV) (L:List (List AV)),(St.mk e L H).cells (.gp b g (k*sz)) sz=some az)∧
      (∀(e:List AV) (L:List (List AV)) (off n:Nat),off+n≤sz→(St.mk e L H).cells (.gp b g (k*sz+off)) n=sub az off n)∧aV H az xs[k] f∧f.Nodup∧(∀c∈f,c∈fp)∧az.length=sz:=by
  rcases o.fj with⟨rfl,e,rfl⟩|⟨b,g,cap,ex,az,tail,fp',rfl,rfl,hg,hsz,ht,hc,hown⟩
  · subst e;simp at hk
  obtain⟨nb,nd'⟩:=List.nodup_cons.1 nd
  have hfl:xs.flatten=(xs.take k).flatten++(xs[k]++(xs.drop (k+1)).flatten):=by
    rw[←List.flatten_cons,←List.drop_eq_getElem_cons hk,←List.flatten_append,List.take_append_drop]
  rw[hfl]at hown
  obtain⟨a1,a2,f1,f2,e1,e2,o1,o2⟩:=hown.split
  obtain⟨a3,a4,f3,f4,e3,e4,o3,o4⟩:=o2.split
  subst e1 e2 e3 e4
  have l1:a1.length=k*sz:=by
    rw[o1.len]
    have:∀(ys:List (List CD)),(∀l∈ys,l.length=sz)→ys.flatten.length=ys.length*sz:=fun ys=>by
      induction ys with
      | nil=>intro _;simp
      | cons y ys ih=>intro h;rw[List.flatten_cons,List.length_append,ih (fun l hl=>h l (by simp[hl])),h y (by simp),List.length_cons,Nat.add_mul];omega
    rw[this _ (fun l hl=>hsz l (List.mem_of_mem_take hl)),List.length_take,Nat.min_eq_left (by omega)]
  have l3:a3.length=sz:=by rw[o3.len];exact hsz _ (List.getElem_mem hk)
  have hcell:∀(e:List AV) (L:List (List AV)) (off n:Nat),off+n≤sz→(St.mk e L H).cells (.gp b g (k*sz+off)) n=sub a3 off n:=fun e L off n hn=>by
    rw[ee hg]
    unfold sub
    rw[if_pos (by simp;omega),if_pos (by omega)]
    congr 1
    rw[List.append_assoc,List.drop_append,List.drop_eq_nil_of_le (by omega),List.nil_append,l1,Nat.add_sub_cancel_left,List.append_assoc,List.drop_append_of_le_length (by omega),List.take_append_of_le_length (by rw[List.length_drop];omega)]
  obtain⟨n1,n2,n3⟩:=List.nodup_append.1 nd'
  obtain⟨n4,n5,n6⟩:=List.nodup_append.1 n2
  refine⟨b,g,a3,f3,by have:=fo (b:=b) (g:=g) (off:=0) (len:=xs.length) (cap:=cap) (sz:=sz) (ex:=ex) hk;rwa[Nat.zero_add]at this,dd hg,by simp,fun e L=>?_,hcell,o3,n4,fun c hc=>by simp[hc],l3⟩
  have:=hcell e L 0 sz (by omega)
  rw[Nat.add_zero]at this
  rw[this];unfold sub;rw[if_pos (by omega),List.drop_zero,←l3,List.take_length]
end Go.AM
