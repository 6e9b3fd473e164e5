import Derived.Test.YtccjhmhkfnnmaaaGreatAmG8
import Derived.Test.YtccjhmhkfnnmaaaGreatAmG6
set_option linter.unusedVariables false
set_option linter.unusedSimpArgs false
namespace Go.AM
theorem aG.D9{H:AH}{as:List AV}{xs:List (List CD)}{f1:List Nat}(o1:aG H as xs.flatten f1){ys:List AV}{row:List CD}{f2:List Nat}(o2:aG H ys row f2):aG H (as++ys) (xs++[row]).flatten (f1++f2):=by
  rw[List.flatten_append];simpa using o1.append o2
theorem cY{H:AH}{v:AV}{sz bytes:Nat}{xs:List (List CD)}{fp:List Nat}(o:b6 H v (.sl sz xs) fp){ys:List AV}{row:List CD}{f2:List Nat}(nd:(fp++f2).Nodup)(h0:0<sz)(hy:ys.length=sz)
    (oy:aG H ys row f2) (hb:(xs.length+1)*(sz+bytes)≤aQ):
    ∃v' H' fp',(∀e l,tS ⟨e,l,H++[some (0,ys)]⟩ sz bytes v (eF ⟨e,l,H++[some (0,ys)]⟩ sz false (.gs H.length 0 0 1 1 sz true)) (lenOf (.gs H.length 0 0 1 1 sz true)) (lenOf v)=.val v' ⟨e,l,H'⟩)∧
      b6 H' v' (.sl sz (xs++[row])) fp'∧fp'.Nodup∧(∀c,c∉fp→c<H.length→H'[c]? = H[c]?)∧H.length≤H'.length∧(∀c∈fp',c∈fp∨c∈f2∨H.length≤c):=by
  have hno:=oy.bj
  have src:∀e l,eF ⟨e,l,H++[some (0,ys)]⟩ sz false (.gs H.length 0 0 1 1 sz true)=some ys:=fun e l=>by
    simp[eF,St.bh,cW,k5 hy]
  have hd:=List.nodup_append.1 nd
  have hrl:row.length=sz:=by rw[←oy.len,hy]
  rcases o.ly with⟨rfl,rfl,rfl⟩|⟨b,g,cap,ex,as,tail,fp',rfl,rfl,hg,h3,ht,hc,ho⟩
  · refine⟨.gs (H.length+1) 0 0 1 1 sz false,(H++[some (0,ys)])++[some (0,ys)],(H.length+1)::f2,fun e l=>?_,?_,?_,?_,?_,?_⟩
    · rw[src]
      simp only[tS,lenOf,ky,St.push]
      rw[if_neg (by omega),if_neg (by simp at hb;omega),if_neg (by omega),if_pos hno]
      simp[AR.CO]
    · have:=b6.sl_mk (h:=(H++[some (0,ys)])++[some (0,ys)]) (b:=H.length+1) (g:=0) (cap:=1) (sz:=sz) (ex:=false) (as:=ys) (tail:=[]) (xs:=[row]) (fp:=f2)
        (by rw[List.append_nil,show H.length+1=(H++[some (0,ys)]).length by simp];exact cW _ _) (by simp[hrl]) (by simp) (by simp) (by simpa using(oy.grow (new:=[some (0,ys)])).grow (new:=[some (0,ys)]))
      simpa using this
    · refine List.nodup_cons.2 ⟨fun hm=>?_,hd.2.1⟩
      have:=oy.lt _ hm;omega
    · intro c _ hl;rw[List.append_assoc,List.getElem?_append_left hl]
    · simp
    · intro c hc
      rcases List.mem_cons.1 hc with rfl|hc
      · exact .inr (.inr (by omega))
      · exact .inr (.inl hc)
  have hbl:b<H.length:=g6 hg
  have hal:as.length=xs.length*sz:=by
    rw[ho.len]
    have:=kR (l:=xs) (f:=fun x=>x) (sz:=sz) h3
    simpa using this
  have hg2:b7 (H++[some (0,ys)]) b=some (g,as++tail):=qV hg _
  have hnb:b∉f2:=fun hm=>hd.2.2 b (by simp) b hm rfl
  have hnbp:b∉fp':=(List.nodup_cons.1 hd.1).1
  have hset:∀z,((H++[some (0,ys)]).set b z)=(H.set b z)++[some (0,ys)]:=fun z=>by rw[List.set_append_left _ _ hbl]
  have hgs:∀z:Nat×List AV,b7 ((H++[some (0,ys)]).set b (some z)) b=some z:=fun z=>by
    simp only[b7,hset,List.getElem?_append_left (show b<(H.set b (some z)).length by simpa using hbl)];simp[hbl]
  have hfr:∀(z:Option (Nat×List AV)) (c:Nat),c≠b→c<H.length→((H++[some (0,ys)]).set b z)[c]? = H[c]?:=fun z c hc hl=>by
    rw[hset,List.getElem?_append_left (by simpa using hl),List.getElem?_set_ne (Ne.symm hc)]
  have own2:∀z,aG ((H++[some (0,ys)]).set b z) (as++ys) (xs++[row]).flatten (fp'++f2):=fun z=>
    aG.D9 (ho.frame fun c hc=>hfr z c (fun e=>hnbp (e▸hc)) (ho.lt c hc)) (oy.frame fun c hc=>hfr z c (fun e=>hnb (e▸hc)) (oy.lt c hc))
  have nd2:(b::(fp'++f2)).Nodup:=by simpa using nd
  have h3':∀l∈xs++[row],l.length=sz:=fun l hl=>by
    rcases List.mem_append.1 hl with hl|hl
    · exact h3 l hl
    · rw[List.mem_singleton.1 hl];exact hrl
  have mem:∀c∈b::(fp'++f2),c∈b::fp'∨c∈f2∨H.length≤c:=fun c hc=>by
    rcases List.mem_cons.1 hc with rfl|hc
    · exact .inl (by simp)
    · rcases List.mem_append.1 hc with hc|hc
      · exact .inl (by simp[hc])
      · exact .inr (.inl hc)
  by_cases hcap:xs.length+1≤cap
  · have hroom:(xs.length+1)*sz≤(as++tail).length:=by
      have h1:(xs.length+1)*sz=xs.length*sz+sz:=Nat.succ_mul _ _
      have h2:1*sz≤(cap-xs.length)*sz:=Nat.mul_le_mul_right _ (by omega)
      have:=hc.2
      rw[List.length_append,hal];omega
    have hroom2:(cap-(xs.length+1))*sz≤(tail.drop sz).length:=by
      have h1:cap-xs.length=(cap-(xs.length+1))+1:=by omega
      have h2:=hc.2
      rw[h1,Nat.succ_mul]at h2
      rw[List.length_drop];omega
    have hov:cD (as++tail) (xs.length*sz) ys=(as++ys)++tail.drop sz:=by
      simp only[cD]
      rw[←hal,List.take_left',List.drop_append,List.drop_of_length_le (by omega),show as.length+ys.length-as.length=sz by omega]
      · simp
      · rfl
    refine⟨.gs b g 0 (xs.length+1) cap sz ex,(H++[some (0,ys)]).set b (some (g,(as++ys)++tail.drop sz)),b::(fp'++f2),fun e l=>?_,?_,nd2,?_,by simp,mem⟩
    · rw[src]
      simp only[tS,lenOf,ky]
      rw[if_neg (by omega),if_neg (by omega)]
      simp only[hg2,Option.bind_some,if_true,hno]
      rw[if_pos hcap,if_pos (by rw[Nat.zero_add];exact hroom),Nat.zero_add,hov]
      rfl
    · have:=b6.sl_mk (h:=(H++[some (0,ys)]).set b (some (g,(as++ys)++tail.drop sz))) (b:=b) (g:=g) (cap:=cap) (sz:=sz) (ex:=ex) (as:=as++ys) (tail:=tail.drop sz) (xs:=xs++[row]) (fp:=fp'++f2)
        (hgs _) h3' (fun x hx=>ht x (List.mem_of_mem_drop hx)) ⟨by simpa using hcap,by simpa using hroom2⟩ (own2 _)
      simpa using this
    · intro c hc hl;exact hfr _ c (fun e=>hc (by simp[e])) hl
  · refine⟨.gs b (g+1) 0 (xs.length+1) (xs.length+1) sz false,(H++[some (0,ys)]).set b (some (g+1,as++ys)),b::(fp'++f2),fun e l=>?_,?_,nd2,?_,by simp,mem⟩
    · rw[src]
      simp only[tS,lenOf,ky]
      rw[if_neg (by omega),if_neg (by omega)]
      simp only[hg2,Option.bind_some,if_true,hno]
      rw[if_neg hcap]
      have:sub (as++tail) 0 (xs.length*sz)=some as:=by
        simp only[sub];rw[if_pos (by rw[Nat.zero_add,←hal,List.length_append];omega)];simp[←hal]
      rw[this];rfl
    · have:=b6.sl_mk (h:=(H++[some (0,ys)]).set b (some (g+1,as++ys))) (b:=b) (g:=g+1) (cap:=xs.length+1) (sz:=sz) (ex:=false) (as:=as++ys) (tail:=[]) (xs:=xs++[row]) (fp:=fp'++f2)
        (by rw[List.append_nil];exact hgs _) h3' (by simp) (by simp) (own2 _)
      simpa using this
    · intro c hc hl;exact hfr _ c (fun e=>hc (by simp[e])) hl
end Go.AM
namespace Go.AM
theorem b6.dJ{h:AH}{a:AV}{d:CD}{fp:List Nat}(o:b6 h a d fp):Go.AM.dJ a=true:=by cases o<;>rfl
theorem dI(h:AH)(sz:Nat):b6 (h++[some (0,[])]) (.gs h.length 0 0 0 0 sz true) (.sl sz []) [h.length]:=
  b6.sl_mk (xs:=[]) (as:=[]) (tail:=[]) (by simp[cW]) (by simp) (by simp) (by simp) rfl
theorem MH(z:List AV):(List.replicate 0 z).flatten=[]:=rfl
theorem Oy(z:List AV):(List.replicate 1 z).flatten=z:=by simp
theorem Dh(e:List AV)(l:List (List AV))(h:AH)(sz len:Nat)(cs:List AV):CM ⟨e,l,h⟩ sz len (some cs)=if cs.all bj=true then .val (.gs h.length 0 0 len len sz true) ⟨e,l,h++[some (0,cs)]⟩else .stuck:=by simp[CM,St.push]
theorem i5(x:AV)(xs:List AV):(x::xs).all bj=(bj x && xs.all bj):=rfl
theorem iY:([]:List AV).all bj=true:=rfl
theorem mO(k:IntKind)(n:Int):bj (.int k n)=true:=rfl
theorem oU(b:Bool):bj (.bool b)=true:=rfl
theorem mW(b:ByteArray):bj (.str b)=true:=rfl
theorem Il:bj .nils=true:=rfl
theorem EA:type_of% (And.intro @MH (And.intro @Oy (And.intro @Dh (And.intro @i5 (And.intro @iY (And.intro @mO (And.intro @oU (And.intro @mW (And.intro @Il (And.intro @Bool.and_self (And.intro @Nat.zero_mul (@BM)))))))))))):=And.intro @MH (And.intro @Oy (And.intro @Dh (And.intro @i5 (And.intro @iY (And.intro @mO (And.intro @oU (And.intro @mW (And.intro @Il (And.intro @Bool.and_self (And.intro @Nat.zero_mul (@BM)))))))))))
end Go.AM
namespace Go.AM
structure cn (h H:AH):Prop where
  len:h.length≤H.length
  fr:∀c,c<h.length→H[c]? = h[c]?
theorem cn.refl(h:AH):cn h h:=⟨Nat.le_refl _,fun _ _=>rfl⟩
theorem cn.trans{h1 h2 h3:AH}(a:cn h1 h2)(b:cn h2 h3):cn h1 h3:=⟨Nat.le_trans a.len b.len,fun c hc=>(b.fr c (Nat.lt_of_lt_of_le hc a.len)).trans (a.fr c hc)⟩
theorem cn.app(h N:AH):cn h (h++N):=⟨by simp,fun c hc=>List.getElem?_append_left hc⟩
theorem cn.out{h H:AH}(e:cn h H):∃N,H=h++N:=by
  refine⟨H.drop h.length,?_⟩
  have:=e.len
  apply List.ext_getElem?
  intro c
  rcases Nat.lt_or_ge c h.length with g|g
  · rw[e.fr c g,List.getElem?_append_left g]
  · rw[List.getElem?_append_right g,List.getElem?_drop,show h.length+(c-h.length)=c by omega]
theorem b6.ext{h H:AH}{a:AV}{d:CD}{fp:List Nat}(o:b6 h a d fp)(e:cn h H):b6 H a d fp:=o.frame fun c hc=>e.fr c (o.lt c hc)
theorem aG.ext{h H:AH}{as:List AV}{ds:List CD}{fp:List Nat}(o:aG h as ds fp)(e:cn h H):aG H as ds fp:=o.frame fun c hc=>e.fr c (o.lt c hc)
theorem b6.fV{α:Type}{H:AH}{v:AV}{sz:Nat}{cd:α→List CD}{c:α→List AV}{l:List α}{fp:List Nat}(hc:∀x,(cd x).map (CD.av true)=c x)(o:b6 H v (.sl sz (l.map cd)) fp):iM H v (.vs true sz false (l.map c)):=by
  have:=o.view.1
  rw[CD.iO,List.map_map]at this
  have e:((fun x=>List.map (CD.av true) x) ∘ cd)=c:=funext fun x=>hc x
  rwa[e]at this
theorem aG.fV{H:AH}{as:List AV}{cs:List CD}{ys:List AV}{fp:List Nat}(hc:cs.map (CD.av true)=ys)(o:aG H as cs fp):iM H (.agg as) (.agg ys):=by
  subst hc
  have:=o.snap.spec
  refine .agg as _ this.1 (fun i=>as.getD i .any) (fun i y hy=>?_) (fun i y hy=>?_)
  · obtain⟨x,hx,_⟩:=this.2 i y hy;simp[List.getD_eq_getElem?_getD,hx]
  · obtain⟨x,hx,hf⟩:=this.2 i y hy;simpa[List.getD_eq_getElem?_getD,hx]using hf
theorem aV.c1{h H:AH}{d:CD}{v:AV}(f:aV h [.c d] v H):∃fp,b6 H v d fp∧fp.Nodup∧(∀b∈fp,h.length≤b)∧cn h H:=by
  obtain⟨new,fp,rfl,o,nd,hb⟩:=f.one;exact⟨fp,o,nd,hb,cn.app h new⟩
theorem aV.a1{h H:AH}{cs:List CD}{v:AV}(f:aV h [.a cs] v H):∃as fp,v=.agg as∧aG H as cs fp∧fp.Nodup∧(∀b∈fp,h.length≤b)∧cn h H:=by
  obtain⟨as,new,fp,e,rfl,o,nd,hb⟩:=f.SG;exact⟨as,fp,e,o,nd,hb,cn.app h new⟩
theorem aV.c2{h H:AH}{d d':CD}(hd:d'.flat=true){v:AV}(f:aV h [.c d,.c d'] v H):∃a fp,v=.tup [a,d'.av true]∧b6 H a d fp∧fp.Nodup∧(∀b∈fp,h.length≤b)∧cn h H:=by
  obtain⟨vs,new,fp,rfl,rfl,o,nd,hb,_⟩:=f
  match vs,o with
  | [a,a'],⟨f1,f2,e,o1,f3,f4,e',o2,e''⟩=>
    have o2:b6 (h++new) a' d' f3:=o2
    have e'':f4=[]:=e''
    subst e''
    have:a'=d'.av true∧f3=[]:=by
      cases d' with
      | i=>obtain⟨rfl,rfl⟩:=gB.1 o2;simp[CD.gI]
      | b=>obtain⟨rfl,rfl⟩:=iH.1 o2;simp[CD.lM]
      | s=>obtain⟨rfl,rfl⟩:=iv.1 o2;simp[CD.lB]
      | sl=>cases hd
    obtain⟨rfl,rfl⟩:=this
    simp at e';subst e'
    simp at e;subst e
    exact⟨a,fp,rfl,o1,nd,hb,cn.app h new⟩
theorem aV.a2{h H:AH}{cs:List CD}{d':CD}(hd:d'.flat=true){v:AV}(f:aV h [.a cs,.c d'] v H):∃as fp,v=.tup [.agg as,d'.av true]∧aG H as cs fp∧fp.Nodup∧(∀b∈fp,h.length≤b)∧cn h H:=by
  obtain⟨vs,new,fp,rfl,rfl,o,nd,hb,_⟩:=f
  match vs,o with
  | [a,a'],⟨f1,f2,e,o1,f3,f4,e',o2,e''⟩=>
    have o2:b6 (h++new) a' d' f3:=o2
    have e'':f4=[]:=e''
    subst e''
    obtain⟨as,rfl,o1⟩:=o1
    have:a'=d'.av true∧f3=[]:=by
      cases d' with
      | i=>obtain⟨rfl,rfl⟩:=gB.1 o2;simp[CD.gI]
      | b=>obtain⟨rfl,rfl⟩:=iH.1 o2;simp[CD.lM]
      | s=>obtain⟨rfl,rfl⟩:=iv.1 o2;simp[CD.lB]
      | sl=>cases hd
    obtain⟨rfl,rfl⟩:=this
    simp at e';subst e'
    simp at e;subst e
    exact⟨as,fp,rfl,o1,nd,hb,cn.app h new⟩
theorem BU(a:AV):kx [a]=a:=rfl
theorem Ca(a b:AV):kx [a,b]=.tup [a,b]:=rfl
theorem Ld(β:Bool)(d:CD):(RD.c d).av β=d.av β:=rfl
theorem Lk(β:Bool)(cs:List CD):(RD.a cs).av β=.agg (cs.map (CD.av β)):=rfl
theorem b8{h:AH}:m0 h [] []:=trivial
theorem aK{h:AH}{x y:AV}{xs ys:List AV}(a:iM h x y)(b:m0 h xs ys):m0 h (x::xs) (y::ys):=⟨a,b⟩
end Go.AM
namespace Go.AM
theorem Dt{H:AH}{v:AV}{sz bytes:Nat}{xs:List (List CD)}{fp:List Nat}(o:b6 H v (.sl sz xs) fp){ys:List AV}{rows:List (List CD)}{f2:List Nat}(nd:(fp++f2).Nodup)(h0:0<sz)
    (hr:∀r∈rows,r.length=sz) (oy:aG H ys rows.flatten f2) (hb:(xs.length+rows.length)*(sz+bytes)≤aQ):
    ∃v' H' fp',(∀e l,ky ⟨e,l,H⟩ sz bytes v ys rows.length xs.length=some (v',⟨e,l,H'⟩))∧
      b6 H' v' (.sl sz (xs++rows)) fp'∧fp'.Nodup∧(∀c,c∉fp→c<H.length→H'[c]? = H[c]?)∧H.length≤H'.length∧(∀c∈fp',c∈fp∨c∈f2∨H.length≤c):=by
  have hno:=oy.bj
  have hd:=List.nodup_append.1 nd
  have hyl:ys.length=rows.length*sz:=by
    rw[oy.len]
    have:=kR (l:=rows) (f:=fun x=>x) (sz:=sz) hr
    simpa using this
  rcases o.ly with⟨rfl,rfl,rfl⟩|⟨b,g,cap,ex,as,tail,fp',rfl,rfl,hg,h3,ht,hc,ho⟩
  · by_cases hz:rows.length=0
    · have e:rows=[]:=List.length_eq_zero_iff.1 hz
      subst e
      refine⟨.nils,H,[],fun e l=>?_,.nil _,by simp,fun _ _ _=>rfl,Nat.le_refl _,by simp⟩
      simp only[ky]
      rw[if_neg (by omega),if_neg (by simp)];rfl
    · refine⟨.gs H.length 0 0 rows.length rows.length sz false,H++[some (0,ys)],H.length::f2,fun e l=>?_,?_,?_,?_,by simp,?_⟩
      · simp only[ky,St.push]
        rw[if_neg (by omega),if_neg (by simp only[List.length_nil]at hb ⊢;omega),if_neg hz,if_pos hno]
      · have:=b6.sl_mk (h:=H++[some (0,ys)]) (b:=H.length) (g:=0) (cap:=rows.length) (sz:=sz) (ex:=false) (as:=ys) (tail:=[]) (xs:=rows) (fp:=f2)
          (by rw[List.append_nil];exact cW _ _) hr (by simp) (by simp) (oy.grow (new:=[some (0,ys)]))
        simpa using this
      · exact List.nodup_cons.2 ⟨fun hm=>by have:=oy.lt _ hm;omega,hd.2.1⟩
      · intro c _ hl;rw[List.getElem?_append_left hl]
      · intro c hc
        rcases List.mem_cons.1 hc with rfl|hc
        · exact .inr (.inr (Nat.le_refl _))
        · exact .inr (.inl hc)
  have hbl:b<H.length:=g6 hg
  have hal:as.length=xs.length*sz:=by
    rw[ho.len]
    have:=kR (l:=xs) (f:=fun x=>x) (sz:=sz) h3
    simpa using this
  have hnb:b∉f2:=fun hm=>hd.2.2 b (by simp) b hm rfl
  have hnbp:b∉fp':=(List.nodup_cons.1 hd.1).1
  have hgs:∀z:Nat×List AV,b7 (H.set b (some z)) b=some z:=fun z=>by simp[b7,hbl]
  have hfr:∀(z:Option (Nat×List AV)) (c:Nat),c≠b→(H.set b z)[c]? = H[c]?:=fun z c hc=>List.getElem?_set_ne (Ne.symm hc)
  have own2:∀z,aG (H.set b z) (as++ys) (xs++rows).flatten (fp'++f2):=fun z=>by
    rw[List.flatten_append]
    exact aG.append (ho.frame fun c hc=>hfr z c (fun e=>hnbp (e▸hc))) (oy.frame fun c hc=>hfr z c (fun e=>hnb (e▸hc)))
  have nd2:(b::(fp'++f2)).Nodup:=by simpa using nd
  have h3':∀l∈xs++rows,l.length=sz:=fun l hl=>by
    rcases List.mem_append.1 hl with hl|hl
    · exact h3 l hl
    · exact hr l hl
  have mem:∀c∈b::(fp'++f2),c∈b::fp'∨c∈f2∨H.length≤c:=fun c hc=>by
    rcases List.mem_cons.1 hc with rfl|hc
    · exact .inl (by simp)
    · rcases List.mem_append.1 hc with hc|hc
      · exact .inl (by simp[hc])
      · exact .inr (.inl hc)
  by_cases hcap:xs.length+rows.length≤cap
  · have hroom:(xs.length+rows.length)*sz≤(as++tail).length:=by
      have h1:(xs.length+rows.length)*sz=xs.length*sz+rows.length*sz:=Nat.add_mul _ _ _
      have h2:rows.length*sz≤(cap-xs.length)*sz:=Nat.mul_le_mul_right _ (by omega)
      have:=hc.2
      rw[List.length_append,hal];omega
    have hroom2:(cap-(xs.length+rows.length))*sz≤(tail.drop ys.length).length:=by
      have h1:cap-xs.length=(cap-(xs.length+rows.length))+rows.length:=by omega
      have h2:=hc.2
      rw[h1,Nat.add_mul]at h2
      rw[List.length_drop,hyl];omega
    have hov:cD (as++tail) (xs.length*sz) ys=(as++ys)++tail.drop ys.length:=by
      simp only[cD]
      rw[←hal,List.take_left',List.drop_append,List.drop_of_length_le (by omega),show as.length+ys.length-as.length=ys.length by omega]
      · simp
      · rfl
    refine⟨.gs b g 0 (xs.length+rows.length) cap sz ex,H.set b (some (g,(as++ys)++tail.drop ys.length)),b::(fp'++f2),fun e l=>?_,?_,nd2,?_,by simp,mem⟩
    · simp only[ky]
      rw[if_neg (by omega),if_neg (by omega)]
      simp only[hg,Option.bind_some,if_true,hno]
      rw[if_pos hcap,if_pos (by rw[Nat.zero_add];exact hroom),Nat.zero_add,hov]
    · have:=b6.sl_mk (h:=H.set b (some (g,(as++ys)++tail.drop ys.length))) (b:=b) (g:=g) (cap:=cap) (sz:=sz) (ex:=ex) (as:=as++ys) (tail:=tail.drop ys.length) (xs:=xs++rows) (fp:=fp'++f2)
        (hgs _) h3' (fun x hx=>ht x (List.mem_of_mem_drop hx)) ⟨by simpa using hcap,by simpa using hroom2⟩ (own2 _)
      simpa using this
    · intro c hc hl;exact hfr _ c (fun e=>hc (by simp[e]))
  · refine⟨.gs b (g+1) 0 (xs.length+rows.length) (xs.length+rows.length) sz false,H.set b (some (g+1,as++ys)),b::(fp'++f2),fun e l=>?_,?_,nd2,?_,by simp,mem⟩
    · simp only[ky]
      rw[if_neg (by omega),if_neg (by omega)]
      simp only[hg,Option.bind_some,if_true,hno]
      rw[if_neg hcap]
      have:sub (as++tail) 0 (xs.length*sz)=some as:=by
        simp only[sub];rw[if_pos (by rw[Nat.zero_add,←hal,List.length_append];omega)];simp[←hal]
      rw[this];rfl
    · have:=b6.sl_mk (h:=H.set b (some (g+1,as++ys))) (b:=b) (g:=g+1) (cap:=xs.length+rows.length) (sz:=sz) (ex:=false) (as:=as++ys) (tail:=[]) (xs:=xs++rows) (fp:=fp'++f2)
        (by rw[List.append_nil];exact hgs _) h3' (by simp) (by simp) (own2 _)
      simpa using this
    · intro c hc hl;exact hfr _ c (fun e=>hc (by simp[e]))
theorem cP{H:AH}{v:AV}{sz:Nat}{xs:List (List CD)}{fp:List Nat}(o:b6 H v (.sl sz xs) fp):lenOf v=some xs.length∧AF false v=some (.int .i64 xs.length):=by
  rcases o.ly with⟨rfl,rfl,rfl⟩|⟨b,g,cap,ex,as,tail,fp',rfl,rfl,hg,h3,ht,hc,ho⟩<;>exact⟨rfl,rfl⟩
theorem kZ{α:Type}{H:AH}{v:AV}{β:Bool}{sz bytes:Nat}{xs:List (List CD)}{l:List α}{c:α→List AV}{cd:α→List CD}{fp:List Nat}(o:b6 H v (.sl sz xs) fp)(nd:fp.Nodup)(h0:0<sz)
    (hd:∀x,(cd x).length=sz∧(cd x).all CD.flat=true) (hcd:∀x,c x=(cd x).map (CD.av false)) (hb:(xs.length+l.length)*(sz+bytes)≤aQ):
    ∃v' H' fp',(∀e L,tS ⟨e,L,H⟩ sz bytes v (eF ⟨e,L,H⟩ sz false (.vs β sz false (l.map c))) (lenOf (.vs β sz false (l.map c))) (lenOf v)=.val v' ⟨e,L,H'⟩)∧
      b6 H' v' (.sl sz (xs++l.map cd)) fp'∧fp'.Nodup∧(∀c,c∉fp→c<H.length→H'[c]? = H[c]?)∧H.length≤H'.length∧(∀c∈fp',c∈fp∨H.length≤c):=by
  have L1:=(cP o).1
  have hfl:(l.map cd).flatten.all CD.flat=true:=by
    rw[List.all_flatten,List.all_eq_true];intro y hy;obtain⟨x,_,rfl⟩:=List.mem_map.1 hy;exact(hd x).2
  have oz:aG H ((l.map c).flatten) (l.map cd).flatten []:=by
    rw[zu hcd];exact kH false hfl
  obtain⟨v',H',fp',h1,h2,h3,h4,h5,h6⟩:=Dt (bytes:=bytes) o (f2:=[]) (by simpa using nd) h0 (fun r hr=>by obtain⟨x,_,rfl⟩:=List.mem_map.1 hr;exact(hd x).1) oz (by simpa using hb)
  refine⟨v',H',fp',fun e L=>?_,h2,h3,h4,h5,fun c hc=>?_⟩
  · rw[L1];simp only[eF,St.bh,if_true,lenOf,List.length_map,tS]
    have:=h1 e L
    rw[List.length_map]at this
    rw[this];rfl
  · rcases h6 c hc with g|g|g
    · exact .inl g
    · simp at g
    · exact .inr g
theorem cn.yZ{h H0 H':AH}{fp:List Nat}(e:cn h H0)(hl:H0.length≤H'.length)(hf:∀c,c∉fp→c<H0.length→H'[c]? = H0[c]?)(hp:∀c∈fp,h.length≤c):cn h H':=
  ⟨Nat.le_trans e.len hl,fun c hc=>(hf c (fun hm=>by have:=hp c hm;omega) (by have:=e.len;omega)).trans (e.fr c hc)⟩
end Go.AM
namespace Go.AM
variable {P:Program} {Γ:bY}
theorem T.pT{f:FuncId}{args:List AV}{h:AH}{cs:List CD}{d':CD}(hd:d'.flat=true)(t:T P Γ f args h fun v h'=>∃aa new fp,v=.tup [.agg aa,d'.av true]∧h'=h++new∧aG h' aa cs fp∧fp.Nodup∧∀b∈fp,h.length≤b):T P Γ f args h (aV h [.a cs,.c d']):=
  t.fresh fun v h' ⟨a,new,fp,e1,e2,o,nd,hb⟩=>⟨[.agg a,d'.av true],new,fp,e1,e2,⟨fp,[],by simp,⟨a,rfl,o⟩,⟨[],[],rfl,CD.zN hd true,rfl⟩⟩,nd,hb⟩
theorem Ap(h:AH){sz:Nat}{ys:List AV}{row:List CD}{f2:List Nat}(hy:ys.length=sz)(o:aG h ys row f2):b6 (h++[some (0,ys)]) (.gs h.length 0 0 1 1 sz true) (.sl sz [row]) (h.length::f2):=
  b6.sl_mk (h:=h++[some (0,ys)]) (b:=h.length) (g:=0) (cap:=1) (sz:=sz) (ex:=true) (as:=ys) (tail:=[]) (xs:=[row]) (fp:=f2) (by rw[List.append_nil];exact cW _ _) (by simp[←o.len,hy]) (by simp) (by simp) (by simpa using o.grow (new:=[some (0,ys)]))
theorem cn.mem{h H:AH}(e:cn h H)(a b:List AV)(l:List (List AV)):Mem ⟨a,l,h⟩ ⟨b,l,H⟩:=
  ⟨fun _ _ hx=>hx,fun c x hx=>by
    have h1:=cS hx
    exact yl (by show H[c]? = _;rw[e.fr c (ay h1)];exact h1)⟩
end Go.AM
namespace Go.AM
section
variable {α:Type} {c:α→List AV} {sz:Nat} (hc:∀x,(c x).length=sz)
include hc
theorem Au{m:List α}{k:Nat}(hk:k<m.length)(tail:List AV):(m.map c).flatten++tail=((m.take k).map c).flatten++(c m[k]++(((m.drop (k+1)).map c).flatten++tail))∧((m.take k).map c).flatten.length=k*sz:=by
  constructor
  · have e:m=m.take k++m[k]::m.drop (k+1):=by rw[←List.drop_eq_getElem_cons hk,List.take_append_drop]
    conv=>lhs;rw[e]
    simp only[List.map_append,List.map_cons,List.flatten_append,List.flatten_cons,List.append_assoc]
  · rw[kR (fun x _=>hc x),List.length_take,Nat.min_eq_left (Nat.le_of_lt hk)]
theorem Ew{m:List α}{k:Nat}(hk:k<m.length)(tail:List AV):sub ((m.map c).flatten++tail) (k*sz) sz=some (c m[k]):=by
  obtain⟨h1,h2⟩:=Au hc hk tail
  rw[h1]
  simp only[sub]
  rw[if_pos (by simp only[List.length_append,h2,hc];omega),←h2,List.drop_left,List.take_append_of_le_length (by rw[hc];exact Nat.le_refl _),List.take_of_length_le (by rw[hc];exact Nat.le_refl _)]
end
end Go.AM
namespace Go.AM
theorem Du(k k':IntKind)(a:Int){b:Int}(h:0≤b):∃x,cV .shr .num (.int k a) (.int k' b)=some (.int k x):=⟨_,by simp only[cV];rw[if_pos h]⟩
theorem K7(k:IntKind)(a b:Int):∃x,cV .xor .num (.int k a) (.int k b)=some (.int k x):=⟨_,by simp only[cV,if_true,hJ];rfl⟩
theorem zk(a:Int){m:Nat}(hm:m<4611686018427387904):∃x,cV .and .num (.int .i64 a) (.int .i64 (m:Int))=some (.int .i64 x)∧0≤x∧x≤m:=by
  have e:(BitVec.ofInt 64 (m:Int)).toNat=m:=by
    rw[BitVec.ofInt_natCast,BitVec.toNat_ofNat,Nat.mod_eq_of_lt (by omega)]
  have h1:(BitVec.ofInt 64 a &&& BitVec.ofInt 64 (m:Int)).toNat≤m:=by
    rw[BitVec.toNat_and,e];exact Nat.and_le_right
  refine⟨((BitVec.ofInt 64 a &&& BitVec.ofInt 64 (m:Int)).toNat:Int),?_,by omega,by exact_mod_cast h1⟩
  obtain⟨d,hd⟩:∃d,d=(BitVec.ofInt 64 a &&& BitVec.ofInt 64 (m:Int)).toNat:=⟨_,rfl⟩
  rw[←hd]at h1 ⊢
  have hw:IntKind.i64.wrap (d:Int)=(d:Int):=fo (by omega) (by omega)
  have:cV .and .num (.int .i64 a) (.int .i64 (m:Int))=some (.int .i64 (IntKind.i64.wrap (((BitVec.ofInt 64 a &&& BitVec.ofInt 64 (m:Int)).toNat:Nat):Int))):=by simp only[cV,if_true,hJ,IntKind.bits];rfl
  rw[this,←hd,hw]
theorem Ip{Γ:bY}(gl:Bool)(s:St)(k:IntKind)(x:X):step Γ gl s (.cvi k x)=(match s.eval Γ x with|.int _ n=>.val (.int k (k.wrap n)) s|_=>.stuck):=rfl
def rY(H:AH)(b:Nat)(bs:List Int):Prop:=∃i h:Int,0≤i∧b7 H b=some (0,[.vs false 1 false (bs.map fun n=>[.int .u8 n]),.int .i64 i,.int .i64 h])
theorem Ah{H:AH}:∀{az:List AV} {cs:List CD} {fp:List Nat},cs.all CD.flat=true→aG H az cs fp→az=cs.map (CD.av false)
  | [],[],_,_,o=>rfl
  | a::az,d::ds,fp,h,⟨f1,f2,e,o1,o2⟩=>by
    simp only[List.all_cons,Bool.and_eq_true]at h
    rw[List.map_cons,←Ah h.2 o2]
    congr 1
    cases o1 with
    | i=>simp[CD.gI]
    | b=>simp[CD.lM]
    | s=>simp[CD.lB]
    | nil=>simp[CD.flat]at h
    | gs=>simp[CD.flat]at h
theorem uc(l:List Int):(l.map fun n=>[CD.i .i64 n]).flatten.all CD.flat=true:=by
  rw[List.all_flatten,List.all_eq_true];intro y hy;obtain⟨x,_,rfl⟩:=List.mem_map.1 hy;rfl
theorem FC{H:AH}{w:AV}{fp:List Nat}{l:List Int}(o:b6 H w (.sl 1 (l.map fun n=>[.i .i64 n])) fp){k:Nat}(hk:k<l.length):∃p,dV 1 w (k:Int)=some p∧∀(e:List AV) (L:List (List AV)),(St.mk e L H).cells p 1=some [.int .i64 l[k]]:=by
  rcases o.ly with⟨rfl,e,rfl⟩|⟨b,g,cap,ex,az,tail,fp',rfl,rfl,hg,hsz,ht,hc,hown⟩
  · have:l=[]:=by simpa using e
    subst this;simp at hk
  have hz:=Ah (uc l) hown
  have e2:(l.map fun n=>[CD.i .i64 n]).flatten.map (CD.av false)=(l.map fun n=>[AV.int .i64 n]).flatten:=by simp[List.map_flatten,Function.comp_def,CD.gI]
  rw[e2]at hz
  subst hz
  refine⟨.gp b g (0+k*1),qR (by simpa using hk),fun e L=>?_⟩
  rw[bp hg,Nat.zero_add]
  exact Ew (c:=fun n:Int=>[AV.int .i64 n]) (sz:=1) (fun _=>rfl) hk tail
structure b9 (H h':AH) (b:Nat) (bs:List Int):Prop where
  cur:rY h' b bs
  len:H.length≤h'.length
  fr:∀c,c<H.length→c≠b→h'[c]? = H[c]?
theorem b9.trans{H h1 h2:AH}{b:Nat}{bs:List Int}(a:b9 H h1 b bs)(c:b9 h1 h2 b bs):b9 H h2 b bs:=
  ⟨c.cur,Nat.le_trans a.len c.len,fun x hx hb=>(c.fr x (Nat.lt_of_lt_of_le hx a.len) hb).trans (a.fr x hx hb)⟩
theorem rY.grow{H:AH}{b:Nat}{bs:List Int}(c:rY H b bs)(N:AH):rY (H++N) b bs:=by obtain⟨i,h,hi,hg⟩:=c;exact⟨i,h,hi,qV hg N⟩
theorem rY.ext{H H':AH}{b:Nat}{bs:List Int}(c:rY H b bs)(e:cn H H'):rY H' b bs:=by obtain⟨N,rfl⟩:=e.out;exact c.grow N
theorem b9.rI{H H':AH}{b:Nat}{bs:List Int}(c:rY H b bs)(e:cn H H'):b9 H H' b bs:=⟨c.ext e,e.len,fun x hx _=>e.fr x hx⟩
theorem b9.own{H H':AH}{b:Nat}{bs:List Int}(d:b9 H H' b bs){a:AV}{cd:CD}{fp:List Nat}(o:b6 H a cd fp)(hb:b∉fp):b6 H' a cd fp:=o.frame fun c hc=>d.fr c (o.lt c hc) (fun e=>hb (e▸hc))
end Go.AM
namespace Go.AM
section
variable {P:Program} {Γ:bY}
theorem T.SM{f:FuncId}{args:List AV}{h:AH}{R:List RD→Prop}(t:T P Γ f args h fun v h'=>∃vs rs fp,v=kx vs∧gC h' vs rs fp∧(∀b∈fp,h.length≤b)∧cn h h'∧R rs):
    T P Γ f args h fun v h'=>(∃rs,R rs∧v=kx (rs.map (RD.av false)))∧h'=h:=by
  refine t.freeze ?_
  rintro v h' ⟨vs,rs,fp,rfl,o,hb,e,r⟩
  obtain⟨N,rfl⟩:=e.out
  exact⟨h,N,_,rfl,rfl,fun b g cs hb=>.inl hb,o.L9 hb,⟨rs,r,rfl⟩,rfl⟩
theorem iN(s:St)(a b c v:AV)(vs:List AV):u4 s 3 (.tup (a::b::c::v::vs))=.val v s:=rfl
end
end Go.AM
namespace Go.AM
section
variable {Γ:bY}
end
end Go.AM
namespace Go.AM
section
variable {Γ:bY}
end
end Go.AM
namespace Go.AM
theorem aG.focus{h:AH}:∀{as:List AV} {ds:List CD} {fp:List Nat},aG h as ds fp→fp.Nodup→∀(j:Nat) (hj:j<ds.length),∃a f,as[j]? = some a∧b6 h a ds[j] f∧f.Nodup∧(∀c∈f,c∈fp)∧
    ∀(h':AH) (a':AV) (d':CD) (f':List Nat),b6 h' a' d' f'→f'.Nodup→(∀c∈f',c∈f∨c∉fp)→(∀c∈fp,c∉f→h'[c]? = h[c]?)→
      ∃fp',aG h' (as.set j a') (ds.set j d') fp'∧fp'.Nodup∧(∀c∈fp',c∈fp∨c∈f')∧(∀c∈fp',c∈f→c∈f')
  | [],[],_,_,_,j,hj=>by simp at hj
  | a::as,d::ds,fp,⟨f1,f2,e,o1,o2⟩,nd,j,hj=>by
    subst e
    obtain⟨n1,n2,n3⟩:=List.nodup_append.1 nd
    cases j with
    | zero=>
      refine⟨a,f1,rfl,o1,n1,fun c hc=>List.mem_append_left _ hc,fun h' a' d' f' o' nd' hf' fr=>?_⟩
      have hdis:∀c∈f',c∉f2:=fun c hc h2=>by
        rcases hf' c hc with g|g
        · exact n3 c g c h2 rfl
        · exact g (List.mem_append_right _ h2)
      refine⟨f'++f2,⟨f',f2,rfl,o',aG.frame o2 fun c hc=>fr c (List.mem_append_right _ hc) (fun h1=>n3 c h1 c hc rfl)⟩,List.nodup_append.2 ⟨nd',n2,fun x hx y hy e=>hdis x hx (e▸hy)⟩,fun c hc=>?_,fun c hc hcf=>?_⟩
      · rcases List.mem_append.1 hc with g|g
        · exact .inr g
        · exact .inl (List.mem_append_right _ g)
      · rcases List.mem_append.1 hc with g|g
        · exact g
        · exact absurd rfl (n3 c hcf c g)
    | succ j=>
      obtain⟨a0,f,g1,g2,g3,g4,g5⟩:=aG.focus o2 n2 j (by simpa using hj)
      refine⟨a0,f,by simpa using g1,by simpa using g2,g3,fun c hc=>List.mem_append_right _ (g4 c hc),fun h' a' d' f' o' nd' hf' fr=>?_⟩
      obtain⟨fp',q1,q2,q3,q4⟩:=g5 h' a' d' f' o' nd' (fun c hc=>(hf' c hc).imp id fun hn hm=>hn (List.mem_append_right _ hm)) (fun c hc hcf=>fr c (List.mem_append_right _ hc) hcf)
      have hdis:∀c∈f1,c∉fp':=fun c hc hm=>by
        rcases q3 c hm with g|g
        · exact n3 c hc c g rfl
        · rcases hf' c g with g'|g'
          · exact n3 c hc c (g4 c g') rfl
          · exact g' (List.mem_append_left _ hc)
      refine⟨f1++fp',⟨f1,fp',rfl,o1.frame fun c hc=>fr c (List.mem_append_left _ hc) (fun hm=>n3 c hc c (g4 c hm) rfl),q1⟩,List.nodup_append.2 ⟨n1,q2,fun x hx y hy e=>hdis x hx (e▸hy)⟩,fun c hc=>?_,fun c hc hcf=>?_⟩
      · rcases List.mem_append.1 hc with g|g
        · exact .inl (List.mem_append_left _ g)
        · exact(q3 c g).imp (List.mem_append_right _) id
      · rcases List.mem_append.1 hc with g|g
        · exact absurd rfl (n3 c g c (g4 c hcf))
        · exact q4 c g hcf
  | [],_::_,_,o,_,_,_=>o.elim
  | _::_,[],_,o,_,_,_=>o.elim
theorem tB{α:Type}{sz:Nat}:∀{xs:List (List α)},(∀l∈xs,l.length=sz)→∀{k off:Nat} (hk:k<xs.length),off<sz→∀d:α,
    xs.flatten.set (k*sz+off) d=(xs.set k (xs[k].set off d)).flatten∧xs.flatten[k*sz+off]? = xs[k][off]?∧k*sz+off<xs.flatten.length
  | [],_,k,off,hk,_,_=>by simp at hk
  | x::xs,hx,0,off,hk,ho,d=>by
    have hl:x.length=sz:=hx x (by simp)
    refine⟨?_,?_,?_⟩
    · simp only[Nat.zero_mul,Nat.zero_add,List.flatten_cons,List.set_cons_zero,List.getElem_cons_zero]
      rw[List.set_append_left _ _ (by omega)]
    · simp only[Nat.zero_mul,Nat.zero_add,List.flatten_cons,List.getElem_cons_zero]
      rw[List.getElem?_append_left (by omega)]
    · simp;omega
  | x::xs,hx,k+1,off,hk,ho,d=>by
    have hl:x.length=sz:=hx x (by simp)
    obtain⟨h1,h2,h3⟩:=tB (xs:=xs) (fun l h=>hx l (by simp[h])) (k:=k) (off:=off) (by simpa using hk) ho d
    have e:(k+1)*sz+off=x.length+(k*sz+off):=by rw[Nat.add_mul];omega
    refine⟨?_,?_,?_⟩
    · simp only[List.flatten_cons,List.set_cons_succ,List.getElem_cons_succ]
      rw[e,List.set_append_right _ _ (by omega),Nat.add_sub_cancel_left,h1]
    · simp only[List.flatten_cons,List.getElem_cons_succ]
      rw[e,List.getElem?_append_right (by omega),Nat.add_sub_cancel_left,h2]
    · simp only[List.flatten_cons,List.length_append];omega
theorem b6.lens{H:AH}{w:AV}{sz:Nat}{xs:List (List CD)}{fp:List Nat}(o:b6 H w (.sl sz xs) fp)(nd:fp.Nodup){k off:Nat}(hk:k<xs.length)(ho:off<sz)(hl:off<xs[k].length):
    ∃b g a f,dV sz w (k:Int)=some (.gp b g (k*sz))∧b<H.length∧b∈fp∧(∀(e:List AV) (L:List (List AV)),(St.mk e L H).cells (.gp b g (k*sz+off)) 1=some [a])∧b6 H a (xs[k][off]) f∧f.Nodup∧(∀c∈f,c∈fp)∧b∉f∧
      ∀(H':AH) (a':AV) (d':CD) (f':List Nat),b6 H' a' d' f'→f'.Nodup→(∀c∈f',c∈f∨c∉fp)→(∀c∈fp,c∉f→H'[c]? = H[c]?)→
        ∃H'' fp',(∀(e:List AV) (L:List (List AV)),(St.mk e L H').store (.gp b g (k*sz+off)) [a']=some ⟨e,L,H''⟩)∧b6 H'' w (.sl sz (xs.set k (xs[k].set off d'))) fp'∧fp'.Nodup∧(∀c∈fp',c∈fp∨c∈f')∧H''.length=H'.length∧∀c,c≠b→H''[c]? = H'[c]?:=by
  rcases o.ly with⟨rfl,e,rfl⟩|⟨b,g,cap,ex,az,tail,fp',rfl,rfl,hg,hsz,ht,hc,hown⟩
  · subst e;simp at hk
  obtain⟨nb,nd'⟩:=List.nodup_cons.1 nd
  have hf0:=tB hsz hk ho xs[k][off]
  have hj:k*sz+off<xs.flatten.length:=hf0.2.2
  have hjl:k*sz+off<az.length:=by rw[hown.len];exact hj
  obtain⟨a,f,h1,h2,h3,h4,h5⟩:=hown.focus nd' (k*sz+off) hj
  have hd:xs.flatten[k*sz+off]=xs[k][off]:=by
    have:=hf0.2.1
    rw[List.getElem?_eq_getElem hj,List.getElem?_eq_getElem hl]at this
    exact Option.some.inj this
  rw[hd]at h2
  have hbl:b<H.length:=g6 hg
  refine⟨b,g,a,f,by have:=qR (b:=b) (g:=g) (off:=0) (len:=xs.length) (cap:=cap) (sz:=sz) (ex:=ex) hk;rwa[Nat.zero_add]at this,hbl,by simp,fun e L=>?_,h2,h3,fun c hc=>List.mem_cons_of_mem _ (h4 c hc),fun hb=>nb (h4 b hb),?_⟩
  · rw[bp hg]
    unfold sub
    rw[if_pos (by simp;omega),List.drop_append_of_le_length (by omega)]
    rw[List.getElem?_eq_getElem hjl]at h1
    rw[List.drop_eq_getElem_cons hjl,Option.some.inj h1]
    rfl
  · intro H' a' d' f' o' nd2 hf' fr
    have hgb:b7 H' b=some (g,az++tail):=by
      have:=fr b (by simp) (fun hb=>nb (h4 b hb))
      unfold b7 at hg ⊢;rw[this];exact hg
    have hbl':b<H'.length:=g6 hgb
    have hbf':b∉f':=fun hb=>by
      rcases hf' b hb with q|q
      · exact nb (h4 b q)
      · exact q (by simp)
    have key:=h5 (H'.set b (some (g,az.set (k*sz+off) a'++tail))) a' d' f' (o'.frame fun c hc=>List.getElem?_set_ne (fun e:b=c=>hbf' (by rw[e];exact hc))) nd2 (fun c hc=>(hf' c hc).imp id fun hn hm=>hn (List.mem_cons_of_mem _ hm)) (fun c hc hcf=>by
      rw[List.getElem?_set_ne (fun e:b=c=>nb (by rw[e];exact hc))];exact fr c (List.mem_cons_of_mem _ hc) hcf)
    obtain⟨fq,q1,q2,q3,_⟩:=key
    have hbq:b∉fq:=fun hb=>by
      rcases q3 b hb with q|q
      · exact nb q
      · exact hbf' q
    refine⟨H'.set b (some (g,az.set (k*sz+off) a'++tail)),b::fq,fun e L=>?_,?_,List.nodup_cons.2 ⟨hbq,q2⟩,fun c hc=>?_,by simp,fun c hcb=>List.getElem?_set_ne (Ne.symm hcb)⟩
    · simp only[St.store,hgb,Option.bind_some,if_true,List.length_cons,List.length_nil,List.all_cons,List.all_nil,o'.bj,Bool.and_self]
      rw[if_pos (by simp;omega)]
      congr 3
      simp only[cD,List.length_cons,List.length_nil]
      rw[List.take_append_of_le_length (by omega),List.drop_append_of_le_length (by omega),←List.append_assoc,List.set_eq_take_append_cons_drop,if_pos hjl]
      simp
    · have hset:=(tB hsz hk ho d').1
      rw[hset]at q1
      have:=b6.sl_mk (h:=H'.set b (some (g,az.set (k*sz+off) a'++tail))) (b:=b) (g:=g) (cap:=cap) (sz:=sz) (ex:=ex) («as»:=az.set (k*sz+off) a') (tail:=tail) (xs:=xs.set k (xs[k].set off d')) (fp:=fq)
        (by simp[b7,hbl']) (fun y hy=>by
          rcases List.mem_or_eq_of_mem_set hy with g|g
          · exact hsz y g
          · rw[g,List.length_set];exact hsz _ (List.getElem_mem hk)) ht (by simpa using hc) q1
      simpa using this
    · rcases List.mem_cons.1 hc with rfl|hc
      · exact .inl (by simp)
      · exact(q3 c hc).imp (List.mem_cons_of_mem _) id
end Go.AM
namespace Go.AM
theorem ck{e:List AV}{L:List (List AV)}{h:AH}{i off n:Nat}{z:List AV}(hi:L[i]? = some z):(St.mk e L h).cells (.lp i off) n=sub z off n:=by
  simp only[St.cells,hi,Option.bind_some]
theorem kU{e:List AV}{L:List (List AV)}{h:AH}{i off:Nat}{z:List AV}{v:AV}(hi:L[i]? = some z)(ho:off+1≤z.length)(hv:bU v=true):(St.mk e L h).store (.lp i off) [v]=some ⟨e,L.set i (cD z off [v]),h⟩:=by
  simp[St.store,hi,ho,hv]
theorem iW{e:List AV}{L:List (List AV)}{h:AH}{i:Nat}{z vs:List AV}(hi:L[i]? = some z)(ho:vs.length=z.length)(hv:vs.all bU=true):(St.mk e L h).store (.lp i 0) vs=some ⟨e,L.set i vs,h⟩:=by
  simp only[St.store,hi,Option.bind_some,Nat.zero_add]
  rw[if_pos (by omega),hv,if_pos rfl]
  congr 3
  simp[cD,ho]
theorem fv{L:List (List AV)}{i:Nat}{z:List AV}(hi:L[i]? = some z)(x:List (List AV)):(L++x)[i]? = some z:=by
  rw[List.getElem?_append_left (ay hi)];exact hi
theorem ij{L:List (List AV)}{i j:Nat}{z y:List AV}(hi:L[i]? = some z)(hij:j≠i):(L.set j y)[i]? = some z:=by
  rw[List.getElem?_set_ne hij];exact hi
theorem g8{L:List (List AV)}{i:Nat}{z y:List AV}(hi:L[i]? = some z):(L.set i y)[i]? = some y:=by
  rw[List.getElem?_set_self (ay hi)]
theorem sD(L:List (List AV))(x:List AV):(L++[x])[L.length]? = some x:=by simp
theorem b6.row{H:AH}{w:AV}{sz:Nat}{xs:List (List CD)}{fp:List Nat}(o:b6 H w (.sl sz xs) fp)(nd:fp.Nodup){k:Nat}(hk:k<xs.length):
    ∃b g az f,dV sz w (k:Int)=some (.gp b g (k*sz))∧b<H.length∧b∈fp∧(∀(e:List AV) (L:List (List AV)),(St.mk e L H).cells (.gp b g (k*sz)) sz=some az)∧
      (∀(e:List AV) (L:List (List AV)) (off n:Nat),off+n≤sz→(St.mk e L H).cells (.gp b g (k*sz+off)) n=sub az off n)∧aG H az xs[k] f∧f.Nodup∧(∀c∈f,c∈fp)∧az.length=sz:=by
  rcases o.ly with⟨rfl,e,rfl⟩|⟨b,g,cap,ex,az,tail,fp',rfl,rfl,hg,hsz,ht,hc,hown⟩
  · subst e;simp at hk
  obtain⟨nb,nd'⟩:=List.nodup_cons.1 nd
  have hfl:xs.flatten=(xs.take k).flatten++(xs[k]++(xs.drop (k+1)).flatten):=by
    rw[←List.flatten_cons,←List.drop_eq_getElem_cons hk,←List.flatten_append,List.take_append_drop]
  rw[hfl]at hown
  obtain⟨a1,a2,f1,f2,e1,e2,o1,o2⟩:=hown.split
  obtain⟨a3,a4,f3,f4,e3,e4,o3,o4⟩:=o2.split
  subst e1 e2 e3 e4
  have l1:a1.length=k*sz:=by
    rw[o1.len]
    have:∀(ys:List (List CD)),(∀l∈ys,l.length=sz)→ys.flatten.length=ys.length*sz:=fun ys=>by
      induction ys with
      | nil=>intro _;simp
      | cons y ys ih=>intro h;rw[List.flatten_cons,List.length_append,ih (fun l hl=>h l (by simp[hl])),h y (by simp),List.length_cons,Nat.add_mul];omega
    rw[this _ (fun l hl=>hsz l (List.mem_of_mem_take hl)),List.length_take,Nat.min_eq_left (by omega)]
  have l3:a3.length=sz:=by rw[o3.len];exact hsz _ (List.getElem_mem hk)
  have hcell:∀(e:List AV) (L:List (List AV)) (off n:Nat),off+n≤sz→(St.mk e L H).cells (.gp b g (k*sz+off)) n=sub a3 off n:=fun e L off n hn=>by
    rw[bp hg]
    unfold sub
    rw[if_pos (by simp;omega),if_pos (by omega)]
    congr 1
    rw[List.append_assoc,List.drop_append,List.drop_eq_nil_of_le (by omega),List.nil_append,l1,Nat.add_sub_cancel_left,List.append_assoc,List.drop_append_of_le_length (by omega),List.take_append_of_le_length (by rw[List.length_drop];omega)]
  obtain⟨n1,n2,n3⟩:=List.nodup_append.1 nd'
  obtain⟨n4,n5,n6⟩:=List.nodup_append.1 n2
  refine⟨b,g,a3,f3,by have:=qR (b:=b) (g:=g) (off:=0) (len:=xs.length) (cap:=cap) (sz:=sz) (ex:=ex) hk;rwa[Nat.zero_add]at this,g6 hg,by simp,fun e L=>?_,hcell,o3,n4,fun c hc=>by simp[hc],l3⟩
  have:=hcell e L 0 sz (by omega)
  rw[Nat.add_zero]at this
  rw[this];unfold sub;rw[if_pos (by omega),List.drop_zero,←l3,List.take_length]
end Go.AM
namespace Go.AM
theorem Fq{pre row post:List AV}{i n:Nat}(hi:i+n≤row.length):sub (pre++row++post) (pre.length+i) n=sub row i n:=by
  unfold sub
  rw[if_pos (by simp;omega),if_pos hi,List.append_assoc,List.drop_append,List.drop_eq_nil_of_le (by omega),List.nil_append,Nat.add_sub_cancel_left,List.drop_append_of_le_length (by omega),List.take_append_of_le_length (by rw[List.length_drop];omega)]
theorem Cp{pre row post vs:List AV}{i:Nat}(hi:i+vs.length≤row.length):cD (pre++row++post) (pre.length+i) vs=pre++cD row i vs++post:=by
  unfold cD
  rw[List.append_assoc pre row post,List.take_append,List.take_of_length_le (show pre.length≤pre.length+i by omega),Nat.add_sub_cancel_left,List.take_append_of_le_length (show i≤row.length by omega),
    List.drop_append,List.drop_eq_nil_of_le (show pre.length≤pre.length+i+vs.length by omega),List.nil_append,show pre.length+i+vs.length-pre.length=i+vs.length by omega,List.drop_append_of_le_length hi]
  simp only[List.append_assoc]
structure kC (H:AH) (b g:Nat) (pre row post:List AV):Prop where
  eq:b7 H b=some (g,pre++row++post)
theorem kC.lt{H:AH}{b g:Nat}{pre row post:List AV}(m:kC H b g pre row post):b<H.length:=g6 m.eq
theorem kC.cells{H:AH}{b g:Nat}{pre row post:List AV}(m:kC H b g pre row post)(e:List AV)(L:List (List AV))(i n:Nat)(hi:i+n≤row.length):(St.mk e L H).cells (.gp b g (pre.length+i)) n=sub row i n:=by
  rw[bp m.eq,Fq hi]
theorem kC.qJ{H:AH}{b g:Nat}{pre row post:List AV}(m:kC H b g pre row post)(e:List AV)(L:List (List AV))(n:Nat)(hi:n≤row.length):(St.mk e L H).cells (.gp b g pre.length) n=sub row 0 n:=by
  have:=m.cells e L 0 n (by omega);rwa[Nat.add_zero]at this
theorem kC.frame{H H':AH}{b g:Nat}{pre row post:List AV}(m:kC H b g pre row post)(h:H'[b]? = H[b]?):kC H' b g pre row post:=⟨by have:=m.eq;unfold b7 at this ⊢;rw[h];exact this⟩
theorem kC.store{H:AH}{b g:Nat}{pre row post:List AV}(m:kC H b g pre row post){i:Nat}{vs:List AV}(hi:i+vs.length≤row.length)(hv:vs.all bj=true):
    ∃H',(∀(e:List AV) (L:List (List AV)),(St.mk e L H).store (.gp b g (pre.length+i)) vs=some ⟨e,L,H'⟩)∧kC H' b g pre (cD row i vs) post∧H'.length=H.length∧∀c,c≠b→H'[c]? = H[c]?:=by
  refine⟨H.set b (some (g,pre++cD row i vs++post)),fun e L=>?_,⟨?_⟩,by simp,fun c hc=>List.getElem?_set_ne (Ne.symm hc)⟩
  · simp only[St.store,m.eq,Option.bind_some,if_true]
    rw[if_pos (by simp;omega),hv,if_pos rfl,Cp hi]
  · have:=m.lt
    simp[b7,this]
theorem kC.nil{H:AH}{b g:Nat}{row:List AV}(h:b7 H b=some (g,row)):kC H b g [] row []:=⟨by simpa using h⟩
theorem kC.snap{H:AH}{b g:Nat}{pre row post ys:List AV}(m:kC H b g pre row post)(s:iM H (.agg row) (.agg ys)):iM H (.gp b g pre.length) (.ip true ys):=by
  have key:∀(i:Nat) (y:AV),ys[i]? = some y→∃x,row[i]? = some x∧iM H x y:=by
    cases s with
    | same=>exact fun i y hy=>⟨y,hy,.same _⟩
    | agg _ _ h1 f h2 r=>exact fun i y hy=>⟨f i,h2 i y hy,r i y hy⟩
  refine .gp b g pre.length (pre++row++post) ys (fun i=>row.getD i .any) (cS m.eq) (fun j x hx=>?_) (fun j x hx=>?_)
  · obtain⟨z,hz,_⟩:=key j x hx
    have hj:=ay hz
    rw[List.append_assoc,List.getElem?_append_right (by omega),Nat.add_sub_cancel_left,List.getElem?_append_left hj,hz]
    simp[List.getD_eq_getElem?_getD,hz]
  · obtain⟨z,hz,hs⟩:=key j x hx
    simpa[List.getD_eq_getElem?_getD,hz]using hs
theorem b6.j9{H:AH}{w:AV}{sz:Nat}{xs:List (List CD)}{fp:List Nat}(o:b6 H w (.sl sz xs) fp)(nd:fp.Nodup){k:Nat}(hk:k<xs.length):
    ∃b g pre row post f,dV sz w (k:Int)=some (.gp b g pre.length)∧kC H b g pre row post∧row.length=sz∧aG H row xs[k] f∧f.Nodup∧(∀c∈f,c∈fp)∧b∈fp∧b∉f∧
      ∀(H':AH) (row':List AV) (d':List CD) (f':List Nat),aG H' row' d' f'→f'.Nodup→d'.length=sz→(∀c∈f',c∈f∨c∉fp)→kC H' b g pre row' post→(∀c∈fp,c∉f→c≠b→H'[c]? = H[c]?)→
        ∃fp',b6 H' w (.sl sz (xs.set k d')) fp'∧fp'.Nodup∧(∀c∈fp',c∈fp∨c∈f'):=by
  rcases o.ly with⟨rfl,e,rfl⟩|⟨b,g,cap,ex,az,tail,fp',rfl,rfl,hg,hsz,ht,hc,hown⟩
  · subst e;simp at hk
  obtain⟨nb,nd'⟩:=List.nodup_cons.1 nd
  have hfl:∀d:List CD,(xs.set k d).flatten=(xs.take k).flatten++(d++(xs.drop (k+1)).flatten):=fun d=>by
    rw[←List.flatten_cons,←List.flatten_append,List.set_eq_take_append_cons_drop,if_pos hk]
  have hf0:=hfl xs[k]
  rw[List.set_getElem_self]at hf0
  rw[hf0]at hown
  obtain⟨a1,a2,f1,f2,e1,e2,o1,o2⟩:=hown.split
  obtain⟨a3,a4,f3,f4,e3,e4,o3,o4⟩:=o2.split
  subst e1 e2 e3 e4
  have l1:a1.length=k*sz:=by
    rw[o1.len]
    have:∀(ys:List (List CD)),(∀l∈ys,l.length=sz)→ys.flatten.length=ys.length*sz:=fun ys=>by
      induction ys with
      | nil=>intro _;simp
      | cons y ys ih=>intro h;rw[List.flatten_cons,List.length_append,ih (fun l hl=>h l (by simp[hl])),h y (by simp),List.length_cons,Nat.add_mul];omega
    rw[this _ (fun l hl=>hsz l (List.mem_of_mem_take hl)),List.length_take,Nat.min_eq_left (by omega)]
  have l3:a3.length=sz:=by rw[o3.len];exact hsz _ (List.getElem_mem hk)
  obtain⟨n1,n2,n3⟩:=List.nodup_append.1 nd'
  obtain⟨n4,n5,n6⟩:=List.nodup_append.1 n2
  refine⟨b,g,a1,a3,a4++tail,f3,by have:=qR (b:=b) (g:=g) (off:=0) (len:=xs.length) (cap:=cap) (sz:=sz) (ex:=ex) hk;rwa[Nat.zero_add,←l1]at this,⟨by rw[hg];simp⟩,l3,o3,n4,fun c hc=>by simp[hc],by simp,fun hb=>nb (by simp[hb]),?_⟩
  intro H' row' d' f' o' nd2 hdl hf' hm fr
  have hbf':b∉f':=fun hb=>by
    rcases hf' b hb with q|q
    · exact nb (by simp[q])
    · exact q (by simp)
  have d1:∀c∈f',c∉f1:=fun c hc h1=>by
    rcases hf' c hc with q|q
    · exact n3 c h1 c (List.mem_append_left _ q) rfl
    · exact q (by simp[h1])
  have d4:∀c∈f',c∉f4:=fun c hc h1=>by
    rcases hf' c hc with q|q
    · exact n6 c q c h1 rfl
    · exact q (by simp[h1])
  have o1':=o1.frame (h':=H') fun c hc=>fr c (by simp[hc]) (fun h3=>n3 c hc c (List.mem_append_left _ h3) rfl) (fun e=>nb (by rw[←e];simp[hc]))
  have o4':=o4.frame (h':=H') fun c hc=>fr c (by simp[hc]) (fun h3=>n6 c h3 c hc rfl) (fun e=>nb (by rw[←e];simp[hc]))
  refine⟨b::(f1++(f'++f4)),?_,List.nodup_cons.2 ⟨?_,List.nodup_append.2 ⟨n1,List.nodup_append.2 ⟨nd2,n5,fun x hx y hy e=>d4 x hx (e▸hy)⟩,fun x hx y hy e=>?_⟩⟩,fun c hc=>?_⟩
  · have:=b6.sl_mk (h:=H') (b:=b) (g:=g) (cap:=cap) (sz:=sz) (ex:=ex) («as»:=a1++(row'++a4)) (tail:=tail) (xs:=xs.set k d') (fp:=f1++(f'++f4))
      (by rw[hm.eq];simp) (fun y hy=>by
        rcases List.mem_or_eq_of_mem_set hy with g|g
        · exact hsz y g
        · rw[g,hdl]) ht (by simpa using hc) (by rw[hfl];exact o1'.append (o'.append o4'))
    simpa using this
  · simp only[List.mem_append,not_or]
    exact⟨fun h=>nb (by simp[h]),hbf',fun h=>nb (by simp[h])⟩
  · subst e
    rcases List.mem_append.1 hy with q|q
    · exact d1 x q hx
    · exact n3 x hx x (List.mem_append_right _ q) rfl
  · simp only[List.mem_cons,List.mem_append]at hc ⊢
    rcases hc with q|q|q|q
    · exact .inl (.inl q)
    · exact .inl (.inr (.inl q))
    · exact .inr q
    · exact .inl (.inr (.inr (.inr q)))
end Go.AM
namespace Go.AM
theorem F7{H:AH}{q:Nat}{x:AV}(hq:b7 H q=some (0,[x])):iM H (.gp q 0 0) (.ip true [x]):=by
  refine .gp q 0 0 [x] [x] (fun _=>x) (cS hq) (fun j y hy=>?_) (fun j y hy=>?_)
  · cases j with
    | zero=>rfl
    | succ j=>simp at hy
  · cases j with
    | zero=>simp at hy;subst hy;exact .same _
    | succ j=>simp at hy
theorem Gh{H:AH}{g:FuncId}{a a':AV}(ha:iM H a a'):iM H (.fn g [] [a]) (.fn g [] [a']):=by
  refine .fn g _ _ rfl (fun i=>[a].getD i .any) (fun i y hy=>?_) (fun i y hy=>?_)
  · match i,hy with
    | 0,_=>rfl
    | n+1,h=>simp at h
  · match i,hy with
    | 0,h=>simp at h;subst h;exact ha
    | n+1,h=>simp at h
section
variable {α:Type} {c:α→List AV} {sz:Nat} (hc:∀x,(c x).length=sz)
include hc
end
end Go.AM
namespace Go.AM
section
variable {P:Program} {Θ:lF} {Γ:bY}
theorem xO{H:AH}{a:AV}{d:CD}{fp:List Nat}(hd:d.flat=true)(o:b6 H a d fp):a=d.av true∧fp=[]:=by
  cases d with
  | i=>obtain⟨rfl,rfl⟩:=gB.1 o;simp[CD.gI]
  | b=>obtain⟨rfl,rfl⟩:=iH.1 o;simp[CD.lM]
  | s=>obtain⟨rfl,rfl⟩:=iv.1 o;simp[CD.lB]
  | sl=>cases hd
theorem aV.c3{h H:AH}{d d' d'':CD}(hd:d'.flat=true)(hd2:d''.flat=true){v:AV}(f:aV h [.c d,.c d',.c d''] v H):∃a fp,v=.tup [a,d'.av true,d''.av true]∧b6 H a d fp∧fp.Nodup∧(∀b∈fp,h.length≤b)∧cn h H:=by
  obtain⟨vs,new,fp,rfl,rfl,o,nd,hb,_⟩:=f
  match vs,o with
  | [a,a',a''],⟨f1,f2,e,o1,f3,f4,e',o2,f5,f6,e'',o3,e3⟩=>
    obtain⟨rfl,rfl⟩:=xO hd o2
    obtain⟨rfl,rfl⟩:=xO hd2 o3
    have e3:f6=[]:=e3
    subst e3
    simp at e'';subst e''
    simp at e';subst e'
    simp at e;subst e
    exact⟨a,fp,rfl,o1,nd,hb,cn.app h new⟩
theorem aV.ac{h H:AH}{cs:List CD}{d d':CD}(hd:d'.flat=true){v:AV}(f:aV h [.a cs,.c d,.c d'] v H):∃aa a f1 f2,v=.tup [.agg aa,a,d'.av true]∧aG H aa cs f1∧b6 H a d f2∧(f1++f2).Nodup∧(∀b∈f1++f2,h.length≤b)∧cn h H:=by
  obtain⟨vs,new,fp,rfl,rfl,o,nd,hb,_⟩:=f
  match vs,o with
  | [a,a',a''],⟨f1,f2,e,o1,f3,f4,e',o2,f5,f6,e'',o3,e3⟩=>
    obtain⟨aa,rfl,o1⟩:=o1
    obtain⟨rfl,rfl⟩:=xO hd o3
    have e3:f6=[]:=e3
    subst e3
    simp at e'';subst e''
    simp at e';subst e'
    subst e
    exact⟨aa,a',f1,f2,rfl,o1,o2,nd,hb,cn.app h new⟩
end
end Go.AM
namespace Go.AM
section
variable {P:Program} {Θ:lF} {Γ:bY}
def sA(s:St):AV→AV→AR
  | .str v,.int _ n=>.iI s (if 0≤n then (v[n.toNat]?).map fun b=>.int .u8 b.toNat else none)
  | _,_=>.stuck
theorem kF(gl:Bool)(s:St)(x i:X):step Γ gl s (.idxstr x i)=sA s (s.eval Γ x) (s.eval Γ i):=by
  simp only[step];unfold sA;rfl
def dP(v:ByteArray)(k:Nat):Nat:=(v.data.toList.getD k 0).toNat
theorem uQ(s:St){v:ByteArray}{k:Nat}(h:k<v.size):sA s (.str v) (.int .i64 (k:Int))=.val (.int .u8 (dP v k:Nat)) s:=by
  have e:v[k]? = some v[k]:=getElem?_pos v k h
  have e2:v.data.toList[k]? = some v[k]:=by
    have h':k<v.data.size:=h
    rw[Array.getElem?_toList,Array.getElem?_eq_getElem h'];rfl
  simp only[sA]
  rw[if_pos (by omega),Int.toNat_natCast,e]
  simp only[Option.map_some,AR.iI,dP,List.getD_eq_getElem?_getD,e2,Option.getD_some]
end
theorem pA(v:ByteArray):AF true (.str v)=some (.int .i64 v.size):=rfl
end Go.AM
namespace Go.AM
theorem To(env:List AV)(L zs:List (List AV))(a0 a1 a2 a3 z:List AV)(h:AH)(off n0:Nat):(St.mk env (L++a0::a1::a2::a3::z::zs) h).cells (.lp (L.length+4) off) n0=sub z off n0:=cM (i:=4) rfl
theorem T2(env:List AV)(L zs:List (List AV))(a0 a1 a2 a3 z:List AV)(h:AH)(off:Nat)(vs:List AV):(St.mk env (L++a0::a1::a2::a3::z::zs) h).store (.lp (L.length+4) off) vs=jr (fun z'=>⟨env,L++a0::a1::a2::a3::z'::zs,h⟩) (gF ⟨env,L++a0::a1::a2::a3::z::zs,h⟩ (.lp (L.length+4) off) vs) (lv z off vs):=
  dN fun _ hs=>cL (i:=4) rfl hs
theorem TO(env:List AV)(L zs:List (List AV))(a0 a1 a2 a3 a4 z:List AV)(h:AH)(off n0:Nat):(St.mk env (L++a0::a1::a2::a3::a4::z::zs) h).cells (.lp (L.length+5) off) n0=sub z off n0:=cM (i:=5) rfl
theorem TL(env:List AV)(L zs:List (List AV))(a0 a1 a2 a3 a4 z:List AV)(h:AH)(off:Nat)(vs:List AV):(St.mk env (L++a0::a1::a2::a3::a4::z::zs) h).store (.lp (L.length+5) off) vs=jr (fun z'=>⟨env,L++a0::a1::a2::a3::a4::z'::zs,h⟩) (gF ⟨env,L++a0::a1::a2::a3::a4::z::zs,h⟩ (.lp (L.length+5) off) vs) (lv z off vs):=
  dN fun _ hs=>cL (i:=5) rfl hs
theorem TU(env:List AV)(L zs:List (List AV))(a0 a1 a2 a3 a4 a5 z:List AV)(h:AH)(off n0:Nat):(St.mk env (L++a0::a1::a2::a3::a4::a5::z::zs) h).cells (.lp (L.length+6) off) n0=sub z off n0:=cM (i:=6) rfl
theorem Tl(env:List AV)(L zs:List (List AV))(a0 a1 a2 a3 a4 a5 z:List AV)(h:AH)(off:Nat)(vs:List AV):(St.mk env (L++a0::a1::a2::a3::a4::a5::z::zs) h).store (.lp (L.length+6) off) vs=jr (fun z'=>⟨env,L++a0::a1::a2::a3::a4::a5::z'::zs,h⟩) (gF ⟨env,L++a0::a1::a2::a3::a4::a5::z::zs,h⟩ (.lp (L.length+6) off) vs) (lv z off vs):=
  dN fun _ hs=>cL (i:=6) rfl hs
theorem Tm(env:List AV)(L zs:List (List AV))(a0 a1 a2 a3 a4 a5 a6 z:List AV)(h:AH)(off n0:Nat):(St.mk env (L++a0::a1::a2::a3::a4::a5::a6::z::zs) h).cells (.lp (L.length+7) off) n0=sub z off n0:=cM (i:=7) rfl
theorem Tv(env:List AV)(L zs:List (List AV))(a0 a1 a2 a3 a4 a5 a6 z:List AV)(h:AH)(off:Nat)(vs:List AV):(St.mk env (L++a0::a1::a2::a3::a4::a5::a6::z::zs) h).store (.lp (L.length+7) off) vs=jr (fun z'=>⟨env,L++a0::a1::a2::a3::a4::a5::a6::z'::zs,h⟩) (gF ⟨env,L++a0::a1::a2::a3::a4::a5::a6::z::zs,h⟩ (.lp (L.length+7) off) vs) (lv z off vs):=
  dN fun _ hs=>cL (i:=7) rfl hs
theorem Ul(env:List AV)(L zs:List (List AV))(a0 a1 a2 a3 a4 a5 a6 a7 z:List AV)(h:AH)(off n0:Nat):(St.mk env (L++a0::a1::a2::a3::a4::a5::a6::a7::z::zs) h).cells (.lp (L.length+8) off) n0=sub z off n0:=cM (i:=8) rfl
theorem TW(env:List AV)(L zs:List (List AV))(a0 a1 a2 a3 a4 a5 a6 a7 z:List AV)(h:AH)(off:Nat)(vs:List AV):(St.mk env (L++a0::a1::a2::a3::a4::a5::a6::a7::z::zs) h).store (.lp (L.length+8) off) vs=jr (fun z'=>⟨env,L++a0::a1::a2::a3::a4::a5::a6::a7::z'::zs,h⟩) (gF ⟨env,L++a0::a1::a2::a3::a4::a5::a6::a7::z::zs,h⟩ (.lp (L.length+8) off) vs) (lv z off vs):=
  dN fun _ hs=>cL (i:=8) rfl hs
theorem TV(env:List AV)(L zs:List (List AV))(a0 a1 a2 a3 a4 a5 a6 a7 a8 z:List AV)(h:AH)(off n0:Nat):(St.mk env (L++a0::a1::a2::a3::a4::a5::a6::a7::a8::z::zs) h).cells (.lp (L.length+9) off) n0=sub z off n0:=cM (i:=9) rfl
theorem Tq(env:List AV)(L zs:List (List AV))(a0 a1 a2 a3 a4 a5 a6 a7 a8 z:List AV)(h:AH)(off:Nat)(vs:List AV):(St.mk env (L++a0::a1::a2::a3::a4::a5::a6::a7::a8::z::zs) h).store (.lp (L.length+9) off) vs=jr (fun z'=>⟨env,L++a0::a1::a2::a3::a4::a5::a6::a7::a8::z'::zs,h⟩) (gF ⟨env,L++a0::a1::a2::a3::a4::a5::a6::a7::a8::z::zs,h⟩ (.lp (L.length+9) off) vs) (lv z off vs):=
  dN fun _ hs=>cL (i:=9) rfl hs
theorem QL(env:List AV)(L zs:List (List AV))(a0 a1 a2 a3 a4 a5 a6 a7 a8 a9 z:List AV)(h:AH)(off n0:Nat):(St.mk env (L++a0::a1::a2::a3::a4::a5::a6::a7::a8::a9::z::zs) h).cells (.lp (L.length+10) off) n0=sub z off n0:=cM (i:=10) rfl
theorem NM(env:List AV)(L zs:List (List AV))(a0 a1 a2 a3 a4 a5 a6 a7 a8 a9 z:List AV)(h:AH)(off:Nat)(vs:List AV):(St.mk env (L++a0::a1::a2::a3::a4::a5::a6::a7::a8::a9::z::zs) h).store (.lp (L.length+10) off) vs=jr (fun z'=>⟨env,L++a0::a1::a2::a3::a4::a5::a6::a7::a8::a9::z'::zs,h⟩) (gF ⟨env,L++a0::a1::a2::a3::a4::a5::a6::a7::a8::a9::z::zs,h⟩ (.lp (L.length+10) off) vs) (lv z off vs):=
  dN fun _ hs=>cL (i:=10) rfl hs
theorem Ms(env:List AV)(L zs:List (List AV))(a0 a1 a2 a3 a4 a5 a6 a7 a8 a9 a10 z:List AV)(h:AH)(off n0:Nat):(St.mk env (L++a0::a1::a2::a3::a4::a5::a6::a7::a8::a9::a10::z::zs) h).cells (.lp (L.length+11) off) n0=sub z off n0:=cM (i:=11) rfl
theorem Qe(env:List AV)(L zs:List (List AV))(a0 a1 a2 a3 a4 a5 a6 a7 a8 a9 a10 z:List AV)(h:AH)(off:Nat)(vs:List AV):(St.mk env (L++a0::a1::a2::a3::a4::a5::a6::a7::a8::a9::a10::z::zs) h).store (.lp (L.length+11) off) vs=jr (fun z'=>⟨env,L++a0::a1::a2::a3::a4::a5::a6::a7::a8::a9::a10::z'::zs,h⟩) (gF ⟨env,L++a0::a1::a2::a3::a4::a5::a6::a7::a8::a9::a10::z::zs,h⟩ (.lp (L.length+11) off) vs) (lv z off vs):=
  dN fun _ hs=>cL (i:=11) rfl hs
theorem PC(env:List AV)(L zs:List (List AV))(a0 a1 a2 a3 a4 a5 a6 a7 a8 a9 a10 a11 z:List AV)(h:AH)(off n0:Nat):(St.mk env (L++a0::a1::a2::a3::a4::a5::a6::a7::a8::a9::a10::a11::z::zs) h).cells (.lp (L.length+12) off) n0=sub z off n0:=cM (i:=12) rfl
theorem Qq(env:List AV)(L zs:List (List AV))(a0 a1 a2 a3 a4 a5 a6 a7 a8 a9 a10 a11 z:List AV)(h:AH)(off:Nat)(vs:List AV):(St.mk env (L++a0::a1::a2::a3::a4::a5::a6::a7::a8::a9::a10::a11::z::zs) h).store (.lp (L.length+12) off) vs=jr (fun z'=>⟨env,L++a0::a1::a2::a3::a4::a5::a6::a7::a8::a9::a10::a11::z'::zs,h⟩) (gF ⟨env,L++a0::a1::a2::a3::a4::a5::a6::a7::a8::a9::a10::a11::z::zs,h⟩ (.lp (L.length+12) off) vs) (lv z off vs):=
  dN fun _ hs=>cL (i:=12) rfl hs
theorem aO:type_of% (And.intro @To (And.intro @T2 (And.intro @TO (And.intro @TL (And.intro @TU (And.intro @Tl (And.intro @Tm (And.intro @Tv (And.intro @Ul (And.intro @TW (And.intro @TV (And.intro @Tq (And.intro @QL (And.intro @NM (And.intro @Ms (And.intro @Qe (And.intro @PC @Qq))))))))))))))))):=And.intro @To (And.intro @T2 (And.intro @TO (And.intro @TL (And.intro @TU (And.intro @Tl (And.intro @Tm (And.intro @Tv (And.intro @Ul (And.intro @TW (And.intro @TV (And.intro @Tq (And.intro @QL (And.intro @NM (And.intro @Ms (And.intro @Qe (And.intro @PC @Qq))))))))))))))))
end Go.AM
namespace Go.AM
section
variable {P:Program} {Θ:lF} {Γ:bY}
theorem sY{f g:Nat→D→Prop}:∀{ds:List (Nat×D)},(∀i d,f i d→g i d)→td f ds→td g ds
  | [],_,_=>trivial
  | (_,_)::_,h,a=>⟨h _ _ a.1,sY h a.2⟩
theorem tu{f g:Nat→Option (List Nat)→D→Prop}:∀{ds:List (Nat×Option (List Nat)×D)},(∀i b d,f i b d→g i b d)→pU f ds→pU g ds
  | [],_,_=>trivial
  | (_,_,_)::_,h,a=>⟨h _ _ _ a.1,tu h a.2⟩
theorem kM{gl:Gl}{os:List O}{K K':St→Prop}(hk:∀s,K s→K' s):∀(n:Nat) (d:D) (s:St),bB P Γ gl os K n d s→bB P Γ gl os K' n d s
  | 0,.done,s,h=>hk s h
  | n+1,.done,s,h=>hk s h
  | n+1,.q i d,s,h=>gh (fun s' h=>kM hk n d s' h) h
  | n+1,.st i rs d,s,h=>gh (fun s' h=>⟨h.1,kM hk n d s' h.2⟩) h
  | n+1,.all ds,s,h=>sY (fun i d h=>gh (fun s' h=>⟨h.1,kM hk n d s' h.2⟩) h) h
  | n+1,.mix ds,s,h=>tu (fun i b d h=>gh (fun s' h=>⟨h.1,kM hk n d s' h.2⟩) h) h
  | 0,.mix _,_,h=>h.elim
  | 0,.q _ _,_,h=>h.elim
  | 0,.st _ _ _,_,h=>h.elim
  | 0,.all _,_,h=>h.elim
theorem F1{gl:Gl}:∀(c:C) {Q Q':AE→St→Prop} (s:St),(∀e s,Q e s→Q' e s)→aw P Θ Γ gl c Q s→aw P Θ Γ gl c Q' s:=by
  intro c
  induction c with
  | skip=>exact fun s hq h=>hq _ s h
  | reg os=>exact fun s hq h=>jn os s (hq _) h
  | regD os af=>
    intro Q Q' s hq h
    simp only[aw]at h ⊢
    split at h
    · exact kM (hq _) _ _ s h
    · exact h.elim
  | seq a b iha ihb=>
    intro Q Q' s hq h
    exact iha s (fun e s he=>by cases e<;>simp only[hB]at he ⊢<;>first|exact ihb s hq he|exact hq _ s he) h
  | cond c a b iha ihb=>
    intro Q Q' s hq h
    simp only[aw]at h ⊢
    split at h
    · exact⟨fun ht=>iha s hq (h.1 ht),fun ht=>ihb s hq (h.2 ht)⟩
    · exact h.elim
  | block id c ih=>
    intro Q Q' s hq h
    refine ih s (fun e s he=>?_) h
    cases e with
    | normal=>exact hq _ s he
    | exit i=>
      simp only[iZ]at he ⊢
      split at he
      · rename_i hi;rw[if_pos hi];exact hq _ s he
      · rename_i hi;rw[if_neg hi];exact hq _ s he
    | ret=>exact hq _ s he
  | loop c=>exact fun s hq h=>TC.mono h hq
  | exit id=>exact fun s hq h=>hq _ s h
  | ret=>exact fun s hq h=>hq _ s h
def A5(R:St→Prop)(Q:AE→St→Prop):AE→St→Prop
  | .normal,s=>R s
  | e,s=>Q e s
theorem NP(R:St→Prop)(Q:AE→St→Prop):A5 R Q .normal=R:=rfl
theorem NR(R:St→Prop)(Q:AE→St→Prop):A5 R Q .ret=Q .ret:=rfl
theorem P5(R:St→Prop)(Q:AE→St→Prop)(i:Nat):A5 R Q (.exit i)=Q (.exit i):=rfl
theorem sL{gl:Gl}{a b:C}{Q:AE→St→Prop}{s:St}(R:St→Prop)(h1:aw P Θ Γ gl a (A5 R Q) s)(h2:∀s,R s→aw P Θ Γ gl b Q s):aw P Θ Γ gl (.seq a b) Q s:=
  F1 a s (fun e s he=>by cases e<;>first|exact h2 s he|exact he) h1
def jq(e:List AV)(n:Nat):AV:=e.getD n .any
theorem jM{e:List AV}{loc:List (List AV)}{h:AH}{n:Nat}(hn:e.length=n):(⟨e,loc,h⟩:St)=⟨(List.range n).map (jq e),loc,h⟩:=by
  subst hn
  congr 1
  apply List.ext_getElem (by simp)
  intro i h1 h2
  simp[jq,List.getD_eq_getElem?_getD,List.getElem?_eq_getElem h1]
end
theorem eE:type_of% (And.intro @NP (And.intro @NR @P5)):=And.intro @NP (And.intro @NR @P5)
end Go.AM
namespace Go.AM
section
variable {P:Program} {Θ:lF} {Γ:bY}
end
end Go.AM
