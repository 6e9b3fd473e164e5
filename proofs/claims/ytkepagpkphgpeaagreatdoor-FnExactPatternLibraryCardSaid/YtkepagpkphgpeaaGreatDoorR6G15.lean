import Derived.Test.YtkepagpkphgpeaaGreatDoorR6G14
import Derived.Test.YtkepagpkphgpeaaGreatDoorAmG10
import Derived.Test.YtkepagpkphgpeaaGreatDoorAmG9
set_option linter.unusedVariables false
set_option linter.unusedSimpArgs false
namespace Go.Proofs.YtkepagpkphgpeaaGreatDoor
open Go.AM
variable {Γ:aZ}
theorem Wd.grow{h H:AH}{q:Nat}{ws:List ByteArray}{w:AV}{fp:List Nat}(W:Wd h H q ws w fp)(M:AH):Wd h (H++M) q ws w fp:=by
  obtain⟨box,own,nd,qf,fr,ql,N,hN⟩:=W
  refine⟨?_,own.grow,nd,qf,fr,ql,N++M,by rw[hN,List.append_assoc]⟩
  have:=cw box
  rw[dn (List.getElem?_append_left this)];exact box
theorem Wd.lt{h H:AH}{q:Nat}{ws:List ByteArray}{w:AV}{fp:List Nat}(W:Wd h H q ws w fp):∀c∈fp,c<H.length:=W.own.lt
theorem Wd.Jm{h H H':AH}{q:Nat}{ws:List ByteArray}{w:AV}{fp:List Nat}(W:Wd h H q ws w fp){b:Nat}(hb:b∉fp)(bq:b≠q)(bh:h.length≤b)(hl:H'.length=H.length)(hf:∀x,x≠b→H'[x]? = H[x]?):Wd h H' q ws w fp:=by
  obtain⟨box,own,nd,qf,fr,ql,N,hN⟩:=W
  refine⟨by rw[dn (hf q (Ne.symm bq))];exact box,own.frame fun c hc=>hf c (fun e:c=b=>hb (e▸hc)),nd,qf,fr,ql,?_⟩
  subst hN
  exact(du.mark (du.app h N) hl (fp:=[b]) (fun c hc=>hf c (by simpa using hc)) (by simpa using bh)).out
theorem ey{H:AH}{w:AV}{ws:List Tx}{fp:List Nat}(o:bM H w (fa (ws.map tb)) fp):et H w (.vs true 1 false (ws.map fun w=>[.str (tb w)])):=by
  refine bM.jB (c:=fun w:Tx=>[AV.str (tb w)]) (cd:=fun w:Tx=>[CD.s (tb w)]) (fun n=>by simp[CD.eU]) (fp:=fp) ?_
  have:fa (ws.map tb)=.sl 1 (ws.map fun w=>[CD.s (tb w)]):=by simp[fa,Function.comp_def]
  rw[←this];exact o
theorem ug(x:aW):(qh x).length≤10:=by
  have h2:((uK [x.c,x.d]).map fF).length≤2:=by rw[List.length_map];exact List.length_filter_le _ _
  unfold qh
  split
  · simp
  split
  · simp
  split
  · simp only[List.length_cons,List.length_append,List.length_nil];omega
  split
  · simp only[List.length_cons,List.length_append,List.length_nil];omega
  · simp
set_option maxHeartbeats 32000000 in
set_option maxRecDepth 100000 in
theorem Az(hΓ:fP Γ){s:Tx}(hs:s∈bc)(h:AH):T Tryz.prog Γ Fn.JF [.agg (aV (aX s))] h fun v h'=>v=.str (tb s)∧h'=h:=by
  obtain⟨k1,k2,k3,k4,k5,k6,k7,k8,k9,k10,k11,k12⟩:=fc hs
  have kw:=List.all_eq_true.1 rY s hs
  simp only[Bool.and_eq_true,decide_eq_true_eq]at kw
  obtain⟨w1,w2,w3⟩:=kw
  have d64:∀n:Int,(n = -1∨gN n=true)→i64 n:=fun n h=>by
    rcases h with rfl|h
    · exact⟨by omega,by omega⟩
    · simp only[gN,Bool.and_eq_true,decide_eq_true_eq]at h;exact⟨by omega,by omega⟩
  have ia:=d64 _ (.inr k5)
  have ib:=d64 _ (.inr k6)
  have ic:=d64 _ k7
  have id:=d64 _ k8
  have ea:=mQ k5
  have eb:=mQ k6
  have ef:(oA [(aX s).c,(aX s).d]).map aF=((uK [(aX s).c,(aX s).d]).map fF).map tb:=by
    rw[List.map_map]
    apply List.map_congr_left
    intro n hn
    have hn':=List.mem_filter.1 hn
    have hne:¬n = -1:=by simpa using hn'.2
    rcases List.mem_cons.1 hn'.1 with e|e
    · exact mQ (by rw[e];exact k7.resolve_left (fun q=>hne (by rw[e,q])))
    · have e:=List.mem_singleton.1 e
      exact mQ (by rw[e];exact k8.resolve_left (fun q=>hne (by rw[e,q])))
  have hfl:(oA [(aX s).c,(aX s).d]).length≤2:=List.length_filter_le _ _
  have hfi:∀n∈oA [(aX s).c,(aX s).d],i64 n:=fun n hn=>by
    have hn':=List.mem_filter.1 hn
    rcases List.mem_cons.1 hn'.1 with e|e
    · rw[e];exact ic
    · rw[List.mem_singleton.1 e];exact id
  have hop:=fun h=>Ep hΓ (aX s).op k9 k10 h
  rw[wT k9 k10]at hop
  have hj:=fun(ws:List Tx) (h0:ws≠[]) (hl:ws.length≤1000) (e:Lib.join ws [32]=s) h=>CB (Γ:=Γ) (β:=true) (ex:=false) ws [32] h0 hl (by rw[e];omega) h
  have wl:=ug (aX s)
  unfold qh at w1 wl
  generalize hx:aX s=x at *
  have q0:(⟨#[32]⟩:ByteArray)=tb [32]:=rfl
  have rp_2:∀z:AV,(List.replicate 2 [z]).flatten=[z,z]:=fun z=>rfl
  have rp_3:∀z:AV,(List.replicate 3 [z]).flatten=[z,z,z]:=fun z=>rfl
  refine T.text ?_
  refine Fc (ax aB mixed [3] _ _ _ ?_)
  unfold Ae
  have al:=fun(s:St)=>pD s _ (show List.all [AV.nils] aK=true from rfl)
  have sto:∀(e:List AV) (L:List (List AV)),(St.mk e L ((h++[some (0,[AV.str (tb (fU x.op.toNat))])])++[some (0,[AV.nils])])).store (.gp (h++[some (0,[AV.str (tb (fU x.op.toNat))])]).length 0 0) [.gs h.length 0 0 1 1 1 true]=some ⟨e,L,(h++[some (0,[AV.str (tb (fU x.op.toNat))])])++[some (0,[.gs h.length 0 0 1 1 1 true])]⟩:=fun e L=>by
    rw[iq (by simp) rfl];rfl
  simp only[EZ,ag,Nat.reduceAdd,Nat.reduceBEq,cO,EB,aT,aV]
  refine an.val (by simp only[EO]) (hop _) ?_
  simp only[EZ,ag,Nat.reduceAdd,Nat.reduceBEq,cO,EB,aT,EA,al,eG,sto]
  have W0:Wd h ((h++[some (0,[AV.str (tb (fU x.op.toNat))])])++[some (0,[.gs h.length 0 0 1 1 1 true])]) (h++[some (0,[AV.str (tb (fU x.op.toNat))])]).length ([fU x.op.toNat].map tb) (.gs h.length 0 0 1 1 1 true) [h.length]:=by
    refine⟨bx _ _,?_,by simp,by simp,by simp,by simp,_,List.append_assoc _ _ _⟩
    exact(lv h ([fU x.op.toNat].map tb) rfl).grow
  generalize hH:(h++[some (0,[AV.str (tb (fU x.op.toNat))])])++[some (0,[.gs h.length 0 0 1 1 1 true])]=H at *
  generalize hq:(h++[some (0,[AV.str (tb (fU x.op.toNat))])]).length=q at *
  clear sto
  generalize AV.gs h.length 0 0 1 1 1 true=w0 at *
  by_cases e4:x.op=4
  · rw[if_pos (Or.inl e4)]at w1 wl
    simp only[EZ,ag,Nat.reduceAdd,Nat.reduceBEq,cO,EB,aT,EA,rp_2,rp_3,aV,ak,aq,decide_eq_true e4]
    have W0g:=W0.grow [some (0,[AV.int .i64 x.a])]
    have bq1:H.length≠q:=fun e=>by have:=cw W0.box;omega
    have bf1:H.length∉[h.length]:=fun hc=>by have:=W0.lt _ hc;omega
    have ha1:=c6 hΓ [x.a] (by simp) (by intro n hn;simp only[List.mem_cons,List.not_mem_nil,or_false]at hn;subst hn;exact ia) W0g (by simp) (tail:=[]) (b:=H.length) (g:=0) (cap:=[x.a].length) (ex:=true) (by rw[List.append_nil];exact bx _ _) (Nat.le_refl _) bq1 bf1
    refine an.ref (by simp only[EO,bF,aK,bW]) ha1 ?_
    rintro _ H1 ⟨rfl,v1,f1,W1,_,_,_⟩
    have eW:[fU x.op.toNat].map tb++[x.a].map aF=([fU x.op.toNat,fF x.a]).map tb:=by simp[ea]
    rw[eW]at W1
    have rdE:=W1.rd
    obtain⟨z1,z2,z3,z4⟩:=W1.own.cell
    simp only[EZ,ag,Nat.reduceAdd,Nat.reduceBEq,cO,EB,aT,EA,rp_2,rp_3,aV,ak,aq,decide_eq_true e4,rdE,z1,z2,z3,q0]
    refine an.jB (by simp only[EO,z4]) (b6 (ey W1.own) (b6 (.same _) dC)) (hj _ (by simp) (by omega) w1) (.str _) ?_
    simp only[EZ,ag,Nat.reduceAdd,Nat.reduceBEq,cO,EB,aT,EA,rp_2,rp_3,aV,ak,aq,decide_eq_true e4]
    exact⟨rfl,by rw[w1],W1.ex⟩
  by_cases e10:x.op=10
  · rw[if_pos (Or.inr e10)]at w1 wl
    simp only[EZ,ag,Nat.reduceAdd,Nat.reduceBEq,cO,EB,aT,EA,rp_2,rp_3,aV,ak,aq,decide_eq_false e4,decide_eq_true e10]
    have W0g:=W0.grow [some (0,[AV.int .i64 x.a])]
    have bq1:H.length≠q:=fun e=>by have:=cw W0.box;omega
    have bf1:H.length∉[h.length]:=fun hc=>by have:=W0.lt _ hc;omega
    have ha1:=c6 hΓ [x.a] (by simp) (by intro n hn;simp only[List.mem_cons,List.not_mem_nil,or_false]at hn;subst hn;exact ia) W0g (by simp) (tail:=[]) (b:=H.length) (g:=0) (cap:=[x.a].length) (ex:=true) (by rw[List.append_nil];exact bx _ _) (Nat.le_refl _) bq1 bf1
    refine an.ref (by simp only[EO,bF,aK,bW]) ha1 ?_
    rintro _ H1 ⟨rfl,v1,f1,W1,_,_,_⟩
    have eW:[fU x.op.toNat].map tb++[x.a].map aF=([fU x.op.toNat,fF x.a]).map tb:=by simp[ea]
    rw[eW]at W1
    have rdE:=W1.rd
    obtain⟨z1,z2,z3,z4⟩:=W1.own.cell
    simp only[EZ,ag,Nat.reduceAdd,Nat.reduceBEq,cO,EB,aT,EA,rp_2,rp_3,aV,ak,aq,decide_eq_false e4,decide_eq_true e10,rdE,z1,z2,z3,q0]
    refine an.jB (by simp only[EO,z4]) (b6 (ey W1.own) (b6 (.same _) dC)) (hj _ (by simp) (by omega) w1) (.str _) ?_
    simp only[EZ,ag,Nat.reduceAdd,Nat.reduceBEq,cO,EB,aT,EA,rp_2,rp_3,aV,ak,aq,decide_eq_false e4,decide_eq_true e10]
    exact⟨rfl,by rw[w1],W1.ex⟩
  rw[if_neg (by omega)]at w1 wl
  by_cases e5:x.op=5
  · rw[if_pos e5]at w1 wl
    have ec:=mQ (k7.resolve_left (w3 e5))
    simp only[EZ,ag,Nat.reduceAdd,Nat.reduceBEq,cO,EB,aT,EA,rp_2,rp_3,aV,ak,aq,decide_eq_false e4,decide_eq_false e10,decide_eq_true e5]
    have W0g:=W0.grow [some (0,[AV.int .i64 x.a,AV.int .i64 x.b,AV.int .i64 x.c])]
    have bq1:H.length≠q:=fun e=>by have:=cw W0.box;omega
    have bf1:H.length∉[h.length]:=fun hc=>by have:=W0.lt _ hc;omega
    have ha1:=c6 hΓ [x.a,x.b,x.c] (by simp) (by intro n hn;simp only[List.mem_cons,List.not_mem_nil,or_false]at hn;rcases hn with rfl|rfl|rfl<;>assumption) W0g (by simp) (tail:=[]) (b:=H.length) (g:=0) (cap:=[x.a,x.b,x.c].length) (ex:=true) (by rw[List.append_nil];exact bx _ _) (Nat.le_refl _) bq1 bf1
    refine an.ref (by simp only[EO,bF,aK,bW]) ha1 ?_
    rintro _ H1 ⟨rfl,v1,f1,W1,_,_,_⟩
    have eW:[fU x.op.toNat].map tb++[x.a,x.b,x.c].map aF=([fU x.op.toNat,fF x.a,fF x.b,fF x.c]).map tb:=by simp[ea,eb,ec]
    rw[eW]at W1
    have rdE:=W1.rd
    obtain⟨z1,z2,z3,z4⟩:=W1.own.cell
    simp only[EZ,ag,Nat.reduceAdd,Nat.reduceBEq,cO,EB,aT,EA,rp_2,rp_3,aV,ak,aq,decide_eq_false e4,decide_eq_false e10,decide_eq_true e5,rdE,z1,z2,z3,q0]
    refine an.jB (by simp only[EO,z4]) (b6 (ey W1.own) (b6 (.same _) dC)) (hj _ (by simp) (by omega) w1) (.str _) ?_
    simp only[EZ,ag,Nat.reduceAdd,Nat.reduceBEq,cO,EB,aT,EA,rp_2,rp_3,aV,ak,aq,decide_eq_false e4,decide_eq_false e10,decide_eq_true e5]
    exact⟨rfl,by rw[w1],W1.ex⟩
  rw[if_neg e5]at w1 wl
  by_cases e6:x.op=6
  · rw[if_pos e6]at w1 wl
    simp only[EZ,ag,Nat.reduceAdd,Nat.reduceBEq,cO,EB,aT,EA,rp_2,rp_3,aV,ak,aq,decide_eq_false e4,decide_eq_false e10,decide_eq_false e5,decide_eq_true e6]
    have W0g:=W0.grow [some (0,[AV.int .i64 x.a,AV.int .i64 x.b])]
    have bq1:H.length≠q:=fun e=>by have:=cw W0.box;omega
    have bf1:H.length∉[h.length]:=fun hc=>by have:=W0.lt _ hc;omega
    have ha1:=c6 hΓ [x.a,x.b] (by simp) (by intro n hn;simp only[List.mem_cons,List.not_mem_nil,or_false]at hn;rcases hn with rfl|rfl<;>assumption) W0g (by simp) (tail:=[]) (b:=H.length) (g:=0) (cap:=[x.a,x.b].length) (ex:=true) (by rw[List.append_nil];exact bx _ _) (Nat.le_refl _) bq1 bf1
    refine an.ref (by simp only[EO,bF,aK,bW]) ha1 ?_
    rintro _ H1 ⟨rfl,v1,f1,W1,_,_,_⟩
    have rd2:=W1.rd
    obtain⟨y1,y2,y3,y4⟩:=W1.own.cell
    obtain⟨v2,H2a,H2,f2,ea2,st2,p1,p2,p3,W2,_,_,_,_⟩:=W1.push (tb x.name) (by simp)
    simp only[EZ,ag,Nat.reduceAdd,Nat.reduceBEq,cO,EB,aT,EA,rp_2,rp_3,aV,ak,aq,decide_eq_false e4,decide_eq_false e10,decide_eq_false e5,decide_eq_true e6,rd2,y1,y2,y3,ea2,p1,p2,p3,st2]
    refine an.ref (by simp only[EO,bF,aK,bW]) (Cn x.c x.d w2 (b:=H2.length) (g:=0) (H:=H2++[some (0,[AV.int .i64 x.c,AV.int .i64 x.d])]) (bx _ _)) ?_
    rintro _ H3 ⟨rfl,⟨tl,hb3⟩,hl3,hf3⟩
    have bq3:H2.length≠q:=fun e=>by have:=cw W2.box;omega
    have bf3:H2.length∉f2:=fun hc=>by have:=W2.lt _ hc;omega
    have bh3:h.length≤H2.length:=by have:=W2.ql;have:=cw W2.box;omega
    have W3:=(W2.grow [some (0,[AV.int .i64 x.c,AV.int .i64 x.d])]).Jm (H':=H3) bf3 bq3 bh3 hl3 hf3
    simp only[EZ,ag,Nat.reduceAdd,Nat.reduceBEq,cO,EB,aT,EA,rp_2,rp_3,aV,ak,aq,decide_eq_false e4,decide_eq_false e10,decide_eq_false e5,decide_eq_true e6]
    refine an.ref (by simp only[EO,bF,aK,bW]) (c6 hΓ (oA [x.c,x.d]) (by omega) hfi W3 (by simp) hb3 hfl bq3 bf3) ?_
    rintro _ H9 ⟨rfl,v9,f9,W9,_,_,_⟩
    have eW:([fU x.op.toNat].map tb++[x.a,x.b].map aF++[tb x.name])++(oA [x.c,x.d]).map aF=(fU x.op.toNat::([fF x.a,fF x.b]++[x.name]++(uK [x.c,x.d]).map fF)).map tb:=by simp[ea,eb,ef]
    rw[eW]at W9
    have rdE:=W9.rd
    obtain⟨z1,z2,z3,z4⟩:=W9.own.cell
    simp only[EZ,ag,Nat.reduceAdd,Nat.reduceBEq,cO,EB,aT,EA,rp_2,rp_3,aV,ak,aq,decide_eq_false e4,decide_eq_false e10,decide_eq_false e5,decide_eq_true e6,rdE,z1,z2,z3,q0]
    refine an.jB (by simp only[EO,z4]) (b6 (ey W9.own) (b6 (.same _) dC)) (hj _ (by simp) (by omega) w1) (.str _) ?_
    simp only[EZ,ag,Nat.reduceAdd,Nat.reduceBEq,cO,EB,aT,EA,rp_2,rp_3,aV,ak,aq,decide_eq_false e4,decide_eq_false e10,decide_eq_false e5,decide_eq_true e6]
    exact⟨rfl,by rw[w1],W9.ex⟩
  rw[if_neg e6]at w1 wl
  by_cases e7:x.op=7
  · rw[if_pos e7]at w1 wl
    simp only[EZ,ag,Nat.reduceAdd,Nat.reduceBEq,cO,EB,aT,EA,rp_2,rp_3,aV,ak,aq,decide_eq_false e4,decide_eq_false e10,decide_eq_false e5,decide_eq_false e6,decide_eq_true e7]
    have W0g:=W0.grow [some (0,[AV.int .i64 x.a])]
    have bq1:H.length≠q:=fun e=>by have:=cw W0.box;omega
    have bf1:H.length∉[h.length]:=fun hc=>by have:=W0.lt _ hc;omega
    have ha1:=c6 hΓ [x.a] (by simp) (by intro n hn;simp only[List.mem_cons,List.not_mem_nil,or_false]at hn;subst hn;exact ia) W0g (by simp) (tail:=[]) (b:=H.length) (g:=0) (cap:=[x.a].length) (ex:=true) (by rw[List.append_nil];exact bx _ _) (Nat.le_refl _) bq1 bf1
    refine an.ref (by simp only[EO,bF,aK,bW]) ha1 ?_
    rintro _ H1 ⟨rfl,v1,f1,W1,_,_,_⟩
    have rd2:=W1.rd
    obtain⟨y1,y2,y3,y4⟩:=W1.own.cell
    obtain⟨v2,H2a,H2,f2,ea2,st2,p1,p2,p3,W2,_,_,_,_⟩:=W1.push (tb x.name) (by simp)
    simp only[EZ,ag,Nat.reduceAdd,Nat.reduceBEq,cO,EB,aT,EA,rp_2,rp_3,aV,ak,aq,decide_eq_false e4,decide_eq_false e10,decide_eq_false e5,decide_eq_false e6,decide_eq_true e7,rd2,y1,y2,y3,ea2,p1,p2,p3,st2]
    refine an.ref (by simp only[EO,bF,aK,bW]) (Cn x.c x.d w2 (b:=H2.length) (g:=0) (H:=H2++[some (0,[AV.int .i64 x.c,AV.int .i64 x.d])]) (bx _ _)) ?_
    rintro _ H3 ⟨rfl,⟨tl,hb3⟩,hl3,hf3⟩
    have bq3:H2.length≠q:=fun e=>by have:=cw W2.box;omega
    have bf3:H2.length∉f2:=fun hc=>by have:=W2.lt _ hc;omega
    have bh3:h.length≤H2.length:=by have:=W2.ql;have:=cw W2.box;omega
    have W3:=(W2.grow [some (0,[AV.int .i64 x.c,AV.int .i64 x.d])]).Jm (H':=H3) bf3 bq3 bh3 hl3 hf3
    simp only[EZ,ag,Nat.reduceAdd,Nat.reduceBEq,cO,EB,aT,EA,rp_2,rp_3,aV,ak,aq,decide_eq_false e4,decide_eq_false e10,decide_eq_false e5,decide_eq_false e6,decide_eq_true e7]
    refine an.ref (by simp only[EO,bF,aK,bW]) (c6 hΓ (oA [x.c,x.d]) (by omega) hfi W3 (by simp) hb3 hfl bq3 bf3) ?_
    rintro _ H9 ⟨rfl,v9,f9,W9,_,_,_⟩
    have eW:([fU x.op.toNat].map tb++[x.a].map aF++[tb x.name])++(oA [x.c,x.d]).map aF=(fU x.op.toNat::([fF x.a]++[x.name]++(uK [x.c,x.d]).map fF)).map tb:=by simp[ea,ef]
    rw[eW]at W9
    have rdE:=W9.rd
    obtain⟨z1,z2,z3,z4⟩:=W9.own.cell
    simp only[EZ,ag,Nat.reduceAdd,Nat.reduceBEq,cO,EB,aT,EA,rp_2,rp_3,aV,ak,aq,decide_eq_false e4,decide_eq_false e10,decide_eq_false e5,decide_eq_false e6,decide_eq_true e7,rdE,z1,z2,z3,q0]
    refine an.jB (by simp only[EO,z4]) (b6 (ey W9.own) (b6 (.same _) dC)) (hj _ (by simp) (by omega) w1) (.str _) ?_
    simp only[EZ,ag,Nat.reduceAdd,Nat.reduceBEq,cO,EB,aT,EA,rp_2,rp_3,aV,ak,aq,decide_eq_false e4,decide_eq_false e10,decide_eq_false e5,decide_eq_false e6,decide_eq_true e7]
    exact⟨rfl,by rw[w1],W9.ex⟩
  rw[if_neg e7]at w1 wl
  simp only[EZ,ag,Nat.reduceAdd,Nat.reduceBEq,cO,EB,aT,EA,rp_2,rp_3,aV,ak,aq,decide_eq_false e4,decide_eq_false e10,decide_eq_false e5,decide_eq_false e6,decide_eq_false e7]
  have W0g:=W0.grow [some (0,[AV.int .i64 x.a,AV.int .i64 x.b])]
  have bq1:H.length≠q:=fun e=>by have:=cw W0.box;omega
  have bf1:H.length∉[h.length]:=fun hc=>by have:=W0.lt _ hc;omega
  have ha1:=c6 hΓ [x.a,x.b] (by simp) (by intro n hn;simp only[List.mem_cons,List.not_mem_nil,or_false]at hn;rcases hn with rfl|rfl<;>assumption) W0g (by simp) (tail:=[]) (b:=H.length) (g:=0) (cap:=[x.a,x.b].length) (ex:=true) (by rw[List.append_nil];exact bx _ _) (Nat.le_refl _) bq1 bf1
  refine an.ref (by simp only[EO,bF,aK,bW]) ha1 ?_
  rintro _ H1 ⟨rfl,v1,f1,W1,_,_,_⟩
  have eW:[fU x.op.toNat].map tb++[x.a,x.b].map aF=([fU x.op.toNat,fF x.a,fF x.b]).map tb:=by simp[ea,eb]
  rw[eW]at W1
  have rdE:=W1.rd
  obtain⟨z1,z2,z3,z4⟩:=W1.own.cell
  simp only[EZ,ag,Nat.reduceAdd,Nat.reduceBEq,cO,EB,aT,EA,rp_2,rp_3,aV,ak,aq,decide_eq_false e4,decide_eq_false e10,decide_eq_false e5,decide_eq_false e6,decide_eq_false e7,rdE,z1,z2,z3,q0]
  refine an.jB (by simp only[EO,z4]) (b6 (ey W1.own) (b6 (.same _) dC)) (hj _ (by simp) (by omega) w1) (.str _) ?_
  simp only[EZ,ag,Nat.reduceAdd,Nat.reduceBEq,cO,EB,aT,EA,rp_2,rp_3,aV,ak,aq,decide_eq_false e4,decide_eq_false e10,decide_eq_false e5,decide_eq_false e6,decide_eq_false e7]
  exact⟨rfl,by rw[w1],W1.ex⟩
end Go.Proofs.YtkepagpkphgpeaaGreatDoor
namespace Go.Proofs.YtkepagpkphgpeaaGreatDoor
open Go.AM
variable {Γ:aZ}
theorem ET(hΓ:fP Γ){s:Tx}(hs:s∈bc)(h:AH):T Tryz.prog Γ Fn.IN [.agg (aV (aX s))] h fun v h'=>v=.str (tb s)∧h'=h:=by
  obtain⟨k1,k2,k3,k4,k5,k6,k7,k8,k9,k10,k11,k12⟩:=fc hs
  have hi:=fun h=>zI (Γ:=Γ) (aX s).D k3 (by rw[show(aX s).D.name=tb (aX s).name from rfl,cK];omega) h
  have hf:=fun h=>Az hΓ hs h
  simp only[aj.c,aW.D]at hi
  simp only[aV]at hf ⊢
  refine EX (ax aB mixed [] _ _ _ ?_)
  unfold A5
  simp only[EZ,ag,Nat.reduceAdd,Nat.reduceBEq,tF,EB]
  refine an.val (by simp only[EO]) (hi _) ?_
  simp only[EZ,ag,Nat.reduceAdd,Nat.reduceBEq,tF,EB]
  refine an.val (by simp only[EO]) (hf _) ?_
  simp only[EZ,ag,Nat.reduceAdd,Nat.reduceBEq,tF,EB]
  first|exact⟨rfl,rfl⟩|exact rfl|trivial
theorem uS:∀(a b:List UInt8) (c:UInt8),c∉a→Lib.index (a++c::b) [c]=a.length
  | [],b,c,_=>by simp[Lib.index,List.isPrefixOf]
  | d::a,b,c,h=>by
    have h1:(c == d)=false:=beq_eq_false_iff_ne.2 (fun e=>h (by simp[e]))
    have h2:=uS a b c (fun e=>h (by simp[e]))
    rw[List.cons_append,Lib.index,h2]
    simp only[List.isPrefixOf,h1,Bool.false_and,Bool.false_eq_true,if_false]
    rw[if_neg (by simp)]
    simp
theorem vT:∀(a:List UInt8) (c:UInt8),c∉a→Lib.index a [c] = -1
  | [],c,_=>by simp[Lib.index,List.isPrefixOf]
  | d::a,c,h=>by
    have h1:(c == d)=false:=beq_eq_false_iff_ne.2 (fun e=>h (by simp[e]))
    have h2:=vT a c (fun e=>h (by simp[e]))
    rw[Lib.index,h2]
    simp[List.isPrefixOf,h1]
theorem nQ(c:UInt8):∀a:Tx,c∉a→ay c a=[a]
  | [],_=>rfl
  | d::a,h=>by
    have hd:¬d=c:=fun e=>h (by simp[e])
    simp only[ay,if_neg hd,nQ c a (fun e=>h (by simp[e]))]
theorem kY(c:UInt8):∀(a b:Tx),c∉a→ay c (a++c::b)=a::ay c b
  | [],b,_=>by simp[ay]
  | d::a,b,h=>by
    have hd:¬d=c:=fun e=>h (by simp[e])
    simp only[List.cons_append,ay,if_neg hd,kY c a b (fun e=>h (by simp[e]))]
theorem qR(c:UInt8):∀l:Tx,c∈l→∃a b,l=a++c::b∧c∉a
  | [],h=>by cases h
  | d::l,h=>by
    by_cases hd:d=c
    · exact⟨[],l,by simp[hd],by simp⟩
    · obtain⟨a,b,e,hn⟩:=qR c l ((List.mem_cons.1 h).resolve_left (fun e=>hd e.symm))
      exact⟨d::a,b,by rw[e];rfl,fun hh=>(List.mem_cons.1 hh).elim (fun e=>hd e.symm) hn⟩
theorem jy(l:Tx)(c:UInt8):Lib.indexB (tb l) (tb [c])=Lib.index l [c]:=by
  show Lib.index l.toArray.toList [c].toArray.toList=_
  rw[List.toList_toArray,List.toList_toArray]
theorem uW(c:UInt8):∀(n:Nat) (l:Tx),l.length≤n→Lib.splitB (tb [c]) 0 (Lib.countB (tb l) (tb [c])) (tb l)=(ay c l).map tb∧(ay c l).length=Lib.countB (tb l) (tb [c])+1:=by
  intro n
  induction n with
  | zero=>
    intro l hl
    have:l=[]:=List.eq_nil_of_length_eq_zero (by omega)
    subst this
    have hi:Lib.indexB (tb []) (tb [c]) = -1:=by rw[jy];exact vT [] c (by simp)
    rw[Lib.countB_miss _ _ hi]
    exact⟨rfl,rfl⟩
  | succ n ih=>
    intro l hl
    by_cases hc:c∈l
    · obtain⟨a,b,rfl,ha⟩:=qR c l hc
      have hi:Lib.indexB (tb (a++c::b)) (tb [c])=(a.length:Int):=by rw[jy];exact uS a b c ha
      have e2:(tb (a++c::b)).extract (a.length+1) (tb (a++c::b)).size=tb b:=by
        apply ByteArray.ext;simp[tb,ByteArray.data_extract,ByteArray.size];exact List.take_of_length_le (by omega)
      have e1:(tb (a++c::b)).extract 0 a.length=tb a:=by
        apply ByteArray.ext;simp[tb,ByteArray.data_extract]
      have hs:(tb [c]).size=1:=rfl
      have hk:=Lib.countB_hit _ _ a.length (by rw[hs];exact Nat.le_refl _) hi
      rw[hs,e2]at hk
      obtain⟨q1,q2⟩:=ih b (by simp at hl;omega)
      rw[hk,Nat.add_comm 1,Lib.splitB,hi,if_neg (by simp)]
      simp only[Int.toNat_natCast,Nat.add_zero,e1,hs,e2,q1,kY c a b ha,List.map_cons,List.length_cons,q2]
      first|exact⟨trivial,by omega⟩|exact⟨rfl,by omega⟩|trivial
    · have hi:Lib.indexB (tb l) (tb [c]) = -1:=by rw[jy];exact vT l c hc
      rw[Lib.countB_miss _ _ hi,nQ c l hc]
      exact⟨rfl,rfl⟩
theorem uZ(hΓ:fP Γ)(l:Tx)(hl:l.length≤4000)(c:UInt8)(h:AH):T Tryz.prog Γ Fn.IA [.str (tb l),.str (tb [c])] h fun v h'=>v=.vs false 1 false ((ay c l).map fun w=>[.str (tb w)])∧h'=h:=by
  obtain⟨q1,q2⟩:=uW c l.length l (Nat.le_refl _)
  have:=yB hΓ (tb l) (tb [c]) (by rw[cK];omega) (Nat.le_refl _) q1 (by rw[List.length_map,q2]) h
  simp only[fa,pG]at this
  exact this
end Go.Proofs.YtkepagpkphgpeaaGreatDoor
namespace Go.Proofs.YtkepagpkphgpeaaGreatDoor
open Go.AM
variable {Γ:aZ}
theorem vN(x:aW)(j:Nat)(h0:1≤j)(h1:j≤4)(n:Int):over (aV x) j [.int .i64 n]=aV (x.set j n):=by
  have:j=1∨j=2∨j=3∨j=4:=by omega
  rcases this with rfl|rfl|rfl|rfl<;>rfl
theorem pe(e:List AV)(L:List (List AV))(h M:AH)(cs vs:List AV)(off:Nat)(h1:off+vs.length≤cs.length)(h2:vs.all aK=true):(St.mk e L ((h++[some (0,cs)])++M)).store (.gp h.length 0 off) vs=some ⟨e,L,(h++[some (0,over cs off vs)])++M⟩:=by
  have hg:aS ((h++[some (0,cs)])++M) h.length=some (0,cs):=by simp[aS]
  simp only[St.store,hg,Option.bind_some,if_true,if_pos h1,h2]
  simp
theorem xy(e:List AV)(L:List (List AV))(h M:AH)(cs:List AV)(off n:Nat):(St.mk e L ((h++[some (0,cs)])++M)).cells (.gp h.length 0 off) n=sub cs off n:=by
  have hg:aS ((h++[some (0,cs)])++M) h.length=some (0,cs):=by simp[aS]
  rw[eN hg]
theorem xY(e:List AV)(L:List (List AV))(h M N:AH)(cs:List AV)(off n:Nat):(St.mk e L (((h++[some (0,cs)])++M)++N)).cells (.gp h.length 0 off) n=sub cs off n:=by
  rw[List.append_assoc (h++[some (0,cs)])];exact xy _ _ _ _ _ _ _
theorem DF(gl:Bool)(s:St)(k:SK)(x:X):AM.step Γ gl s (.slice k x none none none)=.cZ s (db k (s.eval Γ x) 0 none none):=rfl
theorem CR(t:TypeId)(p:Value):bg .neq .iface (.opq (.iface t p)) (.opq .nilIface)=some (.bool true):=rfl
theorem Cv:bg .neq .iface (.opq .nilIface) (.opq .nilIface)=some (.bool false):=rfl
set_option maxHeartbeats 32000000 in
set_option maxRecDepth 100000 in
theorem DI(hΓ:fP Γ){s:Tx}(hs:s∈bc)(h:AH):T Tryz.prog Γ Fn.I7 [.str (tb s)] h fun v h'=>v=.tup [.agg (aV (aX s)),.bool true]∧h'=h:=by
  obtain⟨k1,k2,k3,k4,k5,k6,k7,k8,k9,k10,k11,k12⟩:=fc hs
  have c1:=List.all_eq_true.1 yl s hs
  simp only[Bool.and_eq_true,decide_eq_true_eq,List.all_eq_true,List.mem_range]at c1
  obtain⟨o1,o2,o3,o4,o5⟩:=c1
  have c2:=List.all_eq_true.1 x7 s hs
  simp only[Bool.and_eq_true,decide_eq_true_eq,List.all_eq_true,List.mem_range]at c2
  obtain⟨t1,t2,t3,t4,t5⟩:=c2
  have c3:=List.all_eq_true.1 tT s hs
  simp only[List.all_eq_true]at c3
  have hsp:=fun h=>uZ hΓ s (by omega) 32 h
  have hne:=gY 32 s
  have hfi:=fun h=>ET hΓ hs h
  have i00:bN 1 (.vs false 1 false ((ay 32 s).map fun w=>[.str (tb w)])) 0=some (.ip false [.str (tb ((ay 32 s).headD []))]):=by
    cases hw:ay 32 s with
    | nil=>exact absurd hw hne
    | cons a l=>rfl
  have cf:∀S:St,cutFrom (.sl 1) S (.vs false 1 false ((ay 32 s).map fun w=>[.str (tb w)])) (.int .i64 1)=.val (.vs false 1 false ((ay 32 s).tail.map fun w=>[.str (tb w)])) S:=fun S=>by
    have hl:1≤(ay 32 s).length:=by
      cases hw:ay 32 s with
      | nil=>exact absurd hw hne
      | cons a l=>simp
    have:=xi S false 1 (ay 32 s) (fun w=>[AV.str (tb w)]) hl
    rw[List.drop_one]at this
    exact this
  have hg:∀s:St,s.eval Γ (.g Gn.g0)=.ip false (opsL.map AV.str):=fun s=>by
    show(match Γ 0 with|some cs=>AV.ip false cs|none=>.any)=_
    rw[hΓ.ops]
  have asl:db (.arr 11) (.ip false (opsL.map AV.str)) 0 none none=some (.vs false 1 true (opsL.map fun n=>[.str n])):=by
    simp[db,opsL]
  have hix:=fun h=>pf (Γ:=Γ) opsL (by decide) (tb ((ay 32 s).headD [])) (i:=hO ((ay 32 s).headD [])) (by show _<11;omega) (by simpa[opsL]using congrArg tb o1) (fun k hk e=>o2 k hk (by
    have e':tb (fU k)=tb ((ay 32 s).headD []):=by simpa[opsL]using e
    exact qj e')) h
  have ot:bF (AV.vs false 1 false ((ay 32 s).map fun w=>[.str (tb w)]))=true:=rfl
  have ot2:bF (AV.vs false 1 true (opsL.map fun n=>[.str n]))=true:=rfl
  have mmx:CS true [.int .i64 (hO ((ay 32 s).headD []):Int),.int .i64 0]=some (.int .i64 (eZ s)):=by
    rw[Db];congr 2;unfold eZ;omega
  have hopw:1≤eZ s∧eZ s≤10:=by unfold eZ;omega
  have rp_3:∀z:AV,(List.replicate 3 [z]).flatten=[z,z,z]:=fun z=>rfl
  have rp_4:∀z:AV,(List.replicate 4 [z]).flatten=[z,z,z,z]:=fun z=>rfl
  have ngp:∀b g o,aK (.gp b g o)=true:=fun _ _ _=>rfl
  have q32:(⟨#[32]⟩:ByteArray)=tb [32]:=rfl
  have q0:(⟨#[]⟩:ByteArray)=tb []:=rfl
  have al:=fun(S:St)=>pD S _ (show List.all (aV ⟨0,0,0,0,0,[]⟩) aK=true from rfl)
  have sto:∀(e:List AV) (L:List (List AV)),(St.mk e L (h++[some (0,aV ⟨0,0,0,0,0,[]⟩)])).store (.gp h.length 0 0) (aV ⟨eZ s,0,0,0,0,[]⟩)=some ⟨e,L,h++[some (0,aV ⟨eZ s,0,0,0,0,[]⟩)]⟩:=fun e L=>by
    rw[iq (by simp[aV]) rfl];rfl
  generalize hws:(ay 32 s).map (fun w=>[AV.str (tb w)])=wv at *
  generalize hov:opsL.map (fun n=>[AV.str n])=ov at *
  refine T.frozen (rs:=[.a (v7 (aX s)),.c (.b true)]) (T.ye rfl ?_) |>.mono fun v h'=>?_
  rotate_left
  · rintro⟨e1,e2⟩
    exact⟨e1,e2⟩
  refine Ga (ax aB mixed [5] _ _ _ ?_)
  unfold zr
  simp only[EZ,ag,Nat.reduceAdd,Nat.reduceBEq,dQ,bZ,EB,aT,q32]
  refine an.val (by simp only[EO]) (hsp _) ?_
  simp only[aV]at al sto
  simp only[EZ,ag,Nat.reduceAdd,Nat.reduceBEq,dQ,bZ,EB,aT]
  unfold wZ
  obtain⟨Rz,hRz⟩:∃R:St→Prop,R=fun zst=>∃g:Nat→AV,zst=⟨(List.range 98).map g,([]:List (List AV))++[aV ⟨0,0,0,0,0,[]⟩],h++[some (0,aV ⟨eZ s,0,0,0,0,[]⟩)]⟩∧(g 0=.str (tb s)∧g 2=(.lp ([]:List (List AV)).length 0)∧g 4=.vs false 1 false wv∧g 5=.gp h.length 0 0):=⟨_,rfl⟩
  refine Dj Rz ?_ ?_
  · simp only[EZ,ag,Nat.reduceAdd,Nat.reduceBEq,dQ,bZ,EB,aT,DF,hg,asl,i00,r7]
    refine⟨?_,?_⟩
    · refine an.val (by simp only[EO,ot2]) (hix _) ?_
      simp only[EZ,ag,Nat.reduceAdd,Nat.reduceBEq,dQ,bZ,EB,aT,EA,GM,mmx,b8,fY,gb,gh,q0,al,eG,sto,r7]
      (rw[hRz];exact⟨sg _,wR rfl,⟨rfl,rfl,rfl,rfl⟩⟩)
    · simp only[EZ,ag,Nat.reduceAdd,Nat.reduceBEq,dQ,bZ,EB,aT,EA,q0,al,eG,r7]
      refine an.val (by simp only[EO,ot2]) (hix _) ?_
      simp only[EZ,ag,Nat.reduceAdd,Nat.reduceBEq,dQ,bZ,EB,aT,EA,GM,mmx,b8,fY,gb,gh,q0,al,eG,sto,r7]
      (rw[hRz];exact⟨sg _,wR rfl,⟨rfl,rfl,rfl,rfl⟩⟩)
  intro zst hzst
  rw[hRz]at hzst
  clear hRz
  obtain⟨g,rfl,⟨eg0,eg2,eg4,eg5⟩⟩:=hzst
  rw[show(List.range 98).map g=g 0::g 1::g 2::g 3::g 4::g 5::g 6::g 7::g 8::g 9::g 10::g 11::g 12::g 13::g 14::g 15::g 16::g 17::g 18::g 19::g 20::g 21::g 22::g 23::g 24::g 25::g 26::g 27::g 28::g 29::g 30::g 31::g 32::g 33::g 34::g 35::g 36::g 37::g 38::g 39::g 40::g 41::g 42::g 43::g 44::g 45::g 46::g 47::g 48::g 49::g 50::g 51::g 52::g 53::g 54::g 55::g 56::g 57::g 58::g 59::g 60::g 61::g 62::g 63::g 64::g 65::g 66::g 67::g 68::g 69::g 70::g 71::g 72::g 73::g 74::g 75::g 76::g 77::g 78::g 79::g 80::g 81::g 82::g 83::g 84::g 85::g 86::g 87::g 88::g 89::g 90::g 91::g 92::g 93::g 94::g 95::g 96::g 97::[] from rfl]
  simp only[eg0,eg2,eg4,eg5]
  clear al sto hix asl hg mmx
  obtain⟨R2,hR2⟩:∃R:St→Prop,R=fun zst=>∃fb M,∃g:Nat→AV,zst=⟨(List.range 98).map g,([]:List (List AV))++[aV ⟨0,0,0,0,0,[]⟩],(h++[some (0,aV (fv s))])++M⟩∧(g 0=.str (tb s)∧g 2=(.lp ([]:List (List AV)).length 0)∧g 4=.vs false 1 false wv∧g 5=.gp h.length 0 0∧g 6=.gs fb 0 0 (cc (eZ s)).length (cc (eZ s)).length 1 true)∧aS ((h++[some (0,aV (fv s))])++M) fb=some (0,(cc (eZ s)).map fun j=>AV.gp h.length 0 j)∧h.length<fb:=⟨_,rfl⟩
  have cb:=fun e L M cs off n=>xy e L h M cs off n
  have cb2:=fun e L M N cs off n=>xY e L h M N cs off n
  have sb3:∀e L M (a b c d f n:AV) (v:Int),(St.mk e L ((h++[some (0,[a,b,c,d,f,n])])++M)).store (.gp h.length 0 3) [.int .i64 v]=some ⟨e,L,(h++[some (0,[a,b,c,.int .i64 v,f,n])])++M⟩:=fun e L M a b c d f n v=>pe e L h M _ [.int .i64 v] 3 (by simp) rfl
  have sb4:∀e L M (a b c d f n:AV) (v:Int),(St.mk e L ((h++[some (0,[a,b,c,d,f,n])])++M)).store (.gp h.length 0 4) [.int .i64 v]=some ⟨e,L,(h++[some (0,[a,b,c,d,.int .i64 v,n])])++M⟩:=fun e L M a b c d f n v=>pe e L h M _ [.int .i64 v] 4 (by simp) rfl
  refine yY R2 ?_ ?_
  · by_cases e6:eZ s=6
    · have eS:fv s=⟨eZ s,0,0,-1,-1,[]⟩:=by unfold fv;rw[if_pos (.inl e6)]
      have eF:cc (eZ s)=[1,2,3,4]:=by unfold cc;rw[if_neg (by omega),if_pos e6]
      rw[eS,eF]at hR2
      have n7:¬eZ s=7:=by omega
      simp only[EZ,ag,Nat.reduceAdd,Nat.reduceBEq,dQ,bZ,EB,aT,EA,ngp,rp_3,rp_4,eG,cb,cb2,sb3,sb4,aV,ak,aq,decide_eq_true e6,decide_eq_false n7,r7]
      rw[List.append_assoc (h++[some (0,[AV.int .i64 (eZ s),AV.int .i64 0,AV.int .i64 0,AV.int .i64 (-1),AV.int .i64 (-1),AV.str (tb [])])])]
      (rw[hR2];exact⟨_,_,sg _,wR rfl,⟨rfl,rfl,rfl,rfl,rfl⟩,by simp[aS,aV],by simp⟩)
    · by_cases e7:eZ s=7
      · have eS:fv s=⟨eZ s,0,0,-1,-1,[]⟩:=by unfold fv;rw[if_pos (.inr e7)]
        have eF:cc (eZ s)=[1,3,4]:=by unfold cc;rw[if_pos e7]
        rw[eS,eF]at hR2
        simp only[EZ,ag,Nat.reduceAdd,Nat.reduceBEq,dQ,bZ,EB,aT,EA,ngp,rp_3,rp_4,eG,cb,cb2,sb3,sb4,aV,ak,aq,decide_eq_false e6,decide_eq_true e7,r7]
        rw[List.append_assoc (h++[some (0,[AV.int .i64 (eZ s),AV.int .i64 0,AV.int .i64 0,AV.int .i64 (-1),AV.int .i64 (-1),AV.str (tb [])])]),List.append_assoc (h++[some (0,[AV.int .i64 (eZ s),AV.int .i64 0,AV.int .i64 0,AV.int .i64 (-1),AV.int .i64 (-1),AV.str (tb [])])])]
        (rw[hR2];exact⟨_,_,sg _,wR rfl,⟨rfl,rfl,rfl,rfl,rfl⟩,by simp[aS,aV],by simp⟩)
      · have eS:fv s=⟨eZ s,0,0,0,0,[]⟩:=by unfold fv;rw[if_neg (by omega)]
        have eF:cc (eZ s)=[1,2,3]:=by unfold cc;rw[if_neg e7,if_neg e6]
        rw[eS,eF]at hR2
        simp only[EZ,ag,Nat.reduceAdd,Nat.reduceBEq,dQ,bZ,EB,aT,EA,ngp,rp_3,rp_4,eG,cb,cb2,sb3,sb4,aV,ak,aq,decide_eq_false e6,decide_eq_false e7,r7]
        (rw[hR2];exact⟨_,_,sg _,wR rfl,⟨rfl,rfl,rfl,rfl,rfl⟩,by simp[aS,aV],by simp⟩)
  intro zst hzst
  rw[hR2]at hzst
  clear hR2
  obtain⟨fb,M,g,rfl,⟨eg0,eg2,eg4,eg5,eg6⟩,hfb,hfl⟩:=hzst
  rw[show(List.range 98).map g=g 0::g 1::g 2::g 3::g 4::g 5::g 6::g 7::g 8::g 9::g 10::g 11::g 12::g 13::g 14::g 15::g 16::g 17::g 18::g 19::g 20::g 21::g 22::g 23::g 24::g 25::g 26::g 27::g 28::g 29::g 30::g 31::g 32::g 33::g 34::g 35::g 36::g 37::g 38::g 39::g 40::g 41::g 42::g 43::g 44::g 45::g 46::g 47::g 48::g 49::g 50::g 51::g 52::g 53::g 54::g 55::g 56::g 57::g 58::g 59::g 60::g 61::g 62::g 63::g 64::g 65::g 66::g 67::g 68::g 69::g 70::g 71::g 72::g 73::g 74::g 75::g 76::g 77::g 78::g 79::g 80::g 81::g 82::g 83::g 84::g 85::g 86::g 87::g 88::g 89::g 90::g 91::g 92::g 93::g 94::g 95::g 96::g 97::[] from rfl]
  simp only[eg0,eg2,eg4,eg5,eg6]
  have hfx:∀x:aW,aS ((h++[some (0,aV x)])++M) fb=some (0,(cc (eZ s)).map fun j=>AV.gp h.length 0 j):=fun x=>by
    rw[←hfb]
    unfold aS
    rw[List.getElem?_append_right (by simp;omega),List.getElem?_append_right (by simp;omega)]
    simp
  obtain⟨wt,hwt⟩:∃wt,wt=(ay 32 s).tail:=⟨_,rfl⟩
  have c3':∀w∈wt,pM w=true:=fun w hw=>c3 w (List.mem_of_mem_tail (hwt▸hw))
  have k12':∀w∈wt,w.length≤1000:=fun w hw=>by
    have:=List.all_eq_true.1 yZ s hs
    simp only[Bool.and_eq_true,List.all_eq_true,decide_eq_true_eq]at this
    have:=(this.2 w (List.mem_of_mem_tail (hwt▸hw))).2
    omega
  have wl:wt.length≤10:=by rw[hwt,List.length_tail];omega
  have ssucc:∀i,(hi:i<wt.length)→jL s (i+1)=tw (cc (eZ s)) (jL s i) wt[i]:=fun i hi=>by
    subst hwt;exact vg hi
  have okk:∀i,(hi:i<wt.length)→okW (cc (eZ s)) (jL s i) wt[i]=true∧(jL s i).2≤i:=fun i hi=>by
    have:=t5 i (hwt▸hi)
    rw[←hwt,List.getD_eq_getElem?_getD,List.getElem?_eq_getElem hi]at this
    exact this
  rw[←hwt]at cf t1
  have L1:=cr false 1 false wt fun w=>[AV.str (tb w)]
  have j0:=fun k (hk:k<wt.length)=>ct (β:=false) (sz:=1) (ex:=false) (l:=wt) (ce:=fun w=>[AV.str (tb w)]) (k:=k) hk
  generalize hwx:AV.vs false 1 false (wt.map fun w=>[AV.str (tb w)])=wx at *
  have s00:jL s 0=(fv s,0):=rfl
  simp only[EZ,ag,Nat.reduceAdd,Nat.reduceBEq,dQ,bZ,EB,aT,gT,cf,L1]
  refine bU aB mixed [5] (fun i:Nat=>i≤wt.length) (fun i=>wt.length-i)
    (fun i=>fZ (.str (tb s)) (.lp ([]:List (List AV)).length 0) (.gp h.length 0 0) (.gs fb 0 0 (cc (eZ s)).length (cc (eZ s)).length 1 true) (.int .i64 (jL s i).2) wx (.int .i64 wt.length) (.int .i64 i) (([]:List (List AV))++[aV ⟨0,0,0,0,0,[]⟩]) ((h++[some (0,aV (jL s i).1)])++M)) 0 (by omega) ⟨by simp[fZ,cG,cI,s00],rfl,rfl⟩ ?_
  rintro i hi
  simp only[EZ,ag,Nat.reduceAdd,Nat.reduceBEq,dQ,bZ,fZ,EB]
  refine aR (fun hlt=>?_) (fun hge=>?_)
  rotate_left
  · have hii:i=wt.length:=by simp at hge;omega
    subst hii
    rw[t1]
    simp only[aV]at hfi ⊢
    have sto6:∀(e:List AV) (H:AH),(St.mk e (([]:List (List AV))++[[AV.int .i64 0,.int .i64 0,.int .i64 0,.int .i64 0,.int .i64 0,.str (tb [])]]) H).store (.lp ([]:List (List AV)).length 0) [.int .i64 (aX s).op,.int .i64 (aX s).a,.int .i64 (aX s).b,.int .i64 (aX s).c,.int .i64 (aX s).d,.str (tb (aX s).name)]=some ⟨e,([]:List (List AV))++[[.int .i64 (aX s).op,.int .i64 (aX s).a,.int .i64 (aX s).b,.int .i64 (aX s).c,.int .i64 (aX s).d,.str (tb (aX s).name)]],H⟩:=fun e H=>rfl
    simp only[EZ,ag,Nat.reduceAdd,Nat.reduceBEq,dQ,bZ,EB,cb]
    refine an.val (by simp only[EO]) (hfi _) ?_
    simp only[EZ,ag,Nat.reduceAdd,Nat.reduceBEq,dQ,bZ,EB,aT,ER,cb,aQ,decide_true,q0,qL,decide_eq_false o3,sto6]
    exact⟨rfl,_,_,[],rfl,List.append_assoc _ _ _,show aJ _ (aV (aX s)) (v7 (aX s)) [] from .i (.i (.i (.i (.i (.s .nil))))),by simp,by simp⟩
  have hlt:i<wt.length:=by simpa using hlt
  have j1:=j0 i hlt
  have hat:=fun h=>E1 hΓ (k12' _ (List.getElem_mem hlt)) (c3' _ (List.getElem_mem hlt)) h
  obtain⟨ok,k2i⟩:=okk i hlt
  have hsu:=ssucc i hlt
  simp only[EZ,ag,Nat.reduceAdd,Nat.reduceBEq,dQ,bZ,EB,j1]
  refine an.ref (by simp only[EO]) (hat _) ?_
  rintro v h' ⟨hv,rfl⟩
  unfold okW at ok
  unfold tw at hsu
  cases hn:jD wt[i]with
  | none=>
    rw[hn]at hv ok hsu
    simp only[decide_eq_true_eq]at hv ok hsu
    obtain⟨x,t,p,rfl⟩:=hv
    have sn:∀e L,(St.mk e L ((h++[some (0,aV (jL s i).1)])++M)).store (.gp h.length 0 5) [.str (tb wt[i])]=some ⟨e,L,(h++[some (0,aV { (jL s i).1 with name:=wt[i] })])++M⟩:=fun e L=>pe e L h M _ [.str (tb wt[i])] 5 (by simp[aV]) rfl
    have ld5:sub (aV (jL s i).1) 5 1=some [.str (tb [])]:=by rw[←ok];rfl
    simp only[EZ,ag,Nat.reduceAdd,Nat.reduceBEq,dQ,bZ,EB,aT,ER,CR,cb,ld5,q0,aQ,decide_true,sn]
    exact⟨i+1,hlt,by omega,⟨by rw[wN (by omega),hsu];simp[fZ,cG,cI],by simp[fZ,cG],by simp only[fZ,hsu]⟩⟩
  | some n=>
    rw[hn]at hv ok hsu
    simp only[decide_eq_true_eq]at hv ok hsu
    subst hv
    obtain⟨f1,f2⟩:=xF ok
    have nk:¬(((jL s i).2:Nat):Int)=(((cc (eZ s)).length:Nat):Int):=by omega
    have lf:gq false (.gs fb 0 0 (cc (eZ s)).length (cc (eZ s)).length 1 true)=some (.int .i64 (cc (eZ s)).length):=rfl
    have ix:bN 1 (.gs fb 0 0 (cc (eZ s)).length (cc (eZ s)).length 1 true) (((jL s i).2:Nat):Int)=some (.gp fb 0 (jL s i).2):=by rw[fW ok,Nat.zero_add,Nat.mul_one]
    have ldp:∀(e:List AV) (L:List (List AV)),(St.mk e L ((h++[some (0,aV (jL s i).1)])++M)).cells (.gp fb 0 (jL s i).2) 1=some [.gp h.length 0 ((cc (eZ s)).getD (jL s i).2 0)]:=fun e L=>by
      rw[eN (hfx _)]
      simp only[sub]
      rw[if_pos (by simp;omega),List.drop_eq_getElem_cons (by simpa using ok),List.getD_eq_getElem?_getD,List.getElem?_eq_getElem ok]
      simp
    have sn:∀e L,(St.mk e L ((h++[some (0,aV (jL s i).1)])++M)).store (.gp h.length 0 ((cc (eZ s)).getD (jL s i).2 0)) [.int .i64 (n:Int)]=some ⟨e,L,(h++[some (0,aV ((jL s i).1.set ((cc (eZ s)).getD (jL s i).2 0) n))])++M⟩:=fun e L=>by
      rw[←vN _ _ f1 f2]
      exact pe e L h M _ _ _ (show(cc (eZ s)).getD (jL s i).2 0+1≤6 by omega) rfl
    simp only[EZ,ag,Nat.reduceAdd,Nat.reduceBEq,dQ,bZ,EB,aT,ER,Cv,lf,ak,decide_eq_false nk,ix,ldp,sn]
    exact⟨i+1,hlt,by omega,⟨by rw[wN (by omega),wN (by omega),hsu];simp[fZ,cG,cI],by simp[fZ,cG],by simp only[fZ,hsu]⟩⟩
end Go.Proofs.YtkepagpkphgpeaaGreatDoor
namespace Go.Proofs.YtkepagpkphgpeaaGreatDoor
open Go.AM
variable {Γ:aZ}
theorem F9{l:List aC}(hl:l.length≤1000)(nm:Tx){H:AH}{v:AV}{fp:List Nat}(a:vz H v l fp):
    ∃v' H',(∀e L,mP ⟨e,L,H++[some (0,[.str (tb nm),.nils])]⟩ 2 40 v (cB ⟨e,L,H++[some (0,[.str (tb nm),.nils])]⟩ 2 false (.gs H.length 0 0 1 1 2 true)) (lenOf (.gs H.length 0 0 1 1 2 true)) (lenOf v)=.val v' ⟨e,L,H'⟩)∧l8 H fp H' v' (l++[⟨nm,[]⟩]):=by
  obtain⟨o,nd⟩:=a
  obtain⟨v',H',fp',ea,o',nd',hf',hl',hm'⟩:=fk (bytes:=40) o (ys:=[.str (tb nm),.nils]) (row:=uM ⟨nm,[]⟩) (f2:=[]) (by simpa using nd) (by omega) rfl
    (show aJ H _ [.s _,.sl 2 []] ([]++[]) from .s (.o (.nil _) .nil)) (by simp only[List.length_map,bk];omega)
  refine⟨v',H',ea,fp',⟨by rw[List.map_append];exact o',nd'⟩,hl',fun c h1 h2=>hf' c h2 h1,fun c hc=>?_⟩
  rcases hm' c hc with q|q|q
  · exact .inl q
  · cases q
  · exact .inr q
theorem FH{l:List aC}{n:Nat}(hn:l.length=n+1){s:aC}(hs:l[n]'(by omega)=s)(hm:s.methods.length≤1000)(nm:Tx){H:AH}{v:AV}{fp:List Nat}(a:vz H v l fp):
    ∃b g p wm v' H' H2,bN 2 v (n:Int)=some (.gp b g p)∧(∀(e:List AV) (L:List (List AV)),(St.mk e L H).cells (.gp b g (p+1)) 1=some [wm])∧cellsOf wm=some [wm]∧bC wm=true∧aK wm=true∧
      (∀e L,mP ⟨e,L,H++[some (0,[.str (tb nm),.nils])]⟩ 2 40 wm (cB ⟨e,L,H++[some (0,[.str (tb nm),.nils])]⟩ 2 false (.gs H.length 0 0 1 1 2 true)) (lenOf (.gs H.length 0 0 1 1 2 true)) (lenOf wm)=.val v' ⟨e,L,H'⟩)∧
      cellsOf v'=some [v']∧bC v'=true∧aK v'=true∧(∀(e:List AV) (L:List (List AV)),(St.mk e L H').store (.gp b g (p+1)) [v']=some ⟨e,L,H2⟩)∧l8 H fp H2 v (l.set n ⟨s.name,s.methods++[⟨nm,[]⟩]⟩):=by
  obtain⟨o,nd⟩:=a
  obtain⟨b,g,p,wm,f,iR,_,_,rdm,om,nf,sf,bm,bn,_,close⟩:=o.gR nd (k:=n) (by rw[List.length_map];omega) (nm:=tb s.name) (sz:=2) (ys:=s.methods.map sX) (by rw[List.getElem_map,hs];rfl)
  obtain⟨v',H',fp',ea,o',nd',hf',hl',hm'⟩:=fk (bytes:=40) om (ys:=[.str (tb nm),.nils]) (row:=sX ⟨nm,[]⟩) (f2:=[]) (by simpa using nf) (by omega) rfl
    (show aJ H _ [.s _,.sl 6 []] ([]++[]) from .s (.o (.nil _) .nil)) (by simp only[List.length_map,bk];omega)
  have hm2:∀c∈fp',c∈f∨H.length≤c:=fun c hc=>by
    rcases hm' c hc with q|q|q
    · exact .inl q
    · cases q
    · exact .inr q
  obtain⟨H2,fp2,st,l2,r2,oF,nF,mF⟩:=close H' v' _ fp' hl' o' nd' hm2 (fun c h1 h2=>hf' c h2 h1)
  obtain⟨m1,m2,m3,m4⟩:=om.cell
  obtain⟨n1,n2,n3,n4⟩:=o'.cell
  refine⟨b,g,p,wm,v',H',H2,iR,fun e L=>rdm H rfl e L,m1,m2,m3,ea,n1,n2,n3,st,fp2,⟨by rw[gE,List.map_append];exact oF,nF⟩,by omega,fun c h1 h2=>?_,mF⟩
  rw[r2 c (fun e=>h2 (e▸bm)),hf' c (fun h=>h2 (sf c h)) h1]
theorem Hd{l:List aC}{n:Nat}(hn:l.length=n+1){s:aC}(hs:l[n]'(by omega)=s){k:Nat}(hk:s.methods.length=k+1)(hm:s.methods.length≤1000){m:bA}(hm1:s.methods[k]'(by omega)=m)(hmc:m.code.length≤1000)(x:aW){H:AH}{v:AV}{fp:List Nat}(a:vz H v l fp):
    ∃b g p wm b2 g2 p2 wc v' H' H2,bN 2 v (n:Int)=some (.gp b g p)∧(∀(e:List AV) (L:List (List AV)),(St.mk e L H).cells (.gp b g (p+1)) 1=some [wm])∧gq false wm=some (.int .i64 ((k+1:Nat):Int))∧cellsOf wm=some [wm]∧bC wm=true∧aK wm=true∧
      bN 2 wm (k:Int)=some (.gp b2 g2 p2)∧(∀(e:List AV) (L:List (List AV)),(St.mk e L H).cells (.gp b2 g2 (p2+1)) 1=some [wc])∧cellsOf wc=some [wc]∧bC wc=true∧aK wc=true∧
      (∀e L,mP ⟨e,L,H++[some (0,aV x)]⟩ 6 56 wc (cB ⟨e,L,H++[some (0,aV x)]⟩ 6 false (.gs H.length 0 0 1 1 6 true)) (lenOf (.gs H.length 0 0 1 1 6 true)) (lenOf wc)=.val v' ⟨e,L,H'⟩)∧
      cellsOf v'=some [v']∧bC v'=true∧aK v'=true∧(∀(e:List AV) (L:List (List AV)),(St.mk e L H').store (.gp b2 g2 (p2+1)) [v']=some ⟨e,L,H2⟩)∧l8 H fp H2 v (l.set n ⟨s.name,s.methods.set k ⟨m.name,m.code++[x]⟩⟩):=by
  obtain⟨o,nd⟩:=a
  obtain⟨b,g,p,wm,f,iR,_,_,rdm,om,nf,sf,bm,bn,closeR,_⟩:=o.gR nd (k:=n) (by rw[List.length_map];omega) (nm:=tb s.name) (sz:=2) (ys:=s.methods.map sX) (by rw[List.getElem_map,hs];rfl)
  have L1:=(gW om).2
  rw[List.length_map,hk]at L1
  obtain⟨b2,g2,p2,wc,f2,iC,_,_,rdc,oc,nc,sc,bmc,bnc,_,closeC⟩:=om.gR nf (k:=k) (by rw[List.length_map];omega) (nm:=tb m.name) (sz:=6) (ys:=m.code.map v7) (by rw[List.getElem_map,hm1];rfl)
  obtain⟨v',H',fp',ea,o',nd',hf',hl',hm'⟩:=fk (bytes:=56) oc (ys:=aV x) (row:=v7 x) (f2:=[]) (by simpa using nc) (by omega) rfl
    (show aJ H (aV x) (v7 x) [] from .i (.i (.i (.i (.i (.s .nil)))))) (by simp only[List.length_map,bk];omega)
  have hm2:∀c∈fp',c∈f2∨H.length≤c:=fun c hc=>by
    rcases hm' c hc with q|q|q
    · exact .inl q
    · cases q
    · exact .inr q
  obtain⟨H2,fp2,st,l2,r2,oF,nF,mF⟩:=closeC H' v' _ fp' hl' o' nd' hm2 (fun c h1 h2=>hf' c h2 h1)
  have fr2:∀c,c<H.length→c∉f→H2[c]? = H[c]?:=fun c h1 h2=>by
    rw[r2 c (fun e=>h2 (e▸bmc)),hf' c (fun h=>h2 (sc c h)) h1]
  obtain⟨fp3,oG,nG,mG⟩:=closeR H2 _ fp2 (by omega) oF nF mF fr2
  obtain⟨m1,m2,m3,m4⟩:=om.cell
  obtain⟨n1,n2,n3,n4⟩:=o'.cell
  obtain⟨k1,k2,k3,k4⟩:=oc.cell
  exact⟨b,g,p,wm,b2,g2,p2,wc,v',H',H2,iR,fun e L=>rdm H rfl e L,L1,m1,m2,m3,iC,fun e L=>rdc H rfl e L,k1,k2,k3,ea,n1,n2,n3,st,fp3,⟨by rw[gE,lU,List.map_append];exact oG,nG⟩,by omega,fun c h1 h2=>fr2 c h1 (fun h=>h2 (sf c h)),mG⟩
set_option maxHeartbeats 16000000 in
set_option maxRecDepth 10000 in
theorem GZ(hΓ:fP Γ)(hF:∀h,T Tryz.prog Γ Fn.Jh [.vs true 2 false (de.map (ae.c true))] h fun v h'=>v=.str (tb cD)∧h'=h)(h:AH):T Tryz.prog Γ Fn.Jb [.str (tb cD)] h (ca h [.c (.sl 2 (de.map ae.cd)),.c (.b true)]):=by
  have LT:=kC cD
  have ht:=ta
  have nt:¬((cD.length:Nat):Int)>4000:=by omega
  have hsp:=fun h=>uZ hΓ cD ht 10 h
  have L0:=cr false 1 false (ay 10 cD) fun w=>[AV.str (tb w)]
  rw[fQ]at L0
  have i0:∀k,k<bD→bN 1 (.vs false 1 false ((ay 10 cD).map fun w=>[AV.str (tb w)])) (k:Int)=some (.ip false [.str (tb (bQ k))]):=fun k hk=>by
    have hl:k<(ay 10 cD).length:=by rw[fQ];omega
    have e:=ct (β:=false) (sz:=1) (ex:=false) (l:=ay 10 cD) (ce:=fun w=>[AV.str (tb w)]) (k:=k) hl
    have e2:=rF k hk
    rw[List.getElem?_eq_getElem hl,Option.some.injEq]at e2
    rw[e,e2]
  have iL:bN 1 (.vs false 1 false ((ay 10 cD).map fun w=>[AV.str (tb w)])) ((bD:Nat):Int)=some (.ip false [.str (tb [])]):=by
    have hl:bD<(ay 10 cD).length:=by rw[fQ];omega
    have e:=ct (β:=false) (sz:=1) (ex:=false) (l:=ay 10 cD) (ce:=fun w=>[AV.str (tb w)]) (k:=bD) hl
    have e2:=uh
    rw[List.getElem?_eq_getElem hl,Option.some.injEq]at e2
    rw[e,e2]
  generalize e0:AV.vs false 1 false ((ay 10 cD).map fun w=>[AV.str (tb w)])=a0 at *
  have hn:=oE
  have q10:(⟨#[10]⟩:ByteArray)=tb [10]:=rfl
  have q1:(⟨#[115,99,114,105,112,116,32]⟩:ByteArray)=tb aM:=rfl
  have q2:(⟨#[109,101,116,104,111,100,32]⟩:ByteArray)=tb aN:=rfl
  have q0:(⟨#[]⟩:ByteArray)=tb []:=rfl
  refine T.tp rfl ?_
  refine Ff (ax aB mixed [] _ _ _ ?_)
  unfold zC
  simp only[EZ,ag,Nat.reduceAdd,Nat.reduceBEq,dF,bS,bR,EB,ER,EA,LT,decide_eq_false nt,q10]
  refine an.val (by simp only[EO]) (hsp _) ?_
  simp only[EZ,ag,Nat.reduceAdd,Nat.reduceBEq,dF,bS,bR,EB,ER,L0]
  refine bU aB mixed [] (fun x:Nat×AV×AH×List Nat×List (List AV)=>x.1≤bD+1∧vz x.2.2.1 x.2.1 (cR (min x.1 bD)) x.2.2.2.1∧(∀c∈x.2.2.2.1,h.length≤c)∧∃N,x.2.2.1=h++N) (fun x=>bD+1-x.1)
    (fun x=>iE (.str (tb cD)) x.2.1 a0 (.int .i64 (bD+1:Nat)) (.int .i64 x.1) x.2.2.2.2 x.2.2.1) (0,.gs h.length 0 0 0 0 2 true,h++[some (0,[])],[h.length],([]:List (List AV))) ⟨by omega,⟨lj h 2,by simp⟩,by simp,_,rfl⟩ ⟨by simp[iE,cG,cI],rfl,rfl⟩ ?_
  rintro⟨k,v,H,fp,L⟩ ⟨hk,la,hfp,M,hM⟩
  simp only at hk la hfp hM
  subst hM
  simp only[EZ,ag,Nat.reduceAdd,Nat.reduceBEq,dF,bS,bR,iE]
  refine aR (fun hlt=>?_) (fun hge=>?_)
  rotate_left
  · have hk:k=bD+1:=by simp at hge;omega
    subst hk
    rw[Nat.min_eq_right (by omega),rH]at la
    obtain⟨o,nd⟩:=la
    obtain⟨a1,a2,a3,a4⟩:=o.cell
    rw[xr]at o
    simp only[EZ,ag,Nat.reduceAdd,Nat.reduceBEq,dF,bS,bR,EB,ER]
    refine an.jB (by simp only[EO,a4]) (b6 (bM.jB (ae.cS true) o) dC) (fun h=>BQ true de ku (fun s hs=>(jg s hs).ok) h) (.bool _) ?_
    simp only[EZ,ag,Nat.reduceAdd,Nat.reduceBEq,dF,bS,bR,EB,ER]
    refine an.jB (by simp only[EO,a4]) (b6 (bM.jB (ae.cS true) o) dC) (fun h=>hF h) (.str _) ?_
    simp only[EZ,ag,Nat.reduceAdd,Nat.reduceBEq,dF,bS,bR,EB,aT,ER,aQ,decide_true]
    exact⟨by simp only[List.all_cons,List.all_nil,EO,a4,Bool.and_self],v,M,fp,rfl,rfl,o,nd,hfp⟩
  have hlt:k<bD+1:=by
    have:=of_decide_eq_true hlt
    omega
  obtain⟨a1,a2,a3,a4⟩:=la.1.cell
  by_cases hkl:k=bD
  · subst hkl
    have hcp:=fun h=>rN (Γ:=Γ) [] aM h
    rw[pre_nil,show Lib.trimPrefix [] aM=[]by unfold Lib.trimPrefix;rw[pre_nil];rfl]at hcp
    simp only[EZ,ag,Nat.reduceAdd,Nat.reduceBEq,dF,bS,bR,EB,ER,iL,q1]
    refine an.val (by simp only[EO]) (hcp _) ?_
    simp only[EZ,ag,Nat.reduceAdd,Nat.reduceBEq,dF,bS,bR,EB,aT,ER,q0,aQ,decide_true]
    exact⟨(bD+1,v,h++M,fp,L),⟨by omega,by simp only;rw[Nat.min_eq_right (by omega)];rw[Nat.min_eq_right (by omega)]at la;exact la,hfp,M,rfl⟩,by simp only;omega,⟨by rw[wN (by omega)];simp[iE,cG,cI],rfl,rfl⟩⟩
  have hkn:k<bD:=by omega
  rw[Nat.min_eq_left (by omega)]at la
  have mk1:min (k+1) bD=k+1:=Nat.min_eq_left (by omega)
  have i1:=i0 k hkn
  have ok:=wX hkn
  have op:Jg k=true:=List.all_eq_true.1 yb k (List.mem_range.2 hkn)
  have hS:=nC hkn
  unfold ID at ok
  unfold Jg at op
  unfold sV at hS
  simp only[Bool.and_eq_true,decide_eq_true_eq]at ok op
  obtain⟨h1,h2,h3⟩:=ok
  obtain⟨p1,p2⟩:=op
  have hcp:=fun h=>rN (Γ:=Γ) (bQ k) aM h
  have done:∀{v':AV} {H':AH} {e:List AV} {L':List (List AV)},l8 (h++M) fp H' v' (cR (k+1))→∃M' fp',H'=h++M'∧vz H' v' (cR (min (k+1) bD)) fp'∧∀c∈fp',h.length≤c:=fun{v' H' e L'} u=>by
    obtain⟨fp',la',hl',hf',hm'⟩:=u
    obtain⟨M',rfl⟩:=pS hl' (fun c h1 h2=>hf' c h2 h1) hfp
    exact⟨M',fp',rfl,by rw[mk1];exact la',fun c hc=>by
      rcases hm' c hc with q|q
      · exact hfp c q
      · simp at q;omega⟩
  by_cases c1:(bQ k).take 7=aM
  · rw[if_pos c1]at h3 p2 hS
    simp only[Bool.and_eq_true,decide_eq_true_eq]at p2
    rw[p2.1,p2.2]at hcp
    obtain⟨v',H',ea,u⟩:=F9 (by omega) ((bQ k).drop 7) la
    rw[←hS]at u
    obtain⟨M',fp',rfl,la',hfp'⟩:=done (e:=[]) (L':=[]) u
    simp only[EZ,ag,Nat.reduceAdd,Nat.reduceBEq,dF,bS,bR,EB,ER,i1,q1]
    refine an.val (by simp only[EO]) (hcp _) ?_
    simp only[EZ,ag,Nat.reduceAdd,Nat.reduceBEq,dF,bS,bR,EB,aT,EA,ER,b8,fY,gb,gh,ea]
    exact⟨(k+1,v',h++M',fp',L),⟨by omega,la',hfp',M',rfl⟩,by simp only;omega,⟨by rw[wN (by omega)];simp[iE,cG,cI],rfl,rfl⟩⟩
  rw[if_neg c1]at h3 p2 hS
  simp only[Bool.and_eq_true,decide_eq_true_eq,Bool.not_eq_true']at h3 p2
  obtain⟨h4,h5,h6⟩:=h3
  obtain⟨p3,p4⟩:=p2
  rw[p3,show Lib.trimPrefix (bQ k) aM=bQ k by unfold Lib.trimPrefix;rw[p3];rfl]at hcp
  have hcm:=fun h=>rN (Γ:=Γ) (bQ k) aN h
  have LO:=(gW la.1).2
  obtain⟨n,hn1⟩:∃n,(cR k).length=n+1:=⟨(cR k).length-1,by omega⟩
  have hw:=Ja hn1 (by omega)
  have hne0:¬((((cR k).map uM).length:Nat):Int)=0:=by rw[List.length_map];omega
  have eS:(cR k)[n]'(by omega)=cT (cR k):=by
    unfold cT;rw[List.getD_eq_getElem?_getD,show(cR k).length-1=n by omega,List.getElem?_eq_getElem (by omega)];rfl
  have en:(cR k).length-1=n:=by omega
  by_cases c2:(bQ k).take 7=aN
  · rw[if_pos c2]at h6 p4 hS
    simp only[Bool.and_eq_true,decide_eq_true_eq]at p4
    rw[p4.1,p4.2]at hcm
    obtain⟨b,g,p,wm,v',H',H2,iR,rd,m1,m2,m3,ea,n1,n2,n3,st,u⟩:=FH hn1 eS (by omega) ((bQ k).drop 7) la
    rw[en]at hS
    rw[←hS]at u
    obtain⟨M',fp',rfl,la',hfp'⟩:=done (e:=[]) (L':=[]) u
    simp only[EZ,ag,Nat.reduceAdd,Nat.reduceBEq,dF,bS,bR,EB,ER,i1,q1]
    refine an.val (by simp only[EO]) (hcp _) ?_
    simp only[EZ,ag,Nat.reduceAdd,Nat.reduceBEq,dF,bS,bR,EB,aT,ER,q0,aQ,qL,decide_eq_false p1,LO,ak,decide_eq_false hne0,hw,iR,q2]
    refine an.val (by simp only[EO]) (hcm _) ?_
    simp only[EZ,ag,Nat.reduceAdd,Nat.reduceBEq,dF,bS,bR,EB,aT,EA,ER,rd,m1,m2,m3,b8,fY,gb,gh,ea,n1,n2,n3,st]
    exact⟨(k+1,v,h++M',fp',L),⟨by omega,la',hfp',M',rfl⟩,by simp only;omega,⟨by rw[wN (by omega)];simp[iE,cG,cI],rfl,rfl⟩⟩
  rw[if_neg c2]at h6 p4 hS
  simp only[Bool.and_eq_true,decide_eq_true_eq,Bool.not_eq_true']at h6 p4
  obtain⟨h7,h8,h9⟩:=h6
  rw[p4,show Lib.trimPrefix (bQ k) aN=bQ k by unfold Lib.trimPrefix;rw[p4];rfl]at hcm
  obtain⟨j,hj1⟩:∃j,(cT (cR k)).methods.length=j+1:=⟨(cT (cR k)).methods.length-1,by omega⟩
  have eM:(cT (cR k)).methods[j]'(by omega)=lY (cT (cR k)):=by
    unfold lY;rw[List.getD_eq_getElem?_getD,show(cT (cR k)).methods.length-1=j by omega,List.getElem?_eq_getElem (by omega)];rfl
  have ej:(cT (cR k)).methods.length-1=j:=by omega
  obtain⟨b,g,p,wm,b2,g2,p2,wc,v',H',H2,iR,rd,lm,m1,m2,m3,iC,rd2,k1,k2,k3,ea,n1,n2,n3,st,u⟩:=Hd hn1 eS hj1 (by omega) eM (by omega) (aX (bQ k)) la
  rw[en,ej]at hS
  rw[←hS]at u
  obtain⟨M',fp',rfl,la',hfp'⟩:=done (e:=[]) (L':=[]) u
  have hp:=fun h=>DI hΓ h7 h
  have hw2:IntKind.i64.wrap (((j+1:Nat):Int)-1)=(j:Int):=IZ (by omega)
  have hj0:¬(((j+1:Nat):Int)=0):=by omega
  simp only[aV]at hp ea
  simp only[EZ,ag,Nat.reduceAdd,Nat.reduceBEq,dF,bS,bR,EB,ER,i1,q1]
  refine an.val (by simp only[EO]) (hcp _) ?_
  simp only[EZ,ag,Nat.reduceAdd,Nat.reduceBEq,dF,bS,bR,EB,aT,ER,q0,aQ,qL,decide_eq_false p1,LO,ak,decide_eq_false hne0,hw,iR,q2]
  refine an.val (by simp only[EO]) (hcm _) ?_
  simp only[EZ,ag,Nat.reduceAdd,Nat.reduceBEq,dF,bS,bR,EB,aT,EA,ER]
  refine an.val (by simp only[EO]) (hp _) ?_
  simp only[EZ,ag,Nat.reduceAdd,Nat.reduceBEq,dF,bS,bR,EB,aT,EA,ER,q0,rd,m1,m2,m3,lm,ak,decide_eq_false hj0,hw2,iC,rd2,k1,k2,k3,b8,fY,gb,gh,ea,n1,n2,n3,st]
  exact⟨(k+1,v,h++M',fp',_),⟨by omega,la',hfp',M',rfl⟩,by simp only;omega,⟨by rw[wN (by omega)];simp[iE,cG,cI],rfl,rfl⟩⟩
end Go.Proofs.YtkepagpkphgpeaaGreatDoor
