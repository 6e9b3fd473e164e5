import Derived.Test.YtdlbaonelfcahaaGreatDoorR6G16
import Derived.Test.YtdlbaonelfcahaaGreatDoorAmG11
set_option linter.unusedVariables false
set_option linter.unusedSimpArgs false
namespace Go.Proofs.YtdlbaonelfcahaaGreatDoor
open Go.AM
variable {Γ:bG}
theorem Wd.grow{h H:AH}{q:Nat}{ws:List ByteArray}{w:AV}{fp:List Nat}(W:Wd h H q ws w fp)(M:AH):Wd h (H++M) q ws w fp:=by
  obtain⟨box,own,nd,qf,fr,ql,N,hN⟩:=W
  refine⟨?_,own.grow,nd,qf,fr,ql,N++M,by rw[hN,List.append_assoc]⟩
  have:=dd box
  rw[dJ (List.getElem?_append_left this)];exact box
theorem Wd.lt{h H:AH}{q:Nat}{ws:List ByteArray}{w:AV}{fp:List Nat}(W:Wd h H q ws w fp):∀c∈fp,c<H.length:=W.own.lt
theorem Wd.vI{h H H':AH}{q:Nat}{ws:List ByteArray}{w:AV}{fp:List Nat}(W:Wd h H q ws w fp){b:Nat}(hb:b∉fp)(bq:b≠q)(bh:h.length≤b)(hl:H'.length=H.length)(hf:∀x,x≠b→H'[x]? = H[x]?):Wd h H' q ws w fp:=by
  obtain⟨box,own,nd,qf,fr,ql,N,hN⟩:=W
  refine⟨by rw[dJ (hf q (Ne.symm bq))];exact box,own.frame fun c hc=>hf c (fun e:c=b=>hb (e▸hc)),nd,qf,fr,ql,?_⟩
  subst hN
  exact(cc.mark (cc.app h N) hl (fp:=[b]) (fun c hc=>hf c (by simpa using hc)) (by simpa using bh)).out
theorem gX{H:AH}{w:AV}{ws:List Tx}{fp:List Nat}(o:bO H w (iw (ws.map tb)) fp):gU H w (.vs true 1 false (ws.map fun w=>[.str (tb w)])):=by
  refine bO.jE (c:=fun w:Tx=>[AV.str (tb w)]) (cd:=fun w:Tx=>[CD.s (tb w)]) (fun n=>by simp[CD.gQ]) (fp:=fp) ?_
  have:iw (ws.map tb)=.sl 1 (ws.map fun w=>[CD.s (tb w)]):=by simp[iw,Function.comp_def]
  rw[←this];exact o
theorem AD(x:bJ):(uf x).length≤10:=by
  have h2:((Ap [x.c,x.d]).map iO).length≤2:=by rw[List.length_map];exact List.length_filter_le _ _
  unfold uf
  split
  · simp
  split
  · simp
  split
  · simp only[List.length_cons,List.length_append,List.length_nil];omega
  split
  · simp only[List.length_cons,List.length_append,List.length_nil];omega
  · simp
set_option maxHeartbeats 32000000 in
set_option maxRecDepth 100000 in
theorem Ho(hΓ:ik Γ){s:Tx}(hs:s∈bZ)(h:AH):T Tryz.prog Γ Fn.Xf [.agg (bI (bM s))] h fun v h'=>v=.str (tb s)∧h'=h:=by
  obtain⟨k1,k2,k3,k4,k5,k6,k7,k8,k9,k10,k11,k12⟩:=iz hs
  have kw:=List.all_eq_true.1 yr s hs
  simp only[Bool.and_eq_true,decide_eq_true_eq]at kw
  obtain⟨w1,w2,w3⟩:=kw
  have d64:∀n:Int,(n = -1∨jQ n=true)→i64 n:=fun n h=>by
    rcases h with rfl|h
    · exact⟨by omega,by omega⟩
    · simp only[jQ,Bool.and_eq_true,decide_eq_true_eq]at h;exact⟨by omega,by omega⟩
  have ia:=d64 _ (.inr k5)
  have ib:=d64 _ (.inr k6)
  have ic:=d64 _ k7
  have id:=d64 _ k8
  have ea:=qK k5
  have eb:=qK k6
  have ef:(tt [(bM s).c,(bM s).d]).map bp=((Ap [(bM s).c,(bM s).d]).map iO).map tb:=by
    rw[List.map_map]
    apply List.map_congr_left
    intro n hn
    have hn':=List.mem_filter.1 hn
    have hne:¬n = -1:=by simpa using hn'.2
    rcases List.mem_cons.1 hn'.1 with e|e
    · exact qK (by rw[e];exact k7.resolve_left (fun q=>hne (by rw[e,q])))
    · have e:=List.mem_singleton.1 e
      exact qK (by rw[e];exact k8.resolve_left (fun q=>hne (by rw[e,q])))
  have hfl:(tt [(bM s).c,(bM s).d]).length≤2:=List.length_filter_le _ _
  have hfi:∀n∈tt [(bM s).c,(bM s).d],i64 n:=fun n hn=>by
    have hn':=List.mem_filter.1 hn
    rcases List.mem_cons.1 hn'.1 with e|e
    · rw[e];exact ic
    · rw[List.mem_singleton.1 e];exact id
  have hop:=fun h=>TE hΓ (bM s).op k9 k10 h
  rw[BM k9 k10]at hop
  have hj:=fun(ws:List Tx) (h0:ws≠[]) (hl:ws.length≤1000) (e:Lib.join ws [32]=s) h=>Kq (Γ:=Γ) (β:=true) (ex:=false) ws [32] h0 hl (by rw[e];omega) h
  have wl:=AD (bM s)
  unfold uf at w1 wl
  generalize hx:bM s=x at *
  have q0:(⟨#[32]⟩:ByteArray)=tb [32]:=rfl
  have rp_2:∀z:AV,(List.replicate 2 [z]).flatten=[z,z]:=fun z=>rfl
  have rp_3:∀z:AV,(List.replicate 3 [z]).flatten=[z,z,z]:=fun z=>rfl
  refine T.text ?_
  refine OJ (au aF mixed [3] _ _ _ ?_)
  unfold Im
  have al:=fun(s:St)=>oU s _ (show List.all [AV.nils] bk=true from rfl)
  have sto:∀(e:List AV) (L:List (List AV)),(St.mk e L ((h++[some (0,[AV.str (tb (iT x.op.toNat))])])++[some (0,[AV.nils])])).store (.gp (h++[some (0,[AV.str (tb (iT x.op.toNat))])]).length 0 0) [.gs h.length 0 0 1 1 1 true]=some ⟨e,L,(h++[some (0,[AV.str (tb (iT x.op.toNat))])])++[some (0,[.gs h.length 0 0 1 1 1 true])]⟩:=fun e L=>by
    rw[kT (by simp) rfl];rfl
  simp only[EZ,ah,Nat.reduceAdd,Nat.reduceBEq,dZ,EB,bo,bI]
  refine aq.val (by simp only[EO]) (hop _) ?_
  simp only[EZ,ah,Nat.reduceAdd,Nat.reduceBEq,dZ,EB,bo,EA,al,fU,sto]
  have W0:Wd h ((h++[some (0,[AV.str (tb (iT x.op.toNat))])])++[some (0,[.gs h.length 0 0 1 1 1 true])]) (h++[some (0,[AV.str (tb (iT x.op.toNat))])]).length ([iT x.op.toNat].map tb) (.gs h.length 0 0 1 1 1 true) [h.length]:=by
    refine⟨bC _ _,?_,by simp,by simp,by simp,by simp,_,List.append_assoc _ _ _⟩
    exact(pa h ([iT x.op.toNat].map tb) rfl).grow
  generalize hH:(h++[some (0,[AV.str (tb (iT x.op.toNat))])])++[some (0,[.gs h.length 0 0 1 1 1 true])]=H at *
  generalize hq:(h++[some (0,[AV.str (tb (iT x.op.toNat))])]).length=q at *
  clear sto
  generalize AV.gs h.length 0 0 1 1 1 true=w0 at *
  by_cases e4:x.op=4
  · rw[if_pos (Or.inl e4)]at w1 wl
    simp only[EZ,ah,Nat.reduceAdd,Nat.reduceBEq,dZ,EB,bo,EA,rp_2,rp_3,bI,aE,ay,decide_eq_true e4]
    have W0g:=W0.grow [some (0,[AV.int .i64 x.a])]
    have bq1:H.length≠q:=fun e=>by have:=dd W0.box;omega
    have bf1:H.length∉[h.length]:=fun hc=>by have:=W0.lt _ hc;omega
    have ha1:=eN hΓ [x.a] (by simp) (by intro n hn;simp only[List.mem_cons,List.not_mem_nil,or_false]at hn;subst hn;exact ia) W0g (by simp) (tail:=[]) (b:=H.length) (g:=0) (cap:=[x.a].length) (ex:=true) (by rw[List.append_nil];exact bC _ _) (Nat.le_refl _) bq1 bf1
    refine aq.ref (by simp only[EO,bX,bk,cB]) ha1 ?_
    rintro _ H1 ⟨rfl,v1,f1,W1,_,_,_⟩
    have eW:[iT x.op.toNat].map tb++[x.a].map bp=([iT x.op.toNat,iO x.a]).map tb:=by simp[ea]
    rw[eW]at W1
    have rdE:=W1.rd
    obtain⟨z1,z2,z3,z4⟩:=W1.own.cell
    simp only[EZ,ah,Nat.reduceAdd,Nat.reduceBEq,dZ,EB,bo,EA,rp_2,rp_3,bI,aE,ay,decide_eq_true e4,rdE,z1,z2,z3,q0]
    refine aq.jE (by simp only[EO,z4]) (bY (gX W1.own) (bY (.same _) dR)) (hj _ (by simp) (by omega) w1) (.str _) ?_
    simp only[EZ,ah,Nat.reduceAdd,Nat.reduceBEq,dZ,EB,bo,EA,rp_2,rp_3,bI,aE,ay,decide_eq_true e4]
    exact⟨rfl,by rw[w1],W1.ex⟩
  by_cases e10:x.op=10
  · rw[if_pos (Or.inr e10)]at w1 wl
    simp only[EZ,ah,Nat.reduceAdd,Nat.reduceBEq,dZ,EB,bo,EA,rp_2,rp_3,bI,aE,ay,decide_eq_false e4,decide_eq_true e10]
    have W0g:=W0.grow [some (0,[AV.int .i64 x.a])]
    have bq1:H.length≠q:=fun e=>by have:=dd W0.box;omega
    have bf1:H.length∉[h.length]:=fun hc=>by have:=W0.lt _ hc;omega
    have ha1:=eN hΓ [x.a] (by simp) (by intro n hn;simp only[List.mem_cons,List.not_mem_nil,or_false]at hn;subst hn;exact ia) W0g (by simp) (tail:=[]) (b:=H.length) (g:=0) (cap:=[x.a].length) (ex:=true) (by rw[List.append_nil];exact bC _ _) (Nat.le_refl _) bq1 bf1
    refine aq.ref (by simp only[EO,bX,bk,cB]) ha1 ?_
    rintro _ H1 ⟨rfl,v1,f1,W1,_,_,_⟩
    have eW:[iT x.op.toNat].map tb++[x.a].map bp=([iT x.op.toNat,iO x.a]).map tb:=by simp[ea]
    rw[eW]at W1
    have rdE:=W1.rd
    obtain⟨z1,z2,z3,z4⟩:=W1.own.cell
    simp only[EZ,ah,Nat.reduceAdd,Nat.reduceBEq,dZ,EB,bo,EA,rp_2,rp_3,bI,aE,ay,decide_eq_false e4,decide_eq_true e10,rdE,z1,z2,z3,q0]
    refine aq.jE (by simp only[EO,z4]) (bY (gX W1.own) (bY (.same _) dR)) (hj _ (by simp) (by omega) w1) (.str _) ?_
    simp only[EZ,ah,Nat.reduceAdd,Nat.reduceBEq,dZ,EB,bo,EA,rp_2,rp_3,bI,aE,ay,decide_eq_false e4,decide_eq_true e10]
    exact⟨rfl,by rw[w1],W1.ex⟩
  rw[if_neg (by omega)]at w1 wl
  by_cases e5:x.op=5
  · rw[if_pos e5]at w1 wl
    have ec:=qK (k7.resolve_left (w3 e5))
    simp only[EZ,ah,Nat.reduceAdd,Nat.reduceBEq,dZ,EB,bo,EA,rp_2,rp_3,bI,aE,ay,decide_eq_false e4,decide_eq_false e10,decide_eq_true e5]
    have W0g:=W0.grow [some (0,[AV.int .i64 x.a,AV.int .i64 x.b,AV.int .i64 x.c])]
    have bq1:H.length≠q:=fun e=>by have:=dd W0.box;omega
    have bf1:H.length∉[h.length]:=fun hc=>by have:=W0.lt _ hc;omega
    have ha1:=eN hΓ [x.a,x.b,x.c] (by simp) (by intro n hn;simp only[List.mem_cons,List.not_mem_nil,or_false]at hn;rcases hn with rfl|rfl|rfl<;>assumption) W0g (by simp) (tail:=[]) (b:=H.length) (g:=0) (cap:=[x.a,x.b,x.c].length) (ex:=true) (by rw[List.append_nil];exact bC _ _) (Nat.le_refl _) bq1 bf1
    refine aq.ref (by simp only[EO,bX,bk,cB]) ha1 ?_
    rintro _ H1 ⟨rfl,v1,f1,W1,_,_,_⟩
    have eW:[iT x.op.toNat].map tb++[x.a,x.b,x.c].map bp=([iT x.op.toNat,iO x.a,iO x.b,iO x.c]).map tb:=by simp[ea,eb,ec]
    rw[eW]at W1
    have rdE:=W1.rd
    obtain⟨z1,z2,z3,z4⟩:=W1.own.cell
    simp only[EZ,ah,Nat.reduceAdd,Nat.reduceBEq,dZ,EB,bo,EA,rp_2,rp_3,bI,aE,ay,decide_eq_false e4,decide_eq_false e10,decide_eq_true e5,rdE,z1,z2,z3,q0]
    refine aq.jE (by simp only[EO,z4]) (bY (gX W1.own) (bY (.same _) dR)) (hj _ (by simp) (by omega) w1) (.str _) ?_
    simp only[EZ,ah,Nat.reduceAdd,Nat.reduceBEq,dZ,EB,bo,EA,rp_2,rp_3,bI,aE,ay,decide_eq_false e4,decide_eq_false e10,decide_eq_true e5]
    exact⟨rfl,by rw[w1],W1.ex⟩
  rw[if_neg e5]at w1 wl
  by_cases e6:x.op=6
  · rw[if_pos e6]at w1 wl
    simp only[EZ,ah,Nat.reduceAdd,Nat.reduceBEq,dZ,EB,bo,EA,rp_2,rp_3,bI,aE,ay,decide_eq_false e4,decide_eq_false e10,decide_eq_false e5,decide_eq_true e6]
    have W0g:=W0.grow [some (0,[AV.int .i64 x.a,AV.int .i64 x.b])]
    have bq1:H.length≠q:=fun e=>by have:=dd W0.box;omega
    have bf1:H.length∉[h.length]:=fun hc=>by have:=W0.lt _ hc;omega
    have ha1:=eN hΓ [x.a,x.b] (by simp) (by intro n hn;simp only[List.mem_cons,List.not_mem_nil,or_false]at hn;rcases hn with rfl|rfl<;>assumption) W0g (by simp) (tail:=[]) (b:=H.length) (g:=0) (cap:=[x.a,x.b].length) (ex:=true) (by rw[List.append_nil];exact bC _ _) (Nat.le_refl _) bq1 bf1
    refine aq.ref (by simp only[EO,bX,bk,cB]) ha1 ?_
    rintro _ H1 ⟨rfl,v1,f1,W1,_,_,_⟩
    have rd2:=W1.rd
    obtain⟨y1,y2,y3,y4⟩:=W1.own.cell
    obtain⟨v2,H2a,H2,f2,ea2,st2,p1,p2,p3,W2,_,_,_,_⟩:=W1.push (tb x.name) (by simp)
    simp only[EZ,ah,Nat.reduceAdd,Nat.reduceBEq,dZ,EB,bo,EA,rp_2,rp_3,bI,aE,ay,decide_eq_false e4,decide_eq_false e10,decide_eq_false e5,decide_eq_true e6,rd2,y1,y2,y3,ea2,p1,p2,p3,st2]
    refine aq.ref (by simp only[EO,bX,bk,cB]) (I8 x.c x.d w2 (b:=H2.length) (g:=0) (H:=H2++[some (0,[AV.int .i64 x.c,AV.int .i64 x.d])]) (bC _ _)) ?_
    rintro _ H3 ⟨rfl,⟨tl,hb3⟩,hl3,hf3⟩
    have bq3:H2.length≠q:=fun e=>by have:=dd W2.box;omega
    have bf3:H2.length∉f2:=fun hc=>by have:=W2.lt _ hc;omega
    have bh3:h.length≤H2.length:=by have:=W2.ql;have:=dd W2.box;omega
    have W3:=(W2.grow [some (0,[AV.int .i64 x.c,AV.int .i64 x.d])]).vI (H':=H3) bf3 bq3 bh3 hl3 hf3
    simp only[EZ,ah,Nat.reduceAdd,Nat.reduceBEq,dZ,EB,bo,EA,rp_2,rp_3,bI,aE,ay,decide_eq_false e4,decide_eq_false e10,decide_eq_false e5,decide_eq_true e6]
    refine aq.ref (by simp only[EO,bX,bk,cB]) (eN hΓ (tt [x.c,x.d]) (by omega) hfi W3 (by simp) hb3 hfl bq3 bf3) ?_
    rintro _ H9 ⟨rfl,v9,f9,W9,_,_,_⟩
    have eW:([iT x.op.toNat].map tb++[x.a,x.b].map bp++[tb x.name])++(tt [x.c,x.d]).map bp=(iT x.op.toNat::([iO x.a,iO x.b]++[x.name]++(Ap [x.c,x.d]).map iO)).map tb:=by simp[ea,eb,ef]
    rw[eW]at W9
    have rdE:=W9.rd
    obtain⟨z1,z2,z3,z4⟩:=W9.own.cell
    simp only[EZ,ah,Nat.reduceAdd,Nat.reduceBEq,dZ,EB,bo,EA,rp_2,rp_3,bI,aE,ay,decide_eq_false e4,decide_eq_false e10,decide_eq_false e5,decide_eq_true e6,rdE,z1,z2,z3,q0]
    refine aq.jE (by simp only[EO,z4]) (bY (gX W9.own) (bY (.same _) dR)) (hj _ (by simp) (by omega) w1) (.str _) ?_
    simp only[EZ,ah,Nat.reduceAdd,Nat.reduceBEq,dZ,EB,bo,EA,rp_2,rp_3,bI,aE,ay,decide_eq_false e4,decide_eq_false e10,decide_eq_false e5,decide_eq_true e6]
    exact⟨rfl,by rw[w1],W9.ex⟩
  rw[if_neg e6]at w1 wl
  by_cases e7:x.op=7
  · rw[if_pos e7]at w1 wl
    simp only[EZ,ah,Nat.reduceAdd,Nat.reduceBEq,dZ,EB,bo,EA,rp_2,rp_3,bI,aE,ay,decide_eq_false e4,decide_eq_false e10,decide_eq_false e5,decide_eq_false e6,decide_eq_true e7]
    have W0g:=W0.grow [some (0,[AV.int .i64 x.a])]
    have bq1:H.length≠q:=fun e=>by have:=dd W0.box;omega
    have bf1:H.length∉[h.length]:=fun hc=>by have:=W0.lt _ hc;omega
    have ha1:=eN hΓ [x.a] (by simp) (by intro n hn;simp only[List.mem_cons,List.not_mem_nil,or_false]at hn;subst hn;exact ia) W0g (by simp) (tail:=[]) (b:=H.length) (g:=0) (cap:=[x.a].length) (ex:=true) (by rw[List.append_nil];exact bC _ _) (Nat.le_refl _) bq1 bf1
    refine aq.ref (by simp only[EO,bX,bk,cB]) ha1 ?_
    rintro _ H1 ⟨rfl,v1,f1,W1,_,_,_⟩
    have rd2:=W1.rd
    obtain⟨y1,y2,y3,y4⟩:=W1.own.cell
    obtain⟨v2,H2a,H2,f2,ea2,st2,p1,p2,p3,W2,_,_,_,_⟩:=W1.push (tb x.name) (by simp)
    simp only[EZ,ah,Nat.reduceAdd,Nat.reduceBEq,dZ,EB,bo,EA,rp_2,rp_3,bI,aE,ay,decide_eq_false e4,decide_eq_false e10,decide_eq_false e5,decide_eq_false e6,decide_eq_true e7,rd2,y1,y2,y3,ea2,p1,p2,p3,st2]
    refine aq.ref (by simp only[EO,bX,bk,cB]) (I8 x.c x.d w2 (b:=H2.length) (g:=0) (H:=H2++[some (0,[AV.int .i64 x.c,AV.int .i64 x.d])]) (bC _ _)) ?_
    rintro _ H3 ⟨rfl,⟨tl,hb3⟩,hl3,hf3⟩
    have bq3:H2.length≠q:=fun e=>by have:=dd W2.box;omega
    have bf3:H2.length∉f2:=fun hc=>by have:=W2.lt _ hc;omega
    have bh3:h.length≤H2.length:=by have:=W2.ql;have:=dd W2.box;omega
    have W3:=(W2.grow [some (0,[AV.int .i64 x.c,AV.int .i64 x.d])]).vI (H':=H3) bf3 bq3 bh3 hl3 hf3
    simp only[EZ,ah,Nat.reduceAdd,Nat.reduceBEq,dZ,EB,bo,EA,rp_2,rp_3,bI,aE,ay,decide_eq_false e4,decide_eq_false e10,decide_eq_false e5,decide_eq_false e6,decide_eq_true e7]
    refine aq.ref (by simp only[EO,bX,bk,cB]) (eN hΓ (tt [x.c,x.d]) (by omega) hfi W3 (by simp) hb3 hfl bq3 bf3) ?_
    rintro _ H9 ⟨rfl,v9,f9,W9,_,_,_⟩
    have eW:([iT x.op.toNat].map tb++[x.a].map bp++[tb x.name])++(tt [x.c,x.d]).map bp=(iT x.op.toNat::([iO x.a]++[x.name]++(Ap [x.c,x.d]).map iO)).map tb:=by simp[ea,ef]
    rw[eW]at W9
    have rdE:=W9.rd
    obtain⟨z1,z2,z3,z4⟩:=W9.own.cell
    simp only[EZ,ah,Nat.reduceAdd,Nat.reduceBEq,dZ,EB,bo,EA,rp_2,rp_3,bI,aE,ay,decide_eq_false e4,decide_eq_false e10,decide_eq_false e5,decide_eq_false e6,decide_eq_true e7,rdE,z1,z2,z3,q0]
    refine aq.jE (by simp only[EO,z4]) (bY (gX W9.own) (bY (.same _) dR)) (hj _ (by simp) (by omega) w1) (.str _) ?_
    simp only[EZ,ah,Nat.reduceAdd,Nat.reduceBEq,dZ,EB,bo,EA,rp_2,rp_3,bI,aE,ay,decide_eq_false e4,decide_eq_false e10,decide_eq_false e5,decide_eq_false e6,decide_eq_true e7]
    exact⟨rfl,by rw[w1],W9.ex⟩
  rw[if_neg e7]at w1 wl
  simp only[EZ,ah,Nat.reduceAdd,Nat.reduceBEq,dZ,EB,bo,EA,rp_2,rp_3,bI,aE,ay,decide_eq_false e4,decide_eq_false e10,decide_eq_false e5,decide_eq_false e6,decide_eq_false e7]
  have W0g:=W0.grow [some (0,[AV.int .i64 x.a,AV.int .i64 x.b])]
  have bq1:H.length≠q:=fun e=>by have:=dd W0.box;omega
  have bf1:H.length∉[h.length]:=fun hc=>by have:=W0.lt _ hc;omega
  have ha1:=eN hΓ [x.a,x.b] (by simp) (by intro n hn;simp only[List.mem_cons,List.not_mem_nil,or_false]at hn;rcases hn with rfl|rfl<;>assumption) W0g (by simp) (tail:=[]) (b:=H.length) (g:=0) (cap:=[x.a,x.b].length) (ex:=true) (by rw[List.append_nil];exact bC _ _) (Nat.le_refl _) bq1 bf1
  refine aq.ref (by simp only[EO,bX,bk,cB]) ha1 ?_
  rintro _ H1 ⟨rfl,v1,f1,W1,_,_,_⟩
  have eW:[iT x.op.toNat].map tb++[x.a,x.b].map bp=([iT x.op.toNat,iO x.a,iO x.b]).map tb:=by simp[ea,eb]
  rw[eW]at W1
  have rdE:=W1.rd
  obtain⟨z1,z2,z3,z4⟩:=W1.own.cell
  simp only[EZ,ah,Nat.reduceAdd,Nat.reduceBEq,dZ,EB,bo,EA,rp_2,rp_3,bI,aE,ay,decide_eq_false e4,decide_eq_false e10,decide_eq_false e5,decide_eq_false e6,decide_eq_false e7,rdE,z1,z2,z3,q0]
  refine aq.jE (by simp only[EO,z4]) (bY (gX W1.own) (bY (.same _) dR)) (hj _ (by simp) (by omega) w1) (.str _) ?_
  simp only[EZ,ah,Nat.reduceAdd,Nat.reduceBEq,dZ,EB,bo,EA,rp_2,rp_3,bI,aE,ay,decide_eq_false e4,decide_eq_false e10,decide_eq_false e5,decide_eq_false e6,decide_eq_false e7]
  exact⟨rfl,by rw[w1],W1.ex⟩
end Go.Proofs.YtdlbaonelfcahaaGreatDoor
namespace Go.Proofs.YtdlbaonelfcahaaGreatDoor
open Go.AM
variable {Γ:bG}
theorem PK(hΓ:ik Γ){s:Tx}(hs:s∈bZ)(h:AH):T Tryz.prog Γ Fn.Wu [.agg (bI (bM s))] h fun v h'=>v=.str (tb s)∧h'=h:=by
  obtain⟨k1,k2,k3,k4,k5,k6,k7,k8,k9,k10,k11,k12⟩:=iz hs
  have hi:=fun h=>E4 (Γ:=Γ) (bM s).D k3 (by rw[show(bM s).D.name=tb (bM s).name from rfl,dV];omega) h
  have hf:=fun h=>Ho hΓ hs h
  simp only[aN.c,bJ.D]at hi
  simp only[bI]at hf ⊢
  refine Th (au aF mixed [] _ _ _ ?_)
  unfold Fy
  simp only[EZ,ah,Nat.reduceAdd,Nat.reduceBEq,yS,EB]
  refine aq.val (by simp only[EO]) (hi _) ?_
  simp only[EZ,ah,Nat.reduceAdd,Nat.reduceBEq,yS,EB]
  refine aq.val (by simp only[EO]) (hf _) ?_
  simp only[EZ,ah,Nat.reduceAdd,Nat.reduceBEq,yS,EB]
  first|exact⟨rfl,rfl⟩|exact rfl|trivial
theorem Bj:∀(a b:List UInt8) (c:UInt8),c∉a→Lib.index (a++c::b) [c]=a.length
  | [],b,c,_=>by simp[Lib.index,List.isPrefixOf]
  | d::a,b,c,h=>by
    have h1:(c == d)=false:=beq_eq_false_iff_ne.2 (fun e=>h (by simp[e]))
    have h2:=Bj a b c (fun e=>h (by simp[e]))
    rw[List.cons_append,Lib.index,h2]
    simp only[List.isPrefixOf,h1,Bool.false_and,Bool.false_eq_true,if_false]
    rw[if_neg (by simp)]
    simp
theorem Dd:∀(a:List UInt8) (c:UInt8),c∉a→Lib.index a [c] = -1
  | [],c,_=>by simp[Lib.index,List.isPrefixOf]
  | d::a,c,h=>by
    have h1:(c == d)=false:=beq_eq_false_iff_ne.2 (fun e=>h (by simp[e]))
    have h2:=Dd a c (fun e=>h (by simp[e]))
    rw[Lib.index,h2]
    simp[List.isPrefixOf,h1]
theorem sY(c:UInt8):∀a:Tx,c∉a→aU c a=[a]
  | [],_=>rfl
  | d::a,h=>by
    have hd:¬d=c:=fun e=>h (by simp[e])
    simp only[aU,if_neg hd,sY c a (fun e=>h (by simp[e]))]
theorem pZ(c:UInt8):∀(a b:Tx),c∉a→aU c (a++c::b)=a::aU c b
  | [],b,_=>by simp[aU]
  | d::a,b,h=>by
    have hd:¬d=c:=fun e=>h (by simp[e])
    simp only[List.cons_append,aU,if_neg hd,pZ c a b (fun e=>h (by simp[e]))]
theorem wC(c:UInt8):∀l:Tx,c∈l→∃a b,l=a++c::b∧c∉a
  | [],h=>by cases h
  | d::l,h=>by
    by_cases hd:d=c
    · exact⟨[],l,by simp[hd],by simp⟩
    · obtain⟨a,b,e,hn⟩:=wC c l ((List.mem_cons.1 h).resolve_left (fun e=>hd e.symm))
      exact⟨d::a,b,by rw[e];rfl,fun hh=>(List.mem_cons.1 hh).elim (fun e=>hd e.symm) hn⟩
theorem mu(l:Tx)(c:UInt8):Lib.indexB (tb l) (tb [c])=Lib.index l [c]:=by
  show Lib.index l.toArray.toList [c].toArray.toList=_
  rw[List.toList_toArray,List.toList_toArray]
theorem Co(c:UInt8):∀(n:Nat) (l:Tx),l.length≤n→Lib.splitB (tb [c]) 0 (Lib.countB (tb l) (tb [c])) (tb l)=(aU c l).map tb∧(aU c l).length=Lib.countB (tb l) (tb [c])+1:=by
  intro n
  induction n with
  | zero=>
    intro l hl
    have:l=[]:=List.eq_nil_of_length_eq_zero (by omega)
    subst this
    have hi:Lib.indexB (tb []) (tb [c]) = -1:=by rw[mu];exact Dd [] c (by simp)
    rw[Lib.countB_miss _ _ hi]
    exact⟨rfl,rfl⟩
  | succ n ih=>
    intro l hl
    by_cases hc:c∈l
    · obtain⟨a,b,rfl,ha⟩:=wC c l hc
      have hi:Lib.indexB (tb (a++c::b)) (tb [c])=(a.length:Int):=by rw[mu];exact Bj a b c ha
      have e2:(tb (a++c::b)).extract (a.length+1) (tb (a++c::b)).size=tb b:=by
        apply ByteArray.ext;simp[tb,ByteArray.data_extract,ByteArray.size];exact List.take_of_length_le (by omega)
      have e1:(tb (a++c::b)).extract 0 a.length=tb a:=by
        apply ByteArray.ext;simp[tb,ByteArray.data_extract]
      have hs:(tb [c]).size=1:=rfl
      have hk:=Lib.countB_hit _ _ a.length (by rw[hs];exact Nat.le_refl _) hi
      rw[hs,e2]at hk
      obtain⟨q1,q2⟩:=ih b (by simp at hl;omega)
      rw[hk,Nat.add_comm 1,Lib.splitB,hi,if_neg (by simp)]
      simp only[Int.toNat_natCast,Nat.add_zero,e1,hs,e2,q1,pZ c a b ha,List.map_cons,List.length_cons,q2]
      first|exact⟨trivial,by omega⟩|exact⟨rfl,by omega⟩|trivial
    · have hi:Lib.indexB (tb l) (tb [c]) = -1:=by rw[mu];exact Dd l c hc
      rw[Lib.countB_miss _ _ hi,sY c l hc]
      exact⟨rfl,rfl⟩
theorem C5(hΓ:ik Γ)(l:Tx)(hl:l.length≤4000)(c:UInt8)(h:AH):T Tryz.prog Γ Fn.Ux [.str (tb l),.str (tb [c])] h fun v h'=>v=.vs false 1 false ((aU c l).map fun w=>[.str (tb w)])∧h'=h:=by
  obtain⟨q1,q2⟩:=Co c l.length l (Nat.le_refl _)
  have:=DI hΓ (tb l) (tb [c]) (by rw[dV];omega) (Nat.le_refl _) q1 (by rw[List.length_map,q2]) h
  simp only[iw,uE]at this
  exact this
end Go.Proofs.YtdlbaonelfcahaaGreatDoor
namespace Go.Proofs.YtdlbaonelfcahaaGreatDoor
open Go.AM
variable {Γ:bG}
theorem CI(x:bJ)(j:Nat)(h0:1≤j)(h1:j≤4)(n:Int):over (bI x) j [.int .i64 n]=bI (x.set j n):=by
  have:j=1∨j=2∨j=3∨j=4:=by omega
  rcases this with rfl|rfl|rfl|rfl<;>rfl
theorem vw(e:List AV)(L:List (List AV))(h M:AH)(cs vs:List AV)(off:Nat)(h1:off+vs.length≤cs.length)(h2:vs.all bk=true):(St.mk e L ((h++[some (0,cs)])++M)).store (.gp h.length 0 off) vs=some ⟨e,L,(h++[some (0,over cs off vs)])++M⟩:=by
  have hg:bA ((h++[some (0,cs)])++M) h.length=some (0,cs):=by simp[bA]
  simp only[St.store,hg,Option.bind_some,if_true,if_pos h1,h2]
  simp
theorem By(e:List AV)(L:List (List AV))(h M:AH)(cs:List AV)(off n:Nat):(St.mk e L ((h++[some (0,cs)])++M)).cells (.gp h.length 0 off) n=sub cs off n:=by
  have hg:bA ((h++[some (0,cs)])++M) h.length=some (0,cs):=by simp[bA]
  rw[ee hg]
theorem DV(e:List AV)(L:List (List AV))(h M N:AH)(cs:List AV)(off n:Nat):(St.mk e L (((h++[some (0,cs)])++M)++N)).cells (.gp h.length 0 off) n=sub cs off n:=by
  rw[List.append_assoc (h++[some (0,cs)])];exact By _ _ _ _ _ _ _
theorem Q5(gl:Bool)(s:St)(k:SK)(x:X):AM.step Γ gl s (.slice k x none none none)=.eI s (eL k (s.eval Γ x) 0 none none):=rfl
theorem K4(t:TypeId)(p:Value):bU .neq .iface (.opq (.iface t p)) (.opq .nilIface)=some (.bool true):=rfl
theorem K5:bU .neq .iface (.opq .nilIface) (.opq .nilIface)=some (.bool false):=rfl
set_option maxHeartbeats 32000000 in
set_option maxRecDepth 100000 in
theorem TY(hΓ:ik Γ){s:Tx}(hs:s∈bZ)(h:AH):T Tryz.prog Γ Fn.VE [.str (tb s)] h fun v h'=>v=.tup [.agg (bI (bM s)),.bool true]∧h'=h:=by
  obtain⟨k1,k2,k3,k4,k5,k6,k7,k8,k9,k10,k11,k12⟩:=iz hs
  have c1:=List.all_eq_true.1 DM s hs
  simp only[Bool.and_eq_true,decide_eq_true_eq,List.all_eq_true,List.mem_range]at c1
  obtain⟨o1,o2,o3,o4,o5⟩:=c1
  have c2:=List.all_eq_true.1 DC s hs
  simp only[Bool.and_eq_true,decide_eq_true_eq,List.all_eq_true,List.mem_range]at c2
  obtain⟨t1,t2,t3,t4,t5⟩:=c2
  have c3:=List.all_eq_true.1 Ah s hs
  simp only[List.all_eq_true]at c3
  have hsp:=fun h=>C5 hΓ s (by omega) 32 h
  have hne:=kf 32 s
  have hfi:=fun h=>PK hΓ hs h
  have i00:cm 1 (.vs false 1 false ((aU 32 s).map fun w=>[.str (tb w)])) 0=some (.ip false [.str (tb ((aU 32 s).headD []))]):=by
    cases hw:aU 32 s with
    | nil=>exact absurd hw hne
    | cons a l=>rfl
  have cf:∀S:St,cutFrom (.sl 1) S (.vs false 1 false ((aU 32 s).map fun w=>[.str (tb w)])) (.int .i64 1)=.val (.vs false 1 false ((aU 32 s).tail.map fun w=>[.str (tb w)])) S:=fun S=>by
    have hl:1≤(aU 32 s).length:=by
      cases hw:aU 32 s with
      | nil=>exact absurd hw hne
      | cons a l=>simp
    have:=C1 S false 1 (aU 32 s) (fun w=>[AV.str (tb w)]) hl
    rw[List.drop_one]at this
    exact this
  have hg:∀s:St,s.eval Γ (.g Gn.g0)=.ip false (opsL.map AV.str):=fun s=>by
    show(match Γ 0 with|some cs=>AV.ip false cs|none=>.any)=_
    rw[hΓ.ops]
  have asl:eL (.arr 11) (.ip false (opsL.map AV.str)) 0 none none=some (.vs false 1 true (opsL.map fun n=>[.str n])):=by
    simp[eL,opsL]
  have hix:=fun h=>uI (Γ:=Γ) opsL (by decide) (tb ((aU 32 s).headD [])) (i:=kt ((aU 32 s).headD [])) (by show _<11;omega) (by simpa[opsL]using congrArg tb o1) (fun k hk e=>o2 k hk (by
    have e':tb (iT k)=tb ((aU 32 s).headD []):=by simpa[opsL]using e
    exact vy e')) h
  have ot:bX (AV.vs false 1 false ((aU 32 s).map fun w=>[.str (tb w)]))=true:=rfl
  have ot2:bX (AV.vs false 1 true (opsL.map fun n=>[.str n]))=true:=rfl
  have mmx:Ks true [.int .i64 (kt ((aU 32 s).headD []):Int),.int .i64 0]=some (.int .i64 (iq s)):=by
    rw[Km];congr 2;unfold iq;omega
  have hopw:1≤iq s∧iq s≤10:=by unfold iq;omega
  have rp_3:∀z:AV,(List.replicate 3 [z]).flatten=[z,z,z]:=fun z=>rfl
  have rp_4:∀z:AV,(List.replicate 4 [z]).flatten=[z,z,z,z]:=fun z=>rfl
  have ngp:∀b g o,bk (.gp b g o)=true:=fun _ _ _=>rfl
  have q32:(⟨#[32]⟩:ByteArray)=tb [32]:=rfl
  have q0:(⟨#[]⟩:ByteArray)=tb []:=rfl
  have al:=fun(S:St)=>oU S _ (show List.all (bI ⟨0,0,0,0,0,[]⟩) bk=true from rfl)
  have sto:∀(e:List AV) (L:List (List AV)),(St.mk e L (h++[some (0,bI ⟨0,0,0,0,0,[]⟩)])).store (.gp h.length 0 0) (bI ⟨iq s,0,0,0,0,[]⟩)=some ⟨e,L,h++[some (0,bI ⟨iq s,0,0,0,0,[]⟩)]⟩:=fun e L=>by
    rw[kT (by simp[bI]) rfl];rfl
  generalize hws:(aU 32 s).map (fun w=>[AV.str (tb w)])=wv at *
  generalize hov:opsL.map (fun n=>[AV.str n])=ov at *
  refine T.frozen (rs:=[.a (A6 (bM s)),.c (.b true)]) (T.kb rfl ?_) |>.mono fun v h'=>?_
  rotate_left
  · rintro⟨e1,e2⟩
    exact⟨e1,e2⟩
  refine T9 (au aF mixed [5] _ _ _ ?_)
  unfold HH
  simp only[EZ,ah,Nat.reduceAdd,Nat.reduceBEq,gz,c8,EB,bo,q32]
  refine aq.val (by simp only[EO]) (hsp _) ?_
  simp only[bI]at al sto
  simp only[EZ,ah,Nat.reduceAdd,Nat.reduceBEq,gz,c8,EB,bo]
  unfold CC
  obtain⟨Rz,hRz⟩:∃R:St→Prop,R=fun zst=>∃g:Nat→AV,zst=⟨(List.range 98).map g,([]:List (List AV))++[bI ⟨0,0,0,0,0,[]⟩],h++[some (0,bI ⟨iq s,0,0,0,0,[]⟩)]⟩∧(g 0=.str (tb s)∧g 2=(.lp ([]:List (List AV)).length 0)∧g 4=.vs false 1 false wv∧g 5=.gp h.length 0 0):=⟨_,rfl⟩
  refine Ka Rz ?_ ?_
  · simp only[EZ,ah,Nat.reduceAdd,Nat.reduceBEq,gz,c8,EB,bo,Q5,hg,asl,i00,xC]
    refine⟨?_,?_⟩
    · refine aq.val (by simp only[EO,ot2]) (hix _) ?_
      simp only[EZ,ah,Nat.reduceAdd,Nat.reduceBEq,gz,c8,EB,bo,EA,MK,mmx,dc,ji,jg,jn,q0,al,fU,sto,xC]
      (rw[hRz];exact⟨xR _,BK rfl,⟨rfl,rfl,rfl,rfl⟩⟩)
    · simp only[EZ,ah,Nat.reduceAdd,Nat.reduceBEq,gz,c8,EB,bo,EA,q0,al,fU,xC]
      refine aq.val (by simp only[EO,ot2]) (hix _) ?_
      simp only[EZ,ah,Nat.reduceAdd,Nat.reduceBEq,gz,c8,EB,bo,EA,MK,mmx,dc,ji,jg,jn,q0,al,fU,sto,xC]
      (rw[hRz];exact⟨xR _,BK rfl,⟨rfl,rfl,rfl,rfl⟩⟩)
  intro zst hzst
  rw[hRz]at hzst
  clear hRz
  obtain⟨g,rfl,⟨eg0,eg2,eg4,eg5⟩⟩:=hzst
  rw[show(List.range 98).map g=g 0::g 1::g 2::g 3::g 4::g 5::g 6::g 7::g 8::g 9::g 10::g 11::g 12::g 13::g 14::g 15::g 16::g 17::g 18::g 19::g 20::g 21::g 22::g 23::g 24::g 25::g 26::g 27::g 28::g 29::g 30::g 31::g 32::g 33::g 34::g 35::g 36::g 37::g 38::g 39::g 40::g 41::g 42::g 43::g 44::g 45::g 46::g 47::g 48::g 49::g 50::g 51::g 52::g 53::g 54::g 55::g 56::g 57::g 58::g 59::g 60::g 61::g 62::g 63::g 64::g 65::g 66::g 67::g 68::g 69::g 70::g 71::g 72::g 73::g 74::g 75::g 76::g 77::g 78::g 79::g 80::g 81::g 82::g 83::g 84::g 85::g 86::g 87::g 88::g 89::g 90::g 91::g 92::g 93::g 94::g 95::g 96::g 97::[] from rfl]
  simp only[eg0,eg2,eg4,eg5]
  clear al sto hix asl hg mmx
  obtain⟨R2,hR2⟩:∃R:St→Prop,R=fun zst=>∃fb M,∃g:Nat→AV,zst=⟨(List.range 98).map g,([]:List (List AV))++[bI ⟨0,0,0,0,0,[]⟩],(h++[some (0,bI (iJ s))])++M⟩∧(g 0=.str (tb s)∧g 2=(.lp ([]:List (List AV)).length 0)∧g 4=.vs false 1 false wv∧g 5=.gp h.length 0 0∧g 6=.gs fb 0 0 (dx (iq s)).length (dx (iq s)).length 1 true)∧bA ((h++[some (0,bI (iJ s))])++M) fb=some (0,(dx (iq s)).map fun j=>AV.gp h.length 0 j)∧h.length<fb:=⟨_,rfl⟩
  have cb:=fun e L M cs off n=>By e L h M cs off n
  have cb2:=fun e L M N cs off n=>DV e L h M N cs off n
  have sb3:∀e L M (a b c d f n:AV) (v:Int),(St.mk e L ((h++[some (0,[a,b,c,d,f,n])])++M)).store (.gp h.length 0 3) [.int .i64 v]=some ⟨e,L,(h++[some (0,[a,b,c,.int .i64 v,f,n])])++M⟩:=fun e L M a b c d f n v=>vw e L h M _ [.int .i64 v] 3 (by simp) rfl
  have sb4:∀e L M (a b c d f n:AV) (v:Int),(St.mk e L ((h++[some (0,[a,b,c,d,f,n])])++M)).store (.gp h.length 0 4) [.int .i64 v]=some ⟨e,L,(h++[some (0,[a,b,c,d,.int .i64 v,n])])++M⟩:=fun e L M a b c d f n v=>vw e L h M _ [.int .i64 v] 4 (by simp) rfl
  refine Eb R2 ?_ ?_
  · by_cases e6:iq s=6
    · have eS:iJ s=⟨iq s,0,0,-1,-1,[]⟩:=by unfold iJ;rw[if_pos (.inl e6)]
      have eF:dx (iq s)=[1,2,3,4]:=by unfold dx;rw[if_neg (by omega),if_pos e6]
      rw[eS,eF]at hR2
      have n7:¬iq s=7:=by omega
      simp only[EZ,ah,Nat.reduceAdd,Nat.reduceBEq,gz,c8,EB,bo,EA,ngp,rp_3,rp_4,fU,cb,cb2,sb3,sb4,bI,aE,ay,decide_eq_true e6,decide_eq_false n7,xC]
      rw[List.append_assoc (h++[some (0,[AV.int .i64 (iq s),AV.int .i64 0,AV.int .i64 0,AV.int .i64 (-1),AV.int .i64 (-1),AV.str (tb [])])])]
      (rw[hR2];exact⟨_,_,xR _,BK rfl,⟨rfl,rfl,rfl,rfl,rfl⟩,by simp[bA,bI],by simp⟩)
    · by_cases e7:iq s=7
      · have eS:iJ s=⟨iq s,0,0,-1,-1,[]⟩:=by unfold iJ;rw[if_pos (.inr e7)]
        have eF:dx (iq s)=[1,3,4]:=by unfold dx;rw[if_pos e7]
        rw[eS,eF]at hR2
        simp only[EZ,ah,Nat.reduceAdd,Nat.reduceBEq,gz,c8,EB,bo,EA,ngp,rp_3,rp_4,fU,cb,cb2,sb3,sb4,bI,aE,ay,decide_eq_false e6,decide_eq_true e7,xC]
        rw[List.append_assoc (h++[some (0,[AV.int .i64 (iq s),AV.int .i64 0,AV.int .i64 0,AV.int .i64 (-1),AV.int .i64 (-1),AV.str (tb [])])]),List.append_assoc (h++[some (0,[AV.int .i64 (iq s),AV.int .i64 0,AV.int .i64 0,AV.int .i64 (-1),AV.int .i64 (-1),AV.str (tb [])])])]
        (rw[hR2];exact⟨_,_,xR _,BK rfl,⟨rfl,rfl,rfl,rfl,rfl⟩,by simp[bA,bI],by simp⟩)
      · have eS:iJ s=⟨iq s,0,0,0,0,[]⟩:=by unfold iJ;rw[if_neg (by omega)]
        have eF:dx (iq s)=[1,2,3]:=by unfold dx;rw[if_neg e7,if_neg e6]
        rw[eS,eF]at hR2
        simp only[EZ,ah,Nat.reduceAdd,Nat.reduceBEq,gz,c8,EB,bo,EA,ngp,rp_3,rp_4,fU,cb,cb2,sb3,sb4,bI,aE,ay,decide_eq_false e6,decide_eq_false e7,xC]
        (rw[hR2];exact⟨_,_,xR _,BK rfl,⟨rfl,rfl,rfl,rfl,rfl⟩,by simp[bA,bI],by simp⟩)
  intro zst hzst
  rw[hR2]at hzst
  clear hR2
  obtain⟨fb,M,g,rfl,⟨eg0,eg2,eg4,eg5,eg6⟩,hfb,hfl⟩:=hzst
  rw[show(List.range 98).map g=g 0::g 1::g 2::g 3::g 4::g 5::g 6::g 7::g 8::g 9::g 10::g 11::g 12::g 13::g 14::g 15::g 16::g 17::g 18::g 19::g 20::g 21::g 22::g 23::g 24::g 25::g 26::g 27::g 28::g 29::g 30::g 31::g 32::g 33::g 34::g 35::g 36::g 37::g 38::g 39::g 40::g 41::g 42::g 43::g 44::g 45::g 46::g 47::g 48::g 49::g 50::g 51::g 52::g 53::g 54::g 55::g 56::g 57::g 58::g 59::g 60::g 61::g 62::g 63::g 64::g 65::g 66::g 67::g 68::g 69::g 70::g 71::g 72::g 73::g 74::g 75::g 76::g 77::g 78::g 79::g 80::g 81::g 82::g 83::g 84::g 85::g 86::g 87::g 88::g 89::g 90::g 91::g 92::g 93::g 94::g 95::g 96::g 97::[] from rfl]
  simp only[eg0,eg2,eg4,eg5,eg6]
  have hfx:∀x:bJ,bA ((h++[some (0,bI x)])++M) fb=some (0,(dx (iq s)).map fun j=>AV.gp h.length 0 j):=fun x=>by
    rw[←hfb]
    unfold bA
    rw[List.getElem?_append_right (by simp;omega),List.getElem?_append_right (by simp;omega)]
    simp
  obtain⟨wt,hwt⟩:∃wt,wt=(aU 32 s).tail:=⟨_,rfl⟩
  have c3':∀w∈wt,vd w=true:=fun w hw=>c3 w (List.mem_of_mem_tail (hwt▸hw))
  have k12':∀w∈wt,w.length≤1000:=fun w hw=>by
    have:=List.all_eq_true.1 D3 s hs
    simp only[Bool.and_eq_true,List.all_eq_true,decide_eq_true_eq]at this
    have:=(this.2 w (List.mem_of_mem_tail (hwt▸hw))).2
    omega
  have wl:wt.length≤10:=by rw[hwt,List.length_tail];omega
  have ssucc:∀i,(hi:i<wt.length)→mJ s (i+1)=yH (dx (iq s)) (mJ s i) wt[i]:=fun i hi=>by
    subst hwt;exact Cm hi
  have okk:∀i,(hi:i<wt.length)→okW (dx (iq s)) (mJ s i) wt[i]=true∧(mJ s i).2≤i:=fun i hi=>by
    have:=t5 i (hwt▸hi)
    rw[←hwt,List.getD_eq_getElem?_getD,List.getElem?_eq_getElem hi]at this
    exact this
  rw[←hwt]at cf t1
  have L1:=bH false 1 false wt fun w=>[AV.str (tb w)]
  have j0:=fun k (hk:k<wt.length)=>bW (β:=false) (sz:=1) (ex:=false) (l:=wt) (ce:=fun w=>[AV.str (tb w)]) (k:=k) hk
  generalize hwx:AV.vs false 1 false (wt.map fun w=>[AV.str (tb w)])=wx at *
  have s00:mJ s 0=(iJ s,0):=rfl
  simp only[EZ,ah,Nat.reduceAdd,Nat.reduceBEq,gz,c8,EB,bo,ke,cf,L1]
  refine bD aF mixed [5] (fun i:Nat=>i≤wt.length) (fun i=>wt.length-i)
    (fun i=>jo (.str (tb s)) (.lp ([]:List (List AV)).length 0) (.gp h.length 0 0) (.gs fb 0 0 (dx (iq s)).length (dx (iq s)).length 1 true) (.int .i64 (mJ s i).2) wx (.int .i64 wt.length) (.int .i64 i) (([]:List (List AV))++[bI ⟨0,0,0,0,0,[]⟩]) ((h++[some (0,bI (mJ s i).1)])++M)) 0 (by omega) ⟨by simp[jo,cj,ck,s00],rfl,rfl⟩ ?_
  rintro i hi
  simp only[EZ,ah,Nat.reduceAdd,Nat.reduceBEq,gz,c8,jo,EB]
  refine ba (fun hlt=>?_) (fun hge=>?_)
  rotate_left
  · have hii:i=wt.length:=by simp at hge;omega
    subst hii
    rw[t1]
    simp only[bI]at hfi ⊢
    have sto6:∀(e:List AV) (H:AH),(St.mk e (([]:List (List AV))++[[AV.int .i64 0,.int .i64 0,.int .i64 0,.int .i64 0,.int .i64 0,.str (tb [])]]) H).store (.lp ([]:List (List AV)).length 0) [.int .i64 (bM s).op,.int .i64 (bM s).a,.int .i64 (bM s).b,.int .i64 (bM s).c,.int .i64 (bM s).d,.str (tb (bM s).name)]=some ⟨e,([]:List (List AV))++[[.int .i64 (bM s).op,.int .i64 (bM s).a,.int .i64 (bM s).b,.int .i64 (bM s).c,.int .i64 (bM s).d,.str (tb (bM s).name)]],H⟩:=fun e H=>rfl
    simp only[EZ,ah,Nat.reduceAdd,Nat.reduceBEq,gz,c8,EB,cb]
    refine aq.val (by simp only[EO]) (hfi _) ?_
    simp only[EZ,ah,Nat.reduceAdd,Nat.reduceBEq,gz,c8,EB,bo,ER,cb,bB,decide_true,q0,wz,decide_eq_false o3,sto6]
    exact⟨rfl,_,_,[],rfl,List.append_assoc _ _ _,show aV _ (bI (bM s)) (A6 (bM s)) [] from .i (.i (.i (.i (.i (.s .nil))))),by simp,by simp⟩
  have hlt:i<wt.length:=by simpa using hlt
  have j1:=j0 i hlt
  have hat:=fun h=>Mb hΓ (k12' _ (List.getElem_mem hlt)) (c3' _ (List.getElem_mem hlt)) h
  obtain⟨ok,k2i⟩:=okk i hlt
  have hsu:=ssucc i hlt
  simp only[EZ,ah,Nat.reduceAdd,Nat.reduceBEq,gz,c8,EB,j1]
  refine aq.ref (by simp only[EO]) (hat _) ?_
  rintro v h' ⟨hv,rfl⟩
  unfold okW at ok
  unfold yH at hsu
  cases hn:mg wt[i]with
  | none=>
    rw[hn]at hv ok hsu
    simp only[decide_eq_true_eq]at hv ok hsu
    obtain⟨x,t,p,rfl⟩:=hv
    have sn:∀e L,(St.mk e L ((h++[some (0,bI (mJ s i).1)])++M)).store (.gp h.length 0 5) [.str (tb wt[i])]=some ⟨e,L,(h++[some (0,bI { (mJ s i).1 with name:=wt[i] })])++M⟩:=fun e L=>vw e L h M _ [.str (tb wt[i])] 5 (by simp[bI]) rfl
    have ld5:sub (bI (mJ s i).1) 5 1=some [.str (tb [])]:=by rw[←ok];rfl
    simp only[EZ,ah,Nat.reduceAdd,Nat.reduceBEq,gz,c8,EB,bo,ER,K4,cb,ld5,q0,bB,decide_true,sn]
    exact⟨i+1,hlt,by omega,⟨by rw[wN (by omega),hsu];simp[jo,cj,ck],by simp[jo,cj],by simp only[jo,hsu]⟩⟩
  | some n=>
    rw[hn]at hv ok hsu
    simp only[decide_eq_true_eq]at hv ok hsu
    subst hv
    obtain⟨f1,f2⟩:=DZ ok
    have nk:¬(((mJ s i).2:Nat):Int)=(((dx (iq s)).length:Nat):Int):=by omega
    have lf:fu false (.gs fb 0 0 (dx (iq s)).length (dx (iq s)).length 1 true)=some (.int .i64 (dx (iq s)).length):=rfl
    have ix:cm 1 (.gs fb 0 0 (dx (iq s)).length (dx (iq s)).length 1 true) (((mJ s i).2:Nat):Int)=some (.gp fb 0 (mJ s i).2):=by rw[fo ok,Nat.zero_add,Nat.mul_one]
    have ldp:∀(e:List AV) (L:List (List AV)),(St.mk e L ((h++[some (0,bI (mJ s i).1)])++M)).cells (.gp fb 0 (mJ s i).2) 1=some [.gp h.length 0 ((dx (iq s)).getD (mJ s i).2 0)]:=fun e L=>by
      rw[ee (hfx _)]
      simp only[sub]
      rw[if_pos (by simp;omega),List.drop_eq_getElem_cons (by simpa using ok),List.getD_eq_getElem?_getD,List.getElem?_eq_getElem ok]
      simp
    have sn:∀e L,(St.mk e L ((h++[some (0,bI (mJ s i).1)])++M)).store (.gp h.length 0 ((dx (iq s)).getD (mJ s i).2 0)) [.int .i64 (n:Int)]=some ⟨e,L,(h++[some (0,bI ((mJ s i).1.set ((dx (iq s)).getD (mJ s i).2 0) n))])++M⟩:=fun e L=>by
      rw[←CI _ _ f1 f2]
      exact vw e L h M _ _ _ (show(dx (iq s)).getD (mJ s i).2 0+1≤6 by omega) rfl
    simp only[EZ,ah,Nat.reduceAdd,Nat.reduceBEq,gz,c8,EB,bo,ER,K5,lf,aE,decide_eq_false nk,ix,ldp,sn]
    exact⟨i+1,hlt,by omega,⟨by rw[wN (by omega),wN (by omega),hsu];simp[jo,cj,ck],by simp[jo,cj],by simp only[jo,hsu]⟩⟩
end Go.Proofs.YtdlbaonelfcahaaGreatDoor
namespace Go.Proofs.YtdlbaonelfcahaaGreatDoor
open Go.AM
variable {Γ:bG}
theorem Qs{l:List bj}(hl:l.length≤1000)(nm:Tx){H:AH}{v:AV}{fp:List Nat}(a:Cg H v l fp):
    ∃v' H',(∀e L,lK ⟨e,L,H++[some (0,[.str (tb nm),.nils])]⟩ 2 40 v (cH ⟨e,L,H++[some (0,[.str (tb nm),.nils])]⟩ 2 false (.gs H.length 0 0 1 1 2 true)) (lenOf (.gs H.length 0 0 1 1 2 true)) (lenOf v)=.val v' ⟨e,L,H'⟩)∧qc H fp H' v' (l++[⟨nm,[]⟩]):=by
  obtain⟨o,nd⟩:=a
  obtain⟨v',H',fp',ea,o',nd',hf',hl',hm'⟩:=dz (bytes:=40) o (ys:=[.str (tb nm),.nils]) (row:=Av ⟨nm,[]⟩) (f2:=[]) (by simpa using nd) (by omega) rfl
    (show aV H _ [.s _,.sl 2 []] ([]++[]) from .s (.o (.nil _) .nil)) (by simp only[List.length_map,aX];omega)
  refine⟨v',H',ea,fp',⟨by rw[List.map_append];exact o',nd'⟩,hl',fun c h1 h2=>hf' c h2 h1,fun c hc=>?_⟩
  rcases hm' c hc with q|q|q
  · exact .inl q
  · cases q
  · exact .inr q
theorem Mr{l:List bj}{n:Nat}(hn:l.length=n+1){s:bj}(hs:l[n]'(by omega)=s)(hm:s.methods.length≤1000)(nm:Tx){H:AH}{v:AV}{fp:List Nat}(a:Cg H v l fp):
    ∃b g p wm v' H' H2,cm 2 v (n:Int)=some (.gp b g p)∧(∀(e:List AV) (L:List (List AV)),(St.mk e L H).cells (.gp b g (p+1)) 1=some [wm])∧cellsOf wm=some [wm]∧b8 wm=true∧bk wm=true∧
      (∀e L,lK ⟨e,L,H++[some (0,[.str (tb nm),.nils])]⟩ 2 40 wm (cH ⟨e,L,H++[some (0,[.str (tb nm),.nils])]⟩ 2 false (.gs H.length 0 0 1 1 2 true)) (lenOf (.gs H.length 0 0 1 1 2 true)) (lenOf wm)=.val v' ⟨e,L,H'⟩)∧
      cellsOf v'=some [v']∧b8 v'=true∧bk v'=true∧(∀(e:List AV) (L:List (List AV)),(St.mk e L H').store (.gp b g (p+1)) [v']=some ⟨e,L,H2⟩)∧qc H fp H2 v (l.set n ⟨s.name,s.methods++[⟨nm,[]⟩]⟩):=by
  obtain⟨o,nd⟩:=a
  obtain⟨b,g,p,wm,f,iR,_,_,rdm,om,nf,sf,bm,bn,_,close⟩:=o.kh nd (k:=n) (by rw[List.length_map];omega) (nm:=tb s.name) (sz:=2) (ys:=s.methods.map zi) (by rw[List.getElem_map,hs];rfl)
  obtain⟨v',H',fp',ea,o',nd',hf',hl',hm'⟩:=dz (bytes:=40) om (ys:=[.str (tb nm),.nils]) (row:=zi ⟨nm,[]⟩) (f2:=[]) (by simpa using nf) (by omega) rfl
    (show aV H _ [.s _,.sl 6 []] ([]++[]) from .s (.o (.nil _) .nil)) (by simp only[List.length_map,aX];omega)
  have hm2:∀c∈fp',c∈f∨H.length≤c:=fun c hc=>by
    rcases hm' c hc with q|q|q
    · exact .inl q
    · cases q
    · exact .inr q
  obtain⟨H2,fp2,st,l2,r2,oF,nF,mF⟩:=close H' v' _ fp' hl' o' nd' hm2 (fun c h1 h2=>hf' c h2 h1)
  obtain⟨m1,m2,m3,m4⟩:=om.cell
  obtain⟨n1,n2,n3,n4⟩:=o'.cell
  refine⟨b,g,p,wm,v',H',H2,iR,fun e L=>rdm H rfl e L,m1,m2,m3,ea,n1,n2,n3,st,fp2,⟨by rw[jN,List.map_append];exact oF,nF⟩,by omega,fun c h1 h2=>?_,mF⟩
  rw[r2 c (fun e=>h2 (e▸bm)),hf' c (fun h=>h2 (sf c h)) h1]
theorem Pm{l:List bj}{n:Nat}(hn:l.length=n+1){s:bj}(hs:l[n]'(by omega)=s){k:Nat}(hk:s.methods.length=k+1)(hm:s.methods.length≤1000){m:cD}(hm1:s.methods[k]'(by omega)=m)(hmc:m.code.length≤1000)(x:bJ){H:AH}{v:AV}{fp:List Nat}(a:Cg H v l fp):
    ∃b g p wm b2 g2 p2 wc v' H' H2,cm 2 v (n:Int)=some (.gp b g p)∧(∀(e:List AV) (L:List (List AV)),(St.mk e L H).cells (.gp b g (p+1)) 1=some [wm])∧fu false wm=some (.int .i64 ((k+1:Nat):Int))∧cellsOf wm=some [wm]∧b8 wm=true∧bk wm=true∧
      cm 2 wm (k:Int)=some (.gp b2 g2 p2)∧(∀(e:List AV) (L:List (List AV)),(St.mk e L H).cells (.gp b2 g2 (p2+1)) 1=some [wc])∧cellsOf wc=some [wc]∧b8 wc=true∧bk wc=true∧
      (∀e L,lK ⟨e,L,H++[some (0,bI x)]⟩ 6 56 wc (cH ⟨e,L,H++[some (0,bI x)]⟩ 6 false (.gs H.length 0 0 1 1 6 true)) (lenOf (.gs H.length 0 0 1 1 6 true)) (lenOf wc)=.val v' ⟨e,L,H'⟩)∧
      cellsOf v'=some [v']∧b8 v'=true∧bk v'=true∧(∀(e:List AV) (L:List (List AV)),(St.mk e L H').store (.gp b2 g2 (p2+1)) [v']=some ⟨e,L,H2⟩)∧qc H fp H2 v (l.set n ⟨s.name,s.methods.set k ⟨m.name,m.code++[x]⟩⟩):=by
  obtain⟨o,nd⟩:=a
  obtain⟨b,g,p,wm,f,iR,_,_,rdm,om,nf,sf,bm,bn,closeR,_⟩:=o.kh nd (k:=n) (by rw[List.length_map];omega) (nm:=tb s.name) (sz:=2) (ys:=s.methods.map zi) (by rw[List.getElem_map,hs];rfl)
  have L1:=(gM om).2
  rw[List.length_map,hk]at L1
  obtain⟨b2,g2,p2,wc,f2,iC,_,_,rdc,oc,nc,sc,bmc,bnc,_,closeC⟩:=om.kh nf (k:=k) (by rw[List.length_map];omega) (nm:=tb m.name) (sz:=6) (ys:=m.code.map A6) (by rw[List.getElem_map,hm1];rfl)
  obtain⟨v',H',fp',ea,o',nd',hf',hl',hm'⟩:=dz (bytes:=56) oc (ys:=bI x) (row:=A6 x) (f2:=[]) (by simpa using nc) (by omega) rfl
    (show aV H (bI x) (A6 x) [] from .i (.i (.i (.i (.i (.s .nil)))))) (by simp only[List.length_map,aX];omega)
  have hm2:∀c∈fp',c∈f2∨H.length≤c:=fun c hc=>by
    rcases hm' c hc with q|q|q
    · exact .inl q
    · cases q
    · exact .inr q
  obtain⟨H2,fp2,st,l2,r2,oF,nF,mF⟩:=closeC H' v' _ fp' hl' o' nd' hm2 (fun c h1 h2=>hf' c h2 h1)
  have fr2:∀c,c<H.length→c∉f→H2[c]? = H[c]?:=fun c h1 h2=>by
    rw[r2 c (fun e=>h2 (e▸bmc)),hf' c (fun h=>h2 (sc c h)) h1]
  obtain⟨fp3,oG,nG,mG⟩:=closeR H2 _ fp2 (by omega) oF nF mF fr2
  obtain⟨m1,m2,m3,m4⟩:=om.cell
  obtain⟨n1,n2,n3,n4⟩:=o'.cell
  obtain⟨k1,k2,k3,k4⟩:=oc.cell
  exact⟨b,g,p,wm,b2,g2,p2,wc,v',H',H2,iR,fun e L=>rdm H rfl e L,L1,m1,m2,m3,iC,fun e L=>rdc H rfl e L,k1,k2,k3,ea,n1,n2,n3,st,fp3,⟨by rw[jN,pS,List.map_append];exact oG,nG⟩,by omega,fun c h1 h2=>fr2 c h1 (fun h=>h2 (sf c h)),mG⟩
set_option maxHeartbeats 16000000 in
set_option maxRecDepth 10000 in
theorem OR(hΓ:ik Γ)(hF:∀h,T Tryz.prog Γ Fn.VS [.vs true 2 false (dP.map (aB.c true))] h fun v h'=>v=.str (tb dH)∧h'=h)(h:AH):T Tryz.prog Γ Fn.Xp [.str (tb dH)] h (bc h [.c (.sl 2 (dP.map aB.cd)),.c (.b true)]):=by
  have LT:=qA dH
  have ht:=yP
  have nt:¬((dH.length:Nat):Int)>4000:=by omega
  have hsp:=fun h=>C5 hΓ dH ht 10 h
  have L0:=bH false 1 false (aU 10 dH) fun w=>[AV.str (tb w)]
  rw[iV]at L0
  have i0:∀k,k<cG→cm 1 (.vs false 1 false ((aU 10 dH).map fun w=>[AV.str (tb w)])) (k:Int)=some (.ip false [.str (tb (cS k))]):=fun k hk=>by
    have hl:k<(aU 10 dH).length:=by rw[iV];omega
    have e:=bW (β:=false) (sz:=1) (ex:=false) (l:=aU 10 dH) (ce:=fun w=>[AV.str (tb w)]) (k:=k) hl
    have e2:=xk k hk
    rw[List.getElem?_eq_getElem hl,Option.some.injEq]at e2
    rw[e,e2]
  have iL:cm 1 (.vs false 1 false ((aU 10 dH).map fun w=>[AV.str (tb w)])) ((cG:Nat):Int)=some (.ip false [.str (tb [])]):=by
    have hl:cG<(aU 10 dH).length:=by rw[iV];omega
    have e:=bW (β:=false) (sz:=1) (ex:=false) (l:=aU 10 dH) (ce:=fun w=>[AV.str (tb w)]) (k:=cG) hl
    have e2:=AA
    rw[List.getElem?_eq_getElem hl,Option.some.injEq]at e2
    rw[e,e2]
  generalize e0:AV.vs false 1 false ((aU 10 dH).map fun w=>[AV.str (tb w)])=a0 at *
  have hn:=rz
  have q10:(⟨#[10]⟩:ByteArray)=tb [10]:=rfl
  have q1:(⟨#[115,99,114,105,112,116,32]⟩:ByteArray)=tb bu:=rfl
  have q2:(⟨#[109,101,116,104,111,100,32]⟩:ByteArray)=tb bz:=rfl
  have q0:(⟨#[]⟩:ByteArray)=tb []:=rfl
  refine T.yu rfl ?_
  refine N9 (au aF mixed [] _ _ _ ?_)
  unfold IC
  simp only[EZ,ah,Nat.reduceAdd,Nat.reduceBEq,fZ,cV,cU,EB,ER,EA,LT,decide_eq_false nt,q10]
  refine aq.val (by simp only[EO]) (hsp _) ?_
  simp only[EZ,ah,Nat.reduceAdd,Nat.reduceBEq,fZ,cV,cU,EB,ER,L0]
  refine bD aF mixed [] (fun x:Nat×AV×AH×List Nat×List (List AV)=>x.1≤cG+1∧Cg x.2.2.1 x.2.1 (eA (min x.1 cG)) x.2.2.2.1∧(∀c∈x.2.2.2.1,h.length≤c)∧∃N,x.2.2.1=h++N) (fun x=>cG+1-x.1)
    (fun x=>kU (.str (tb dH)) x.2.1 a0 (.int .i64 (cG+1:Nat)) (.int .i64 x.1) x.2.2.2.2 x.2.2.1) (0,.gs h.length 0 0 0 0 2 true,h++[some (0,[])],[h.length],([]:List (List AV))) ⟨by omega,⟨dQ h 2,by simp⟩,by simp,_,rfl⟩ ⟨by simp[kU,cj,ck],rfl,rfl⟩ ?_
  rintro⟨k,v,H,fp,L⟩ ⟨hk,la,hfp,M,hM⟩
  simp only at hk la hfp hM
  subst hM
  simp only[EZ,ah,Nat.reduceAdd,Nat.reduceBEq,fZ,cV,cU,kU]
  refine ba (fun hlt=>?_) (fun hge=>?_)
  rotate_left
  · have hk:k=cG+1:=by simp at hge;omega
    subst hk
    rw[Nat.min_eq_right (by omega),vV]at la
    obtain⟨o,nd⟩:=la
    obtain⟨a1,a2,a3,a4⟩:=o.cell
    rw[Dg]at o
    simp only[EZ,ah,Nat.reduceAdd,Nat.reduceBEq,fZ,cV,cU,EB,ER]
    refine aq.jE (by simp only[EO,a4]) (bY (bO.jE (aB.cr true) o) dR) (fun h=>He true dP ou (fun s hs=>(oO s hs).ok) h) (.bool _) ?_
    simp only[EZ,ah,Nat.reduceAdd,Nat.reduceBEq,fZ,cV,cU,EB,ER]
    refine aq.jE (by simp only[EO,a4]) (bY (bO.jE (aB.cr true) o) dR) (fun h=>hF h) (.str _) ?_
    simp only[EZ,ah,Nat.reduceAdd,Nat.reduceBEq,fZ,cV,cU,EB,bo,ER,bB,decide_true]
    exact⟨by simp only[List.all_cons,List.all_nil,EO,a4,Bool.and_self],v,M,fp,rfl,rfl,o,nd,hfp⟩
  have hlt:k<cG+1:=by
    have:=of_decide_eq_true hlt
    omega
  obtain⟨a1,a2,a3,a4⟩:=la.1.cell
  by_cases hkl:k=cG
  · subst hkl
    have hcp:=fun h=>xx (Γ:=Γ) [] bu h
    rw[pre_nil,show Lib.trimPrefix [] bu=[]by unfold Lib.trimPrefix;rw[pre_nil];rfl]at hcp
    simp only[EZ,ah,Nat.reduceAdd,Nat.reduceBEq,fZ,cV,cU,EB,ER,iL,q1]
    refine aq.val (by simp only[EO]) (hcp _) ?_
    simp only[EZ,ah,Nat.reduceAdd,Nat.reduceBEq,fZ,cV,cU,EB,bo,ER,q0,bB,decide_true]
    exact⟨(cG+1,v,h++M,fp,L),⟨by omega,by simp only;rw[Nat.min_eq_right (by omega)];rw[Nat.min_eq_right (by omega)]at la;exact la,hfp,M,rfl⟩,by simp only;omega,⟨by rw[wN (by omega)];simp[kU,cj,ck],rfl,rfl⟩⟩
  have hkn:k<cG:=by omega
  rw[Nat.min_eq_left (by omega)]at la
  have mk1:min (k+1) cG=k+1:=Nat.min_eq_left (by omega)
  have i1:=i0 k hkn
  have ok:=B6 hkn
  have op:Wr k=true:=List.all_eq_true.1 DT k (List.mem_range.2 hkn)
  have hS:=tT hkn
  unfold Vl at ok
  unfold Wr at op
  unfold yW at hS
  simp only[Bool.and_eq_true,decide_eq_true_eq]at ok op
  obtain⟨h1,h2,h3⟩:=ok
  obtain⟨p1,p2⟩:=op
  have hcp:=fun h=>xx (Γ:=Γ) (cS k) bu h
  have done:∀{v':AV} {H':AH} {e:List AV} {L':List (List AV)},qc (h++M) fp H' v' (eA (k+1))→∃M' fp',H'=h++M'∧Cg H' v' (eA (min (k+1) cG)) fp'∧∀c∈fp',h.length≤c:=fun{v' H' e L'} u=>by
    obtain⟨fp',la',hl',hf',hm'⟩:=u
    obtain⟨M',rfl⟩:=vb hl' (fun c h1 h2=>hf' c h2 h1) hfp
    exact⟨M',fp',rfl,by rw[mk1];exact la',fun c hc=>by
      rcases hm' c hc with q|q
      · exact hfp c q
      · simp at q;omega⟩
  by_cases c1:(cS k).take 7=bu
  · rw[if_pos c1]at h3 p2 hS
    simp only[Bool.and_eq_true,decide_eq_true_eq]at p2
    rw[p2.1,p2.2]at hcp
    obtain⟨v',H',ea,u⟩:=Qs (by omega) ((cS k).drop 7) la
    rw[←hS]at u
    obtain⟨M',fp',rfl,la',hfp'⟩:=done (e:=[]) (L':=[]) u
    simp only[EZ,ah,Nat.reduceAdd,Nat.reduceBEq,fZ,cV,cU,EB,ER,i1,q1]
    refine aq.val (by simp only[EO]) (hcp _) ?_
    simp only[EZ,ah,Nat.reduceAdd,Nat.reduceBEq,fZ,cV,cU,EB,bo,EA,ER,dc,ji,jg,jn,ea]
    exact⟨(k+1,v',h++M',fp',L),⟨by omega,la',hfp',M',rfl⟩,by simp only;omega,⟨by rw[wN (by omega)];simp[kU,cj,ck],rfl,rfl⟩⟩
  rw[if_neg c1]at h3 p2 hS
  simp only[Bool.and_eq_true,decide_eq_true_eq,Bool.not_eq_true']at h3 p2
  obtain⟨h4,h5,h6⟩:=h3
  obtain⟨p3,p4⟩:=p2
  rw[p3,show Lib.trimPrefix (cS k) bu=cS k by unfold Lib.trimPrefix;rw[p3];rfl]at hcp
  have hcm:=fun h=>xx (Γ:=Γ) (cS k) bz h
  have LO:=(gM la.1).2
  obtain⟨n,hn1⟩:∃n,(eA k).length=n+1:=⟨(eA k).length-1,by omega⟩
  have hw:=Wi hn1 (by omega)
  have hne0:¬((((eA k).map Av).length:Nat):Int)=0:=by rw[List.length_map];omega
  have eS:(eA k)[n]'(by omega)=eC (eA k):=by
    unfold eC;rw[List.getD_eq_getElem?_getD,show(eA k).length-1=n by omega,List.getElem?_eq_getElem (by omega)];rfl
  have en:(eA k).length-1=n:=by omega
  by_cases c2:(cS k).take 7=bz
  · rw[if_pos c2]at h6 p4 hS
    simp only[Bool.and_eq_true,decide_eq_true_eq]at p4
    rw[p4.1,p4.2]at hcm
    obtain⟨b,g,p,wm,v',H',H2,iR,rd,m1,m2,m3,ea,n1,n2,n3,st,u⟩:=Mr hn1 eS (by omega) ((cS k).drop 7) la
    rw[en]at hS
    rw[←hS]at u
    obtain⟨M',fp',rfl,la',hfp'⟩:=done (e:=[]) (L':=[]) u
    simp only[EZ,ah,Nat.reduceAdd,Nat.reduceBEq,fZ,cV,cU,EB,ER,i1,q1]
    refine aq.val (by simp only[EO]) (hcp _) ?_
    simp only[EZ,ah,Nat.reduceAdd,Nat.reduceBEq,fZ,cV,cU,EB,bo,ER,q0,bB,wz,decide_eq_false p1,LO,aE,decide_eq_false hne0,hw,iR,q2]
    refine aq.val (by simp only[EO]) (hcm _) ?_
    simp only[EZ,ah,Nat.reduceAdd,Nat.reduceBEq,fZ,cV,cU,EB,bo,EA,ER,rd,m1,m2,m3,dc,ji,jg,jn,ea,n1,n2,n3,st]
    exact⟨(k+1,v,h++M',fp',L),⟨by omega,la',hfp',M',rfl⟩,by simp only;omega,⟨by rw[wN (by omega)];simp[kU,cj,ck],rfl,rfl⟩⟩
  rw[if_neg c2]at h6 p4 hS
  simp only[Bool.and_eq_true,decide_eq_true_eq,Bool.not_eq_true']at h6 p4
  obtain⟨h7,h8,h9⟩:=h6
  rw[p4,show Lib.trimPrefix (cS k) bz=cS k by unfold Lib.trimPrefix;rw[p4];rfl]at hcm
  obtain⟨j,hj1⟩:∃j,(eC (eA k)).methods.length=j+1:=⟨(eC (eA k)).methods.length-1,by omega⟩
  have eM:(eC (eA k)).methods[j]'(by omega)=pQ (eC (eA k)):=by
    unfold pQ;rw[List.getD_eq_getElem?_getD,show(eC (eA k)).methods.length-1=j by omega,List.getElem?_eq_getElem (by omega)];rfl
  have ej:(eC (eA k)).methods.length-1=j:=by omega
  obtain⟨b,g,p,wm,b2,g2,p2,wc,v',H',H2,iR,rd,lm,m1,m2,m3,iC,rd2,k1,k2,k3,ea,n1,n2,n3,st,u⟩:=Pm hn1 eS hj1 (by omega) eM (by omega) (bM (cS k)) la
  rw[en,ej]at hS
  rw[←hS]at u
  obtain⟨M',fp',rfl,la',hfp'⟩:=done (e:=[]) (L':=[]) u
  have hp:=fun h=>TY hΓ h7 h
  have hw2:IntKind.i64.wrap (((j+1:Nat):Int)-1)=(j:Int):=Xj (by omega)
  have hj0:¬(((j+1:Nat):Int)=0):=by omega
  simp only[bI]at hp ea
  simp only[EZ,ah,Nat.reduceAdd,Nat.reduceBEq,fZ,cV,cU,EB,ER,i1,q1]
  refine aq.val (by simp only[EO]) (hcp _) ?_
  simp only[EZ,ah,Nat.reduceAdd,Nat.reduceBEq,fZ,cV,cU,EB,bo,ER,q0,bB,wz,decide_eq_false p1,LO,aE,decide_eq_false hne0,hw,iR,q2]
  refine aq.val (by simp only[EO]) (hcm _) ?_
  simp only[EZ,ah,Nat.reduceAdd,Nat.reduceBEq,fZ,cV,cU,EB,bo,EA,ER]
  refine aq.val (by simp only[EO]) (hp _) ?_
  simp only[EZ,ah,Nat.reduceAdd,Nat.reduceBEq,fZ,cV,cU,EB,bo,EA,ER,q0,rd,m1,m2,m3,lm,aE,decide_eq_false hj0,hw2,iC,rd2,k1,k2,k3,dc,ji,jg,jn,ea,n1,n2,n3,st]
  exact⟨(k+1,v,h++M',fp',_),⟨by omega,la',hfp',M',rfl⟩,by simp only;omega,⟨by rw[wN (by omega)];simp[kU,cj,ck],rfl,rfl⟩⟩
end Go.Proofs.YtdlbaonelfcahaaGreatDoor
