import Derived.Test.YtccjhmhkfnnmaaaGreatR6G25
import Derived.Test.YtccjhmhkfnnmaaaGreatAmG10
import Derived.Test.YtccjhmhkfnnmaaaGreatAmG9
import Derived.Test.YtccjhmhkfnnmaaaGreatR6G16
import Derived.Test.YtccjhmhkfnnmaaaGreatR6G15
set_option linter.unusedVariables false
set_option linter.unusedSimpArgs false
namespace Go.Proofs.YtccjhmhkfnnmaaaGreat
open Go.AM
variable {Γ:cj}
def gC(gi no ta:Int)(x:au):Bool:=x.giver == gi && x.nonce == no && x.taker == ta
def dO(l:List au)(ta gi no:Int):List au×Int×Bool:=
  if 0≤dI (gC gi no ta) l then (l.eraseIdx (dI (gC gi no ta) l).toNat,(l.getD (dI (gC gi no ta) l).toNat default).entity,true)else (l,-1,false)
theorem BT{l:List au}{ta gi no:Int}{k:Nat}(hk:k<l.length)(h:dI (gC gi no ta) l=(k:Int)):dO l ta gi no=(l.eraseIdx k,l[k].entity,true):=by
  unfold dO
  rw[h,if_pos (by omega)]
  simp[List.getD_eq_getElem?_getD,hk]
theorem vB{l:List au}{ta gi no:Int}(h:dI (gC gi no ta) l = -1):dO l ta gi no=(l,-1,false):=by
  unfold dO;rw[h,if_neg (by omega)]
theorem P4(β:Bool)(x:au)(gi no ta:Int)(H:AH){p1 p2 p3:AV}(h1:Ptr H p1 [.int .i64 gi])(h2:Ptr H p2 [.int .i64 no])(h3:Ptr H p3 [.int .i64 ta]):T Tryz.prog Γ Fn.PQ [.agg (x.c β),p1,p2,p3] H fun v h'=>v=.bool (gC gi no ta x)∧h'=H:=by
  refine Q3 (aD aJ aK [] _ _ _ ?_)
  unfold Lu
  have q1:∀(e:List AV) (l:List (List AV)),(St.mk e l H).cells p1 1=some [.int .i64 gi]:=fun e l=>h1.rd0 e l 0 (by simp)
  have q2:∀(e:List AV) (l:List (List AV)),(St.mk e l H).cells p2 1=some [.int .i64 no]:=fun e l=>h2.rd0 e l 0 (by simp)
  have q3:∀(e:List AV) (l:List (List AV)),(St.mk e l H).cells p3 1=some [.int .i64 ta]:=fun e l=>h3.rd0 e l 0 (by simp)
  cases c1:(x.giver == gi)
  · simp only[EZ,ag,Nat.reduceAdd,Nat.reduceBEq,D1,au.c,q1,q2,q3,c1]
    first|exact⟨rfl,by simp[gC,c1]⟩|simp[gC,c1]
  · cases c2:(x.nonce == no)
    · simp only[EZ,ag,Nat.reduceAdd,Nat.reduceBEq,D1,au.c,q1,q2,q3,c1,c2]
      first|exact⟨rfl,by simp[gC,c1,c2]⟩|simp[gC,c1,c2]
    · simp only[EZ,ag,Nat.reduceAdd,Nat.reduceBEq,D1,au.c,q1,q2,q3,c1,c2]
      first|exact⟨rfl,by simp[gC,c1,c2]⟩|simp[gC,c1,c2]
theorem CA(β:Bool)(l:List au)(hl:l.length≤1048577)(gi no ta:Int)(H:AH){p1 p2 p3:AV}(h1:Ptr H p1 [.int .i64 gi])(h2:Ptr H p2 [.int .i64 no])(h3:Ptr H p3 [.int .i64 ta]):T Tryz.prog Γ Fn.OJ [.vs β 4 false (l.map (au.c β)),.fn Fn.PQ [] [p1,p2,p3]] H fun v h'=>v=.int .i64 (dI (gC gi no ta) l)∧h'=H:=
  i5 (P:=Tryz.prog) (Γ:=Γ) aJ aK (sz:=4) (agg:=true) (fun hw=>FY hw) (β:=β) (l:=l) (c:=au.c β) (by omega) (fun x=>⟨⟨rfl,.inl rfl⟩,rfl⟩) (g:=Fn.PQ) (first:=[]) (caps:=[p1,p2,p3]) (by simp[h1.out,h2.out,h3.out]) (gC gi no ta) (h:=H) (fun x hx=>P4 β x gi no ta _ h1 h2 h3)
theorem K8(β:Bool)(l:List au)(hl:l.length≤1048576)(ta gi no:Int)(h:AH):T Tryz.prog Γ Fn.Ou [.vs β 4 false (l.map (au.c β)),.int .i64 ta,.int .i64 gi,.int .i64 no] h (aS h [.c (.sl 4 ((dO l ta gi no).1.map au.cd)),.c (.i .i64 (dO l ta gi no).2.1),.c (.b (dO l ta gi no).2.2)]):=by
  refine T.Jb rfl rfl ?_
  refine Pg (aD aJ aK [5,6,7] _ _ _ ?_)
  unfold Nh
  have bx:∀(s:St) (n:Int),Dg true s (some [.int .i64 n])=.val (.gp s.heap.length 0 0) (s.push [.int .i64 n]):=fun s n=>pQ s _ rfl
  simp only[EZ,ag,Nat.reduceAdd,Nat.reduceBEq,xV,bx,g9,List.length_append,List.length_cons,List.length_nil]
  generalize hg:h++[some (0,[.int .i64 ta])]++[some (0,[.int .i64 gi])]++[some (0,[.int .i64 no])]=h3
  have q1:bJ h3 h.length=some (0,[.int .i64 ta]):=by rw[←hg];simp[bJ]
  have q2:bJ h3 (h.length+1)=some (0,[.int .i64 gi]):=by rw[←hg];simp[bJ]
  have q3:bJ h3 (h.length+1+1)=some (0,[.int .i64 no]):=by
    rw[←hg]
    have e:h.length+1+1=(h++[some (0,[AV.int .i64 ta])]++[some (0,[AV.int .i64 gi])]:AH).length:=by simp
    rw[e];exact cw _ _
  have x3:bQ h h3:=by rw[←hg,List.append_assoc,List.append_assoc];exact bQ.app h _
  have l3:h3.length=h.length+3:=by rw[←hg];simp
  refine ah.ref (by simp only[EO]) (gu β l (by omega) _) ?_
  rintro w H1 fr
  replace fr:aS h3 _ _ _:=fr
  obtain⟨fw,ow,nw,bw,ew⟩:=fr.c1
  obtain⟨c1,c2,c3,c4⟩:=ow.cell
  have r1:bJ H1 h.length=some (0,[.int .i64 ta]):=ij q1 (ew.fr _ (by omega))
  have r2:bJ H1 (h.length+1)=some (0,[.int .i64 gi]):=ij q2 (ew.fr _ (by omega))
  have r3:bJ H1 (h.length+1+1)=some (0,[.int .i64 no]):=ij q3 (ew.fr _ (by omega))
  have bw':∀c∈fw,h.length≤c:=fun c hc=>by have:=bw c hc;omega
  simp only[EZ,ag,Nat.reduceAdd,Nat.reduceBEq,xV,c1,c2,c3]
  refine ah.dT (by simp only[EO,c4]) (aI (bN.dT (au.bM true) ow) (aI (Jd (ub r2) (ub r3) (ub r1)) bm)) (fun h=>CA true l (by omega) gi no ta h (Ptr.ip h true _) (Ptr.ip h true _) (Ptr.ip h true _)) (.int _ _) ?_
  rcases eQ (gC gi no ta) l with⟨k,hk,e1,e2,e3⟩|⟨e1,e2,e3⟩
  rotate_left
  · have ec:=vB e1
    simp only[EZ,ag,Nat.reduceAdd,Nat.reduceBEq,xV,ER,c1,c2,c3,e1,show decide ((-1:Int)<0)=true from rfl]
    obtain⟨N,hN⟩:=(x3.trans ew).out
    exact⟨by simp only[EO,c4],w,N,fw,by rw[ec,CD.fb,CD.fc],hN,by rw[ec];exact ow,nw,bw'⟩
  have ec:=BT hk e1
  have hkm:k<(l.map au.cd).length:=by simpa using hk
  obtain⟨b,g,az,f,i0,_,_,_,rd,oz,_,_,lz⟩:=ow.row nw hkm
  have oo:=oz
  simp only[List.getElem_map,au.cd,gI,gD,hU]at oo
  obtain⟨_,_,_,_,rfl,rfl,⟨rfl,rfl⟩,⟨_,_,_,_,rfl,rfl,⟨rfl,rfl⟩,⟨_,_,_,_,rfl,rfl,⟨rfl,rfl⟩,⟨_,_,_,_,rfl,rfl,⟨rfl,rfl⟩,⟨rfl,rfl⟩⟩⟩⟩⟩:=oo
  have f3':md 3 (.gp b g (k*4))=some (.gp b g (k*4+3)):=rfl
  have rd3:∀(e:List AV) (L:List (List AV)),(St.mk e L H1).cells (.gp b g (k*4+3)) 1=some [.int .i64 l[k].entity]:=fun e L=>by rw[rd e L 3 1 (by omega)];rfl
  have wk:IntKind.i64.wrap ((k:Int)+1)=((k+1:Nat):Int):=wN (by omega)
  simp only[EZ,ag,Nat.reduceAdd,Nat.reduceBEq,xV,ER,c1,c2,c3,e1,decide_eq_false (show ¬(k:Int)<0 by omega),i0,f3',rd3,wk]
  refine ah.ref (by simp only[EO,c4]) (C2 l (by omega) hk _ ow nw) ?_
  rintro v H2 ⟨hl2,hf2,o2⟩
  replace hl2:H2.length=H1.length:=hl2
  replace hf2:∀c,c∉fw→H2[c]? = H1[c]?:=hf2
  obtain⟨d1,d2,d3,d4⟩:=o2.cell
  have ex:=(x3.trans ew).mark hl2 hf2 bw'
  simp only[EZ,ag,Nat.reduceAdd,Nat.reduceBEq,xV,ER,d1,d2,d3]
  obtain⟨N,hN⟩:=ex.out
  exact⟨by simp only[EO,d4],v,N,fw,by rw[ec,CD.fb,CD.fc],hN,by rw[ec];exact o2,nw,bw'⟩
end Go.Proofs.YtccjhmhkfnnmaaaGreat
namespace Go.Proofs.YtccjhmhkfnnmaaaGreat
open Go.AM
variable {Γ:cj}
def i7(v:aA)(l:List au)(gi po ta no:Int):List au×Bool:=
  if (ki v.aq gi && ki v.aq ta)=true then (match v.aq.find? (fun x=>x.peer == gi)with
    | some lk=>if dq lk.exports po<0 then (l,false)else gr l ⟨no,gi,ta,dq lk.exports po⟩
    | none=>(l,false))else (l,false)
theorem BE(v:aA)(l:List au)(gi po ta no:Int):(i7 v l gi po ta no).1.length≤l.length+1:=by
  unfold i7
  split
  · split
    · split
      · simp
      · exact Bt _ _
    · simp
  · simp
theorem xJ:∀(l pre:List eu) (x:eu),x.e<0→iA pre (l++[x])=false
  | [],pre,x,h=>by simp[iA,eu.nG,h]
  | y::l,pre,x,h=>by simp only[List.cons_append,iA,xJ l _ x h,Bool.and_false]
theorem Jf(l:List au)(x:au)(h:x.entity<0):gr l x=(l,false):=by
  have:jG (l++[x])=false:=by
    simp only[jG,km,List.map_append,List.map_cons,List.map_nil]
    rw[xJ _ _ (OF x) h];rfl
  unfold gr;rw[this];rfl
theorem su{v:aA}{l:List au}{gi po ta no:Int}(h:ki v.aq gi=false∨ki v.aq ta=false):i7 v l gi po ta no=(l,false):=by
  unfold i7;rw[if_neg];rcases h with h|h<;>simp[h]
theorem Cu{v:aA}{l:List au}{gi po ta no:Int}(h1:ki v.aq gi=true)(h2:ki v.aq ta=true){k:Nat}(hk:k<v.aq.length)(h3:v.aq.find? (fun x=>x.peer == gi)=some v.aq[k]):
    i7 v l gi po ta no=if dq v.aq[k].exports po<0 then (l,false)else gr l ⟨no,gi,ta,dq v.aq[k].exports po⟩:=by
  unfold i7;rw[if_pos (by simp[h1,h2]),h3]
theorem Tx(β:Bool)(v:aA)(l:List au)(hv:v.ok 1048576)(hl:l.length≤1048576)(gi po ta no:Int)(h:AH):T Tryz.prog Γ Fn.UW [.agg (v.c β),.vs β 4 false (l.map (au.c β)),.int .i64 gi,.int .i64 po,.int .i64 ta,.int .i64 no] h (aS h [.c (.sl 4 ((i7 v l gi po ta no).1.map au.cd)),.c (.b (i7 v l gi po ta no).2)]):=by
  have hll:v.aq.length≤1048576:=hv.2.2.2.2.1
  have hp:Ptr (h++[some (0,v.c β)]) (.gp h.length 0 0) (v.c β):=Ptr.QT (cw _ _)
  refine T.ua rfl ?_
  have fin:∀(w:AV) (H1:AH),aS (h++[some (0,v.c β)]) [.c (.sl 4 (l.map au.cd))] w H1→i7 v l gi po ta no=(l,false)→
      cellsOf w=some [w]∧bK w=true∧bo w=true∧eH w=true∧∃new fp,H1=h++new∧bN H1 w (.sl 4 ((i7 v l gi po ta no).1.map au.cd)) fp∧fp.Nodup∧∀b∈fp,h.length≤b:=by
    intro w H1 fr e
    obtain⟨fw,ow,nw,bw,ew⟩:=fr.c1
    obtain⟨c1,c2,c3,c4⟩:=ow.cell
    obtain⟨N,hN⟩:=((bQ.app h _).trans ew).out
    exact⟨c1,c2,c3,c4,N,fw,hN,by rw[e];exact ow,nw,fun b hb=>by have:=bw b hb;simp at this;omega⟩
  refine SL (aD aJ aK [6] _ _ _ ?_)
  unfold J9
  simp only[EZ,ag,Nat.reduceAdd,Nat.reduceBEq,kY,pQ _ _ (show List.all (aA.c β v) bo=true from rfl),g9]
  refine ah.ref (by simp only[EO]) (Mb β v hll gi _ hp) ?_
  rintro r H0 ⟨⟨hu,k,hk,e1,rfl⟩|⟨hu,rfl⟩,e⟩
  rotate_left
  · replace e:H0=h++[some (0,v.c β)]:=e
    subst e
    simp only[EZ,ag,Nat.reduceAdd,Nat.reduceBEq,kY]
    refine ah.ref (by simp only[EO]) (gu β l (by omega) _) ?_
    rintro w H1 fr
    replace fr:aS (h++[some (0,v.c β)]) _ _ _:=fr
    have ed:=su (v:=v) (l:=l) (gi:=gi) (po:=po) (ta:=ta) (no:=no) (.inl hu)
    obtain⟨c1,c2,c3,c4,N,fw,g1,g2,g3,g4⟩:=fin w H1 fr ed
    simp only[EZ,ag,Nat.reduceAdd,Nat.reduceBEq,kY,ER,c1,c2,c3]
    exact⟨by simp only[List.all_cons,List.all_nil,c4];rfl,w,N,fw,by rw[ed,CD.fc],g1,g2,g3,g4⟩
  replace e:H0=h++[some (0,v.c β)]:=e
  subst e
  simp only[EZ,ag,Nat.reduceAdd,Nat.reduceBEq,kY]
  refine ah.ref (by simp only[EO]) (Mb β v hll ta _ hp) ?_
  rintro r H0 ⟨⟨hu2,k2,hk2,e2,rfl⟩|⟨hu2,rfl⟩,e⟩
  rotate_left
  · replace e:H0=h++[some (0,v.c β)]:=e
    subst e
    simp only[EZ,ag,Nat.reduceAdd,Nat.reduceBEq,kY]
    refine ah.ref (by simp only[EO]) (gu β l (by omega) _) ?_
    rintro w H1 fr
    replace fr:aS (h++[some (0,v.c β)]) _ _ _:=fr
    have ed:=su (v:=v) (l:=l) (gi:=gi) (po:=po) (ta:=ta) (no:=no) (.inr hu2)
    obtain⟨c1,c2,c3,c4,N,fw,g1,g2,g3,g4⟩:=fin w H1 fr ed
    simp only[EZ,ag,Nat.reduceAdd,Nat.reduceBEq,kY,ER,c1,c2,c3]
    exact⟨by simp only[List.all_cons,List.all_nil,c4];rfl,w,N,fw,by rw[ed,CD.fc],g1,g2,g3,g4⟩
  replace e:H0=h++[some (0,v.c β)]:=e
  subst e
  obtain⟨k',hk',e1',e3⟩:=jU hu
  have ekk:k'=k:=by rw[e1]at e1';omega
  subst ekk
  have hlk:=(hv.2.2.2.2.2.1 _ (List.getElem_mem hk)).1
  have ed:=Cu (l:=l) (po:=po) (no:=no) hu hu2 hk e3
  simp only[EZ,ag,Nat.reduceAdd,Nat.reduceBEq,kY]
  refine ah.val (by simp only[EO]) (JX β v.aq[k'] hlk po _ (Ptr.ip _ _ _)) ?_
  rcases eQ (fun x:aM=>x.pos == po) v.aq[k'].exports with⟨j,hj,f1,f2,f3⟩|⟨f1,f2,f3⟩
  rotate_left
  · have ex:dq v.aq[k'].exports po = -1:=by unfold dq;rw[f2]
    rw[if_pos (by rw[ex];omega)]at ed
    simp only[EZ,ag,Nat.reduceAdd,Nat.reduceBEq,kY,f1,show decide ((-1:Int)<0)=true from rfl]
    refine ah.ref (by simp only[EO]) (gu β l (by omega) _) ?_
    rintro w H1 fr
    replace fr:aS (h++[some (0,v.c β)]) _ _ _:=fr
    obtain⟨c1,c2,c3,c4,N,fw,g1,g2,g3,g4⟩:=fin w H1 fr ed
    simp only[EZ,ag,Nat.reduceAdd,Nat.reduceBEq,kY,ER,c1,c2,c3]
    exact⟨by simp only[List.all_cons,List.all_nil,c4];rfl,w,N,fw,by rw[ed,CD.fc],g1,g2,g3,g4⟩
  have ed2:i7 v l gi po ta no=gr l ⟨no,gi,ta,dq v.aq[k'].exports po⟩:=by
    rw[ed]
    split
    · rename_i hneg
      exact(Jf l _ hneg).symm
    · rfl
  simp only[EZ,ag,Nat.reduceAdd,Nat.reduceBEq,kY,f1,decide_eq_false (show ¬(j:Int)<0 by omega),aC.c]
  refine ah.val (by simp only[EO]) (Ug β v.aq[k'] hlk po _) ?_
  simp only[EZ,ag,Nat.reduceAdd,Nat.reduceBEq,kY]
  refine ah.ref (by simp only[EO]) (Kz β false l hl ⟨no,gi,ta,dq v.aq[k'].exports po⟩ _) ?_
  rintro _ H1 fr
  replace fr:aS (h++[some (0,v.c β)]) _ _ _:=fr
  rw[←ed2]at fr
  obtain⟨w,fw,rfl,ow,nw,bw,ew⟩:=fr.c2 rfl
  obtain⟨c1,c2,c3,c4⟩:=ow.cell
  simp only[EZ,ag,Nat.reduceAdd,Nat.reduceBEq,kY,ER,c1,c2,c3]
  obtain⟨N,hN⟩:=((bQ.app h _).trans ew).out
  exact⟨by simp only[List.all_cons,List.all_nil,c4,CD.fc];rfl,w,N,fw,rfl,hN,ow,nw,fun b hb=>by have:=bw b hb;simp at this;omega⟩
theorem Uy(β:Bool)(v:aA)(l:List au)(hv:v.ok 1048576)(hl:l.length≤1048576)(gi po ta no:Int)(h:AH):T Tryz.prog Γ Fn.U4 [.agg (v.c β),.vs β 4 false (l.map (au.c β)),.int .i64 gi,.int .i64 po,.int .i64 ta,.int .i64 no] h (aS h [.c (.sl 4 ((i7 v l gi po ta no).1.map au.cd)),.c (.b (i7 v l gi po ta no).2)]):=by
  have hll:v.aq.length≤1048576:=hv.2.2.2.2.1
  refine T.ua rfl ?_
  have fin:∀(w:AV) (H1:AH),aS h [.c (.sl 4 (l.map au.cd))] w H1→i7 v l gi po ta no=(l,false)→
      cellsOf w=some [w]∧bK w=true∧bo w=true∧eH w=true∧∃new fp,H1=h++new∧bN H1 w (.sl 4 ((i7 v l gi po ta no).1.map au.cd)) fp∧fp.Nodup∧∀b∈fp,h.length≤b:=by
    intro w H1 fr e
    obtain⟨fw,ow,nw,bw,ew⟩:=fr.c1
    obtain⟨c1,c2,c3,c4⟩:=ow.cell
    obtain⟨N,hN⟩:=ew.out
    exact⟨c1,c2,c3,c4,N,fw,hN,by rw[e];exact ow,nw,bw⟩
  refine PY (aD aJ aK [] _ _ _ ?_)
  unfold LP
  simp only[EZ,ag,Nat.reduceAdd,Nat.reduceBEq,kZ,hO,aA.c]
  refine ah.val (by simp only[EO]) (i6 β v hll gi _) ?_
  cases hu:ki v.aq gi
  · simp only[EZ,ag,Nat.reduceAdd,Nat.reduceBEq,kZ,hO]
    refine ah.ref (by simp only[EO]) (qY β l (by omega) _) ?_
    rintro w H1 fr
    replace fr:aS h _ _ _:=fr
    have ed:=su (v:=v) (l:=l) (gi:=gi) (po:=po) (ta:=ta) (no:=no) (.inl hu)
    obtain⟨c1,c2,c3,c4,N,fw,g1,g2,g3,g4⟩:=fin w H1 fr ed
    simp only[EZ,ag,Nat.reduceAdd,Nat.reduceBEq,kZ,hO,ER,c1,c2,c3]
    exact⟨by simp only[List.all_cons,List.all_nil,c4];rfl,w,N,fw,by rw[ed,CD.fc],g1,g2,g3,g4⟩
  simp only[EZ,ag,Nat.reduceAdd,Nat.reduceBEq,kZ,hO,aA.c]
  refine ah.val (by simp only[EO]) (i6 β v hll ta _) ?_
  cases hu2:ki v.aq ta
  · simp only[EZ,ag,Nat.reduceAdd,Nat.reduceBEq,kZ,hO]
    refine ah.ref (by simp only[EO]) (qY β l (by omega) _) ?_
    rintro w H1 fr
    replace fr:aS h _ _ _:=fr
    have ed:=su (v:=v) (l:=l) (gi:=gi) (po:=po) (ta:=ta) (no:=no) (.inr hu2)
    obtain⟨c1,c2,c3,c4,N,fw,g1,g2,g3,g4⟩:=fin w H1 fr ed
    simp only[EZ,ag,Nat.reduceAdd,Nat.reduceBEq,kZ,hO,ER,c1,c2,c3]
    exact⟨by simp only[List.all_cons,List.all_nil,c4];rfl,w,N,fw,by rw[ed,CD.fc],g1,g2,g3,g4⟩
  obtain⟨k,hk,e1,e3⟩:=jU hu
  have hlk:=(hv.2.2.2.2.2.1 _ (List.getElem_mem hk)).1
  have ed:=Cu (l:=l) (po:=po) (no:=no) hu hu2 hk e3
  have i0:=dy (β:=β) (sz:=7) (ex:=false) (ce:=aC.c β) hk
  simp only[EZ,ag,Nat.reduceAdd,Nat.reduceBEq,kZ,hO,aA.c]
  refine ah.val (by simp only[EO]) (lf β v hll gi _) ?_
  rw[e1]
  simp only[EZ,ag,Nat.reduceAdd,Nat.reduceBEq,kZ,hO,i0,aC.c]
  refine ah.val (by simp only[EO]) (tr β v.aq[k] hlk po _) ?_
  by_cases hn:dq v.aq[k].exports po<0
  · rw[if_pos hn]at ed
    simp only[EZ,ag,Nat.reduceAdd,Nat.reduceBEq,kZ,hO,decide_eq_true hn]
    refine ah.ref (by simp only[EO]) (qY β l (by omega) _) ?_
    rintro w H1 fr
    replace fr:aS h _ _ _:=fr
    obtain⟨c1,c2,c3,c4,N,fw,g1,g2,g3,g4⟩:=fin w H1 fr ed
    simp only[EZ,ag,Nat.reduceAdd,Nat.reduceBEq,kZ,hO,ER,c1,c2,c3]
    exact⟨by simp only[List.all_cons,List.all_nil,c4];rfl,w,N,fw,by rw[ed,CD.fc],g1,g2,g3,g4⟩
  rw[if_neg hn]at ed
  simp only[EZ,ag,Nat.reduceAdd,Nat.reduceBEq,kZ,hO,decide_eq_false hn]
  refine ah.ref (by simp only[EO]) (Ih β false l hl ⟨no,gi,ta,dq v.aq[k].exports po⟩ _) ?_
  rintro _ H1 fr
  replace fr:aS h _ _ _:=fr
  rw[←ed]at fr
  obtain⟨w,fw,rfl,ow,nw,bw,ew⟩:=fr.c2 rfl
  obtain⟨c1,c2,c3,c4⟩:=ow.cell
  simp only[EZ,ag,Nat.reduceAdd,Nat.reduceBEq,kZ,hO,ER,c1,c2,c3]
  obtain⟨N,hN⟩:=ew.out
  exact⟨by simp only[List.all_cons,List.all_nil,c4,CD.fc];rfl,w,N,fw,rfl,hN,ow,nw,bw⟩
end Go.Proofs.YtccjhmhkfnnmaaaGreat
namespace Go.Proofs.YtccjhmhkfnnmaaaGreat
open Go.AM
variable {Γ:cj}
def sI(v:aA)(l:List au)(ta gi no:Int):aA×List au×Int:=
  if ki v.aq ta=true then
    (if (dO l ta gi no).2.2=true then
      ({ v with aq:=v.aq.set (dI (fun x:aC=>x.peer == ta) v.aq).toNat (df (v.aq.getD (dI (fun x:aC=>x.peer == ta) v.aq).toNat default) (dO l ta gi no).2.1).1 },(dO l ta gi no).1,
        (df (v.aq.getD (dI (fun x:aC=>x.peer == ta) v.aq).toNat default) (dO l ta gi no).2.1).2)
    else (v,(dO l ta gi no).1,-1))else (v,l,-1)
theorem NU{v:aA}{l:List au}{ta gi no:Int}(h:ki v.aq ta=false):sI v l ta gi no=(v,l,-1):=by unfold sI;rw[h];rfl
theorem Hu{v:aA}{l:List au}{ta gi no:Int}(h:ki v.aq ta=true)(h2:(dO l ta gi no).2.2=false):sI v l ta gi no=(v,(dO l ta gi no).1,-1):=by unfold sI;rw[h,h2];rfl
theorem Dr{v:aA}{l:List au}{ta gi no:Int}(h:ki v.aq ta=true)(h2:(dO l ta gi no).2.2=true){k:Nat}(hk:k<v.aq.length)(h3:dI (fun x:aC=>x.peer == ta) v.aq=(k:Int)):
    sI v l ta gi no=({ v with aq:=v.aq.set k (df v.aq[k] (dO l ta gi no).2.1).1 },(dO l ta gi no).1,(df v.aq[k] (dO l ta gi no).2.1).2):=by
  unfold sI;rw[h,h2,h3]
  simp[List.getD_eq_getElem?_getD,hk]
theorem Oh{A B C C' D:List Nat}{n:Nat}(nd:(A++(B++(C++D))).Nodup)(hn:∀c∈A++(B++(C++D)),c<n)(nC:C'.Nodup)(hC:∀c∈C',c∈C∨n≤c):(A++(B++(C'++D))).Nodup:=by
  obtain⟨nA,n1,d1⟩:=List.nodup_append.1 nd
  obtain⟨nB,n2,d2⟩:=List.nodup_append.1 n1
  obtain⟨_,nD,d3⟩:=List.nodup_append.1 n2
  refine List.nodup_append.2 ⟨nA,List.nodup_append.2 ⟨nB,List.nodup_append.2 ⟨nC,nD,fun x hx y hy e=>?_⟩,fun x hx y hy e=>?_⟩,fun x hx y hy e=>?_⟩
  · subst e
    rcases hC x hx with g|g
    · exact d3 x g x hy rfl
    · have:=hn x (by simp[hy]);omega
  · subst e
    rcases List.mem_append.1 hy with q|q
    · rcases hC x q with g|g
      · exact d2 x hx x (by simp[g]) rfl
      · have:=hn x (by simp[hx]);omega
    · exact d2 x hx x (by simp[q]) rfl
  · subst e
    simp only[List.mem_append]at hy
    rcases hy with q|q|q
    · exact d1 x hx x (by simp[q]) rfl
    · rcases hC x q with g|g
      · exact d1 x hx x (by simp[g]) rfl
      · have:=hn x (by simp[hx]);omega
    · exact d1 x hx x (by simp[q]) rfl
theorem AD{h H1 H':AH}{v:aA}{wE w2 wL w4 w:AV}{fE f2 fL f4 fL' fg:List Nat}{lk':List aC}{gs:List au}(oE:bN H1 wE (.sl 12 (v.entities.map aE.cd)) fE)(o2:bN H1 w2 (.sl 7 (v.loop.map aX.cd)) f2)(o4:bN H1 w4 (.sl 13 (v.out.map bc.cd)) f4)
    (nw:(fE++(f2++(fL++f4))).Nodup) (hlt:∀c∈fE++(f2++(fL++f4)),c<H1.length) (bw:∀c∈fE++(f2++(fL++f4)),h.length≤c) (hx:bQ h H') (hl:h.length≤H1.length) (oL:bN H' wL (.sl 7 (lk'.map aC.cd)) fL') (nL:fL'.Nodup) (mL:∀c∈fL',c∈fL∨H1.length≤c)
    (fr:∀c∈fE++(f2++f4),H'[c]? = H1[c]?) (og:bN H' w (.sl 4 (gs.map au.cd)) fg) (ng:fg.Nodup) (bg:∀c∈fg,H1.length≤c) (dg:∀c∈fL',c∉fg):
    ∃new q1 q2,H'=h++new∧aO H' [.int .i64 v.id,wE,w2,wL,w4] ({ v with aq:=lk' }:aA).cd q1∧bN H' w (.sl 4 (gs.map au.cd)) q2∧(q1++q2).Nodup∧∀b∈q1++q2,h.length≤b:=by
  obtain⟨N,hN⟩:=hx.out
  have own:=Jo (v:={ v with aq:=lk' }) (oE.frame (h':=H') fun c hc=>fr c (by simp[hc])) (o2.frame (h':=H') fun c hc=>fr c (by simp[hc])) oL (o4.frame (h':=H') fun c hc=>fr c (by simp[hc]))
  refine⟨N,_,fg,hN,own,og,List.nodup_append.2 ⟨Oh nw hlt nL mL,ng,fun x hx y hy e=>?_⟩,fun b hb=>?_⟩
  · subst e
    have hb:=bg x hy
    simp only[List.mem_append]at hx
    rcases hx with q|q|q|q
    · have:=hlt x (by simp[q]);omega
    · have:=hlt x (by simp[q]);omega
    · exact dg x q hy
    · have:=hlt x (by simp[q]);omega
  · rcases List.mem_append.1 hb with q|q
    · simp only[List.mem_append]at q
      rcases q with q|q|q|q
      · exact bw b (by simp[q])
      · exact bw b (by simp[q])
      · rcases mL b q with g|g
        · exact bw b (by simp[g])
        · omega
      · exact bw b (by simp[q])
    · have:=bg b q;omega
set_option maxHeartbeats 2000000 in
theorem Tg(β:Bool)(v:aA)(l:List au)(hv:v.ok 1048576)(hl:l.length≤1048576)(ta gi no:Int)(h:AH):T Tryz.prog Γ Fn.UR [.agg (v.c β),.vs β 4 false (l.map (au.c β)),.int .i64 ta,.int .i64 gi,.int .i64 no] h (aS h [.a (sI v l ta gi no).1.cd,.c (.sl 4 ((sI v l ta gi no).2.1.map au.cd)),.c (.i .i64 (sI v l ta gi no).2.2)]):=by
  have hlk:=hv.2.2.2.2.1
  refine T.I5 rfl ?_
  refine R0 (aD aJ aK [13] _ _ _ ?_)
  unfold KW
  have al:=fun(s:St)=>re s _ (show List.all [AV.int .i64 0,.nils,.nils,.nils,.nils] bo=true from rfl)
  simp only[EZ,ag,Nat.reduceAdd,Nat.reduceBEq,qW,jR,aF,ER,aA.c,al,g9]
  refine ah.ref (by simp only[EO]) (PR β v hv _) ?_
  rintro _ H1 fr
  replace fr:aS h _ _ _:=fr
  obtain⟨aw,fw,rfl,ow,nw,bw,ew⟩:=fr.a1
  obtain⟨wE,w2,wL,w4,fE,f2,fL,f4,rfl,rfl,oE,o2,oL,o4⟩:=lC ow
  obtain⟨a1,a2,a3,a4⟩:=oE.cell
  obtain⟨b1,b2,b3,b4⟩:=o2.cell
  obtain⟨c1,c2,c3,c4⟩:=oL.cell
  obtain⟨d1,d2,d3,d4⟩:=o4.cell
  have hlt:∀c∈fE++(f2++(fL++f4)),c<H1.length:=fun c hc=>ow.lt c hc
  have nL:fL.Nodup:=(List.nodup_append.1 (List.nodup_append.1 (List.nodup_append.1 nw).2.1).2.1).1
  have st:=fun(e:List AV) (L:List (List AV))=>um (e:=e) (l:=L) (h:=H1) (cs:=[.int .i64 0,.nils,.nils,.nils,.nils]) (vs:=[.int .i64 v.id,wE,w2,wL,w4]) (off:=0) (by simp) (by simp only[jv,jz,mP,a3,b3,c3,d3,Bool.and_self])
  simp only[EZ,ag,Nat.reduceAdd,Nat.reduceBEq,qW,jR,aF,ER,aA.c,a1,a2,a3,b1,b2,b3,c1,c2,c3,d1,d2,d3,al,g9,st]
  have hov:cB [.int .i64 0,.nils,.nils,.nils,.nils] 0 [AV.int .i64 v.id,wE,w2,wL,w4]=[AV.int .i64 v.id,wE,w2,wL,w4]:=rfl
  rw[hov]
  generalize hHa:H1++[some (0,[AV.int .i64 v.id,wE,w2,wL,w4])]=Ha
  have xa:bQ H1 Ha:=by rw[←hHa];exact bQ.app H1 _
  have la:Ha.length=H1.length+1:=by rw[←hHa];simp
  have hba:bJ Ha H1.length=some (0,[AV.int .i64 v.id,wE,w2,wL,w4]):=by rw[←hHa];exact cw _ _
  have owa:aO Ha [AV.int .i64 v.id,wE,w2,wL,w4] v.cd (fE++(f2++(fL++f4))):=by rw[←hHa];exact ow.grow
  refine ah.ref (by simp only[EO]) (IZ v hlk ta _ hba owa nw) ?_
  rintro r H2 ⟨⟨N2,e2⟩,hr⟩
  replace e2:H2=Ha++N2:=e2
  have x2:bQ Ha H2:=by rw[e2];exact bQ.app _ _
  have hb2:bJ H2 H1.length=some (0,[AV.int .i64 v.id,wE,w2,wL,w4]):=ij hba (x2.fr _ (by omega))
  have x02:bQ h H2:=(ew.trans xa).trans x2
  have x12:bQ H1 H2:=xa.trans x2
  have cl2:=fun(e:List AV) (l:List (List AV)) (off n:Nat)=>bk (e:=e) (l:=l) (b:=H1.length) (off:=off) (n:=n) hb2
  rcases hr with⟨hu,k,hk,ek,i0⟩|⟨hu,rfl⟩
  rotate_left
  · have ea:=NU (l:=l) (gi:=gi) (no:=no) hu
    simp only[EZ,ag,Nat.reduceAdd,Nat.reduceBEq,qW,jR,aF,ER,a1,a2,a3,b1,b2,b3,c1,c2,c3,d1,d2,d3,cl2]
    refine ah.ref (by simp only[EO]) (gu β l (by omega) _) ?_
    rintro w H3 fr
    replace fr:aS H2 _ _ _:=fr
    obtain⟨fg,og,ng,bg,eg⟩:=fr.c1
    obtain⟨g1,g2,g3,g4⟩:=og.cell
    simp only[EZ,ag,Nat.reduceAdd,Nat.reduceBEq,qW,jR,aF,ER,a1,a2,a3,b1,b2,b3,c1,c2,c3,d1,d2,d3,g1,g2,g3]
    obtain⟨N,q1,q2,r1,r2,r3,r4,r5⟩:=AD oE o2 o4 nw hlt bw (x02.trans eg) ew.len (oL.ext (x12.trans eg)) nL (fun c hc=>.inl hc) (fun c hc=>(x12.trans eg).fr c (by
      have hc':c∈fE++(f2++(fL++f4)):=by
        simp only[List.mem_append]at hc ⊢
        rcases hc with g|g|g
        · exact .inl g
        · exact .inr (.inl g)
        · exact .inr (.inr (.inr g))
      exact hlt c hc')) og ng (fun c hc=>by have:=bg c hc;have:=x12.len;omega) (fun c hc hg=>by have:=hlt c (by simp[hc]);have:=bg c hg;have:=x12.len;omega)
    refine⟨(by first|exact eg.mem _ _ _|exact cW (eg.mem _ _ _)),by simp only[List.all_cons,List.all_nil,EO,a3,b3,c3,d3,g4],_,w,N,q1,q2,by rw[ea,CD.fb],r1,by rw[ea];exact r2,by rw[ea];exact r3,r4,r5⟩
  have hkm:k<(v.aq.map aC.cd).length:=by simpa using hk
  have oL2:=oL.ext x12
  obtain⟨bq,gq,preq,_,_,_,iq,_⟩:=oL2.kK nL hkm
  rw[i0]at iq
  injection iq with iq
  subst iq
  simp only[EZ,ag,Nat.reduceAdd,Nat.reduceBEq,qW,jR,aF,ER,a1,a2,a3,b1,b2,b3,c1,c2,c3,d1,d2,d3,cl2,show dY .eql .nilp (.gp bq gq preq.length) .nilp=some (.bool false) from rfl]
  refine ah.ref (by simp only[EO]) (K8 β l hl ta gi no _) ?_
  rintro _ H3 fr
  replace fr:aS H2 _ _ _:=fr
  obtain⟨w,fg,rfl,og,ng,bg,eg⟩:=fr.c3 rfl rfl
  obtain⟨g1,g2,g3,g4⟩:=og.cell
  have x13:=x12.trans eg
  have hb3:bJ H3 H1.length=some (0,[AV.int .i64 v.id,wE,w2,wL,w4]):=ij hb2 (eg.fr _ (by have:=x12.len;have:=x2.len;omega))
  have cl3:=fun(e:List AV) (l:List (List AV)) (off n:Nat)=>bk (e:=e) (l:=l) (b:=H1.length) (off:=off) (n:=n) hb3
  have fr3:∀c∈fE++(f2++f4),c<H1.length:=fun c hc=>by
    have hc':c∈fE++(f2++(fL++f4)):=by
      simp only[List.mem_append]at hc ⊢
      rcases hc with g|g|g
      · exact .inl g
      · exact .inr (.inl g)
      · exact .inr (.inr (.inr g))
    exact hlt c hc'
  have bg1:∀c∈fg,H1.length≤c:=fun c hc=>by have:=bg c hc;have:=x12.len;omega
  cases hok:(dO l ta gi no).2.2
  · have ea:=Hu (l:=l) (gi:=gi) (no:=no) hu hok
    simp only[EZ,ag,Nat.reduceAdd,Nat.reduceBEq,qW,jR,aF,ER,CD.fb,CD.fc,hok,a1,a2,a3,b1,b2,b3,c1,c2,c3,d1,d2,d3,g1,g2,g3,cl3]
    obtain⟨N,q1,q2,r1,r2,r3,r4,r5⟩:=AD oE o2 o4 nw hlt bw (x02.trans eg) ew.len (oL.ext x13) nL (fun c hc=>.inl hc) (fun c hc=>x13.fr c (fr3 c hc)) og ng bg1 (fun c hc hg=>by have:=hlt c (by simp[hc]);have:=bg1 c hg;omega)
    exact⟨by simp only[List.all_cons,List.all_nil,EO,a3,b3,c3,d3,g4],_,w,N,q1,q2,by rw[ea],r1,by rw[ea];exact r2,by rw[ea];exact r3,r4,r5⟩
  have ea:=Dr (l:=l) (gi:=gi) (no:=no) hu hok hk ek
  simp only[EZ,ag,Nat.reduceAdd,Nat.reduceBEq,qW,jR,aF,ER,CD.fb,CD.fc,hok,a1,a2,a3,b1,b2,b3,c1,c2,c3,d1,d2,d3,g1,g2,g3,cl3]
  obtain⟨bR,gR,pre,row,post,fR,iR,mR,lR,oR,nR,sR,bmR,bnR,close⟩:=(oL.ext x13).kK nL hkm
  rw[i0]at iR
  simp only[Option.some.injEq,AV.gp.injEq]at iR
  obtain⟨rfl,rfl,epre⟩:=iR
  rw[epre]
  simp only[List.getElem_map]at oR
  refine ah.ref (by simp only[EO]) (Sf v.aq[k] (hv.2.2.2.2.2.1 _ (List.getElem_mem hk)).1 (dO l ta gi no).2.1 _ mR oR nR bnR) ?_
  rintro _ H4 ⟨rfl,l4,row',f',m4,o4',n4,s4,r4⟩
  replace l4:H3.length≤H4.length:=l4
  replace s4:∀c∈f',c∈fR∨H3.length≤c:=s4
  replace r4:∀c,c∉fR→c≠bq→c<H3.length→H4[c]? = H3[c]?:=r4
  have l13:=x13.len
  have hfL:∀c∈fL,c<H1.length:=fun c hc=>hlt c (by simp[hc])
  have hbq:=hfL bq bmR
  obtain⟨fL',oL4,nL4,mL4⟩:=close H4 row' (df v.aq[k] (dO l ta gi no).2.1).1.cd f' o4' n4 rfl (fun c hc=>(s4 c hc).imp id fun h hm=>by have:=hfL c hm;omega) m4 (fun c hc hcf hcb=>r4 c hcf hcb (by have:=hfL c hc;omega))
  have hb4:bJ H4 H1.length=some (0,[AV.int .i64 v.id,wE,w2,wL,w4]):=ij hb3 (r4 _ (fun hm=>by have:=hfL _ (sR _ hm);omega) (by omega) (by have:=eg.len;have:=x2.len;omega))
  have cl4:=fun(e:List AV) (l:List (List AV)) (off n:Nat)=>bk (e:=e) (l:=l) (b:=H1.length) (off:=off) (n:=n) hb4
  simp only[EZ,ag,Nat.reduceAdd,Nat.reduceBEq,qW,jR,aF,ER,CD.fb,CD.fc,a1,a2,a3,b1,b2,b3,c1,c2,c3,d1,d2,d3,g1,g2,g3,cl4]
  have dsj:∀c,c∈fL→c∉fE++(f2++f4):=fun c hc hm=>by
    obtain⟨_,n1,q1⟩:=List.nodup_append.1 nw
    obtain⟨_,n2,q2⟩:=List.nodup_append.1 n1
    obtain⟨_,_,q3⟩:=List.nodup_append.1 n2
    simp only[List.mem_append]at hm
    rcases hm with g|g|g
    · exact q1 c g c (by simp[hc]) rfl
    · exact q2 c g c (by simp[hc]) rfl
    · exact q3 c hc c g rfl
  have xh4:bQ h H4:=(x02.trans eg).vF (fp:=bq::fR) l4 (fun c hc hcl=>r4 c (fun hm=>hc (by simp[hm])) (fun e=>hc (by simp[e])) hcl) (fun c hc=>by
    rcases List.mem_cons.1 hc with rfl|hc
    · exact bw _ (by simp[bmR])
    · exact bw _ (by simp[sR c hc]))
  have og4:=og.frame (h':=H4) fun c hc=>r4 c (fun hm=>by have:=hfL _ (sR _ hm);have:=bg1 c hc;omega) (fun e=>by have:=bg1 c hc;omega) (og.lt c hc)
  have frE:∀c∈fE++(f2++f4),H4[c]? = H1[c]?:=fun c hc=>by
    rw[r4 c (fun hm=>dsj c (sR c hm) hc) (fun e=>dsj bq bmR (e▸hc)) (by have:=fr3 c hc;omega)];exact x13.fr c (fr3 c hc)
  have key:(v.aq.map aC.cd).set k (df v.aq[k] (dO l ta gi no).2.1).1.cd=(v.aq.set k (df v.aq[k] (dO l ta gi no).2.1).1).map aC.cd:=by rw[List.map_set]
  rw[key]at oL4
  obtain⟨N,q1,q2,r1,r2,r3,r4',r5⟩:=AD oE o2 o4 nw hlt bw xh4 ew.len oL4 nL4 (fun c hc=>by
    rcases mL4 c hc with g|g
    · exact .inl g
    · rcases s4 c g with g|g
      · exact .inl (sR c g)
      · exact .inr (by omega)) frE og4 ng bg1 (fun c hc hg=>by
    have:=og.lt c hg;have:=bg1 c hg
    rcases mL4 c hc with g|g
    · have:=hfL c g;omega
    · rcases s4 c g with g|g
      · have:=hfL c (sR c g);omega
      · omega)
  exact⟨by simp only[List.all_cons,List.all_nil,EO,a3,b3,c3,d3,g4],_,w,N,q1,q2,by rw[ea],r1,by rw[ea];exact r2,by rw[ea];exact r3,r4',r5⟩
end Go.Proofs.YtccjhmhkfnnmaaaGreat
namespace Go.Proofs.YtccjhmhkfnnmaaaGreat
open Go.AM
variable {Γ:cj}
def qh(vat:Int)(g:au):Bool:=g.giver == vat || g.taker == vat
def jZ(l:List au)(vat:Int):List au:=l.filter fun g=>!qh vat g
theorem E2(l:List au)(vat:Int):(jZ l vat).length≤l.length:=List.length_filter_le _ _
theorem JS(β:Bool)(x:au)(vat:Int)(H:AH){p:AV}(hp:Ptr H p [.int .i64 vat]):T Tryz.prog Γ Fn.Od [.agg (x.c β),p] H fun v h'=>v=.bool (qh vat x)∧h'=H:=by
  refine QA (aD aJ aK [] _ _ _ ?_)
  unfold Mi
  have hc:∀(e:List AV) (l:List (List AV)),(St.mk e l H).cells p 1=some [.int .i64 vat]:=fun e l=>hp.rd0 e l 0 (by simp)
  cases c1:(x.giver == vat)
  · simp only[EZ,ag,Nat.reduceAdd,Nat.reduceBEq,Hq,au.c,hc,c1]
    first|exact⟨rfl,by simp[qh,c1]⟩|simp[qh,c1]
  · simp only[EZ,ag,Nat.reduceAdd,Nat.reduceBEq,Hq,au.c,hc,c1]
    first|exact⟨rfl,by simp[qh,c1]⟩|simp[qh,c1]
theorem Eu(β:Bool)(l:List au)(hl:l.length≤1048577)(vat:Int)(H:AH){p:AV}(hp:Ptr H p [.int .i64 vat]):T Tryz.prog Γ Fn.OJ [.vs β 4 false (l.map (au.c β)),.fn Fn.Od [] [p]] H fun v h'=>v=.int .i64 (dI (qh vat) l)∧h'=H:=
  i5 (P:=Tryz.prog) (Γ:=Γ) aJ aK (sz:=4) (agg:=true) (fun hw=>FY hw) (β:=β) (l:=l) (c:=au.c β) (by omega) (fun x=>⟨⟨rfl,.inl rfl⟩,rfl⟩) (g:=Fn.Od) (first:=[]) (caps:=[p]) (by simp[hp.out]) (qh vat) (h:=H) (fun x hx=>JS β x vat _ hp)
theorem F4{H:AH}{g:FuncId}{q:Nat}{x:AV}(hq:bJ H q=some (0,[x])):iE H (.fn g [] [.gp q 0 0]) (.fn g [] [.ip true [x]]):=by
  refine .fn g _ _ rfl (fun _=>.gp q 0 0) (fun i y hy=>?_) (fun i y hy=>?_)
  · cases i with
    | zero=>rfl
    | succ i=>simp at hy
  · cases i with
    | zero=>
      simp at hy;subst hy
      refine .gp q 0 0 [x] [x] (fun _=>x) (c8 hq) (fun j y hy=>?_) (fun j y hy=>?_)
      · cases j with
        | zero=>rfl
        | succ j=>simp at hy
      · cases j with
        | zero=>simp at hy;subst hy;exact .same _
        | succ j=>simp at hy
    | succ i=>simp at hy
theorem CF{α:Type}{p:α→Bool}{l:List α}{k:Nat}(h:dI p l=(k:Int)):∀(i:Nat) (hi:i<l.length),i<k→p l[i]=false:=by
  unfold dI at h
  split at h
  · rename_i j hj
    have hjk:j=k:=by omega
    subst hjk
    obtain⟨_,_,h3⟩:=List.findIdx?_eq_some_iff_getElem.1 hj
    intro i hi hik
    have:=h3 i hik
    simpa using this
  · omega
theorem Em{H:AH}:∀{az:List AV} {cs:List CD} {fp:List Nat},cs.all CD.flat=true→aO H az cs fp→az=cs.map (CD.av false)
  | [],[],_,_,o=>rfl
  | a::az,d::ds,fp,h,⟨f1,f2,e,o1,o2⟩=>by
    simp only[List.all_cons,Bool.and_eq_true]at h
    rw[List.map_cons,←Em h.2 o2]
    congr 1
    cases o1 with
    | i=>simp[CD.fb]
    | b=>simp[CD.fc]
    | s=>simp[CD.k8]
    | nil=>simp[CD.flat]at h
    | gs=>simp[CD.flat]at h
theorem so(l:List au):(l.map au.cd).flatten.all CD.flat=true:=by
  rw[List.all_flatten,List.all_eq_true];intro y hy;obtain⟨x,_,rfl⟩:=List.mem_map.1 hy;rfl
theorem qQ(l:List au):(l.map (au.c false)).flatten=(l.map au.cd).flatten.map (CD.av false):=qG (fun x=>(au.bM false x).symm) l
def vp:au:=⟨0,0,0,0⟩
theorem qv{α:Type}{p:α→Bool}:∀{l:List α},(∀x∈l,p x=true)→l.filter p=l
  | [],_=>rfl
  | x::l,h=>by simp only[List.filter_cons,h x (by simp),if_true];rw[qv fun y hy=>h y (List.mem_cons_of_mem _ hy)]
theorem Bo(l:List au)(hl:l.length≤1048577)(vat:Int)(H:AH){a:AV}{fp:List Nat}(o:bN H a (.sl 4 (l.map au.cd)) fp)(nd:fp.Nodup){q:Nat}(hq:bJ H q=some (0,[.int .i64 vat]))(hqf:q∉fp):
    T Tryz.prog Γ Fn.VJ [a,.fn Fn.Od [] [.gp q 0 0]] H fun v h'=>(h'.length=H.length∧(∀c,c∉fp→h'[c]? = H[c]?)∧bN h' v (.sl 4 ((jZ l vat).map au.cd)) fp):=by
  obtain⟨ac1,ac2,ac3,ac4⟩:=o.cell
  have La:=(dE o).2
  rw[List.length_map]at La
  have hp0:Ptr H (.gp q 0 0) [.int .i64 vat]:=Ptr.QT hq
  refine O5 (aD aJ aK [] _ _ _ ?_)
  unfold JE
  simp only[EZ,ag,Nat.reduceAdd,Nat.reduceBEq,qL,ac1,ac2,ac3]
  refine ah.dT (by simp only[EO,ac4]) (aI (bN.dT (au.bM true) o) (aI (F4 hq) bm)) (fun h=>Eu true l hl vat h (Ptr.ip h true _)) (.int _ _) ?_
  rcases eQ (qh vat) l with⟨k,hk,e1,e2,e3⟩|⟨e1,e2,e3⟩
  rotate_left
  · simp only[EZ,ag,Nat.reduceAdd,Nat.reduceBEq,qL,ac1,ac2,ac3,e1,show((-1:Int) == -1)=true from rfl]
    refine⟨o.c7,by simp,?_⟩
    have:jZ l vat=l:=qv fun x hx=>by simp[e3 x hx]
    rw[this];exact o
  have hfirst:=CF e1
  rcases o.jW with⟨rfl,e,rfl⟩|⟨b,g,cap,ex,az,tail,fp',rfl,rfl,hg,hsz,ht,hc,hown⟩
  · have:l=[]:=by simpa using e
    subst this;simp at hk
  have hfp':fp'=[]:=oH (so l) hown
  subst hfp'
  have has:az=(l.map (au.c false)).flatten:=(Em (so l) hown).trans (qQ l).symm
  subst has
  simp only[List.length_map]at hc La ac1 ac2 ac3 ac4 ⊢
  have hqb:q≠b:=fun e=>hqf (by simp[e])
  have hkm:((k:Int) == -1)=false:=beq_eq_false_iff_ne.2 (by omega)
  simp only[EZ,ag,Nat.reduceAdd,Nat.reduceBEq,qL,ac1,ac2,ac3,e1,hkm]
  have hw1:IntKind.i64.wrap ((k:Int)+1)=((k+1:Nat):Int):=wN (by omega)
  rw[hw1]
  have hH0:∀c,c≠b→H[c]? = H[c]?:=fun _ _=>rfl
  refine dD aJ aK [] (fun x:Nat×Nat×List au×AH×List (List AV)=>x.2.1<x.1∧x.1≤l.length∧x.2.2.1.length=l.length∧x.2.2.1.take x.2.1=jZ (l.take x.1) vat∧x.2.2.1.drop x.1=l.drop x.1∧x.2.2.2.1.length=H.length∧(∀c,c≠b→x.2.2.2.1[c]? = H[c]?)∧bJ x.2.2.2.1 b=some (g,(x.2.2.1.map (au.c false)).flatten++tail)) (fun x=>l.length-x.1)
    (fun x=>uP (.gs b g 0 l.length cap 4 ex) (.fn Fn.Od [] [.gp q 0 0]) (.int .i64 x.2.1) (.int .i64 x.1) x.2.2.2.2 x.2.2.2.1) (k+1,k,l,H,[]) ⟨by simp,by simp only;omega,rfl,?_,rfl,rfl,hH0,hg⟩ ⟨by simp[uP,eP,eM],rfl,rfl⟩ ?_
  · simp only
    rw[jZ,List.take_succ_eq_append_getElem hk,List.filter_append]
    have h1:(l.take k).filter (fun g=>!qh vat g)=l.take k:=qv fun x hx=>by
      obtain⟨i,hi,rfl⟩:=List.mem_take_iff_getElem.1 hx
      simp[hfirst i (by omega) (by omega)]
    have h2:[l[k]].filter (fun g=>!qh vat g)=[]:=by simp[List.filter_cons,e2]
    rw[h1,h2,List.append_nil]
  rintro⟨j,i,m,H',L⟩ ⟨hij,hj,hm,hmt,hmd,hHl,hHf,hHb⟩
  simp only at hij hj hm hmt hmd hHl hHf hHb
  have La':rE false (.gs b g 0 l.length cap 4 ex)=some (.int .i64 l.length):=rfl
  simp only[EZ,ag,Nat.reduceAdd,Nat.reduceBEq,qL,uP,La']
  refine bI (fun hlt=>?_) (fun hge=>?_)
  · have hlt:j<l.length:=by simpa using hlt
    have hjm:j<m.length:=by omega
    have him:i<m.length:=by omega
    have i0:eJ 4 (.gs b g 0 l.length cap 4 ex) (j:Int)=some (.gp b g (j*4)):=by rw[nN hlt,Nat.zero_add]
    have i1:eJ 4 (.gs b g 0 l.length cap 4 ex) (i:Int)=some (.gp b g (i*4)):=by rw[nN (by omega),Nat.zero_add]
    have emj:m[j]=l[j]:=by
      have h1:=List.drop_eq_getElem_cons hjm;have h2:=List.drop_eq_getElem_cons hlt
      rw[hmd,h2]at h1;injection h1 with h1 _;exact h1.symm
    have ld:∀(e:List AV) (L:List (List AV)),(St.mk e L H').cells (.gp b g (j*4)) 4=some (au.c false l[j]):=fun e L=>by
      rw[bk hHb,BK (c:=au.c false) (sz:=4) (fun x=>rfl) hjm tail,emj]
    have hp':Ptr H' (.gp q 0 0) [.int .i64 vat]:=Ptr.QT (ij hq (hHf q hqb))
    simp only[EZ,ag,Nat.reduceAdd,Nat.reduceBEq,qL,i0,ld,au.c]
    refine ah.val (by simp only[EO]) (JS false l[j] vat H' hp') ?_
    have htk:jZ (l.take (j+1)) vat=jZ (l.take j) vat++(if qh vat l[j]=true then []else [l[j]]):=by
      rw[jZ,List.take_succ_eq_append_getElem hlt,List.filter_append];congr 1
      by_cases h:qh vat l[j]=true<;>simp[h]
    cases cd:qh vat l[j]
    · rw[cd]at htk
      simp only[Bool.false_eq_true,if_false]at htk
      have st:=Ep (c:=au.c false) (sz:=4) (fun x=>rfl) him l[j] tail rfl hHb
      simp only[au.c]at st
      simp only[EZ,ag,Nat.reduceAdd,Nat.reduceBEq,qL,i1,au.c,st]
      have hbl:b<H'.length:=c5 hHb
      have him':i<(m.set i l[j]).length:=by simpa using him
      refine⟨(j+1,i+1,m.set i l[j],_,_),⟨by simp only;omega,hlt,by simpa using hm,?_,?_,by simpa using hHl,fun c hcb=>?_,?_⟩,by simp only;omega,⟨by rw[wN (by omega),wN (by omega)];simp[uP,eP,eM],rfl,rfl⟩⟩
      · simp only
        rw[htk,List.take_succ_eq_append_getElem him',List.take_set_of_le (Nat.le_refl _),hmt];simp
      · simp only
        rw[List.drop_set_of_lt (by omega),←List.drop_drop,←List.drop_drop,hmd]
      · simp only
        rw[List.getElem?_set_ne (Ne.symm hcb)];exact hHf c hcb
      · simp[bJ,hbl,au.c]
    · rw[cd]at htk
      simp only[if_true,List.append_nil]at htk
      simp only[EZ,ag,Nat.reduceAdd,Nat.reduceBEq,qL]
      exact⟨(j+1,i,m,H',_),⟨by simp only;omega,hlt,hm,by simp only;rw[htk];exact hmt,by simp only;rw[←List.drop_drop,←List.drop_drop,hmd],hHl,hHf,hHb⟩,by simp only;omega,⟨by rw[wN (by omega)];simp[uP,eP,eM],rfl,rfl⟩⟩
  · have hge:j=l.length:=by simp at hge;omega
    subst hge
    rw[List.take_length]at hmt
    have hcf:=fun S:St=>zo S (b:=b) (g:=g) (len:=l.length) (cap:=cap) (sz:=4) (ex:=ex) (i:=i) (by omega) hc.1
    have hct:=fun S:St=>Eb S (b:=b) (g:=g) (len:=l.length) (cap:=cap) (sz:=4) (ex:=ex) (i:=i) (by omega)
    have hcl:∀(e:List AV) (L:List (List AV)),vT ⟨e,L,H'⟩ 4 [.int .i64 0,.int .i64 0,.int .i64 0,.int .i64 0] (.gs b g (i*4) (l.length-i) (cap-i) 4 ex)=some ⟨e,L,H'.set b (some (g,((m.take i).map (au.c false)).flatten++((List.replicate (l.length-i) (au.c false vp)).flatten++tail)))⟩:=fun e L=>by
      have:=uJ (c:=au.c false) (sz:=4) (fun x=>rfl) (show i≤m.length by omega) vp tail rfl hHb e L
      rw[hm]at this
      simp only[vT,if_true]
      rw[if_neg (by omega)];exact this
    have hbl:b<H'.length:=c5 hHb
    simp only[EZ,ag,Nat.reduceAdd,Nat.reduceBEq,qL,pJ,tX,Kw,hcf,hct,hcl,AR.Fs]
    have hdl:(jZ l vat).length=i:=by rw[←hmt,List.length_take,Nat.min_eq_left (by omega)]
    refine⟨rfl,by simpa using hHl,fun c hcn=>?_,?_⟩
    · have hcb:c≠b:=fun e=>hcn (by simp[e])
      rw[List.getElem?_set_ne (Ne.symm hcb)];exact hHf c hcb
    · rw[hmt]
      have hrl:(List.replicate (l.length-i) (au.c false vp)).flatten.length=(l.length-i)*4:=by
        have:=vu (xs:=List.replicate (l.length-i) (au.c false vp)) (sz:=4) (fun y hy=>by rw[(List.mem_replicate.1 hy).2];rfl)
        simpa using this
      have:=bN.sl_mk (h:=H'.set b (some (g,((jZ l vat).map (au.c false)).flatten++((List.replicate (l.length-i) (au.c false vp)).flatten++tail)))) (b:=b) (g:=g) (cap:=cap) (sz:=4) (ex:=ex) («as»:=((jZ l vat).map (au.c false)).flatten) (tail:=(List.replicate (l.length-i) (au.c false vp)).flatten++tail) (xs:=(jZ l vat).map au.cd) (fp:=[])
        (by simp[bJ,hbl]) (fun y hy=>by obtain⟨x,_,rfl⟩:=List.mem_map.1 hy;rfl) (fun x hx=>by
          rcases List.mem_append.1 hx with hx|hx
          · obtain⟨y,hy,hxy⟩:=List.mem_flatten.1 hx
            rw[(List.mem_replicate.1 hy).2]at hxy
            simp[au.c,vp]at hxy
            rw[hxy];exact .i _ _
          · exact ht x hx) ⟨by rw[List.length_map,hdl];omega,by rw[List.length_map,hdl,List.length_append,hrl];have:=hc.2;omega⟩ (by rw[qQ];exact jA false (so _))
      rw[List.length_map,hdl]at this
      exact this
theorem UL(β:Bool)(l:List au)(hl:l.length≤1048576)(vat:Int)(h:AH):T Tryz.prog Γ Fn.Vk [.vs β 4 false (l.map (au.c β)),.int .i64 vat] h (aS h [.c (.sl 4 ((jZ l vat).map au.cd))]):=by
  refine T.n7 ?_
  refine O4 (aD aJ aK [3] _ _ _ ?_)
  unfold Lr
  simp only[EZ,ag,Nat.reduceAdd,Nat.reduceBEq,Ed,pQ _ _ (show List.all [AV.int .i64 vat] bo=true from rfl),g9]
  refine ah.ref (by simp only[EO]) (gu β l (by omega) _) ?_
  rintro w H1 fr
  replace fr:aS (h++[some (0,[.int .i64 vat])]) _ _ _:=fr
  obtain⟨fw,ow,nw,bw,ew⟩:=fr.c1
  obtain⟨c1,c2,c3,c4⟩:=ow.cell
  have hq:bJ H1 h.length=some (0,[.int .i64 vat]):=ij (cw _ _) (ew.fr _ (by simp))
  have hqf:h.length∉fw:=fun hm=>by have:=bw _ hm;simp at this;omega
  simp only[EZ,ag,Nat.reduceAdd,Nat.reduceBEq,Ed,c1,c2,c3]
  refine ah.ref (by simp only[EO,c4]) (Bo l (by omega) vat _ ow nw hq hqf) ?_
  rintro v H2 ⟨hl2,hf2,o2⟩
  replace hl2:H2.length=H1.length:=hl2
  replace hf2:∀c,c∉fw→H2[c]? = H1[c]?:=hf2
  have bw':∀c∈fw,h.length≤c:=fun c hc=>by have:=bw c hc;simp at this;omega
  have ex:=((bQ.app h _).trans ew).mark hl2 hf2 bw'
  simp only[EZ,ag,Nat.reduceAdd,Nat.reduceBEq,Ed]
  obtain⟨N,rfl⟩:=ex.out
  exact⟨o2.c7,N,fw,rfl,o2,nw,bw'⟩
end Go.Proofs.YtccjhmhkfnnmaaaGreat
namespace Go.Proofs.YtccjhmhkfnnmaaaGreat
open Go.AM
variable {Γ:cj}
theorem Cl(H:AH){b:Nat}{bs:List Int}(hb:bs.length≤1073741824)(hc:nc H b bs):T Tryz.prog Γ Fn.OU [.gp b 0 0] H fun v h'=>∃x:au,v=.agg [.int .i64 x.nonce,.int .i64 x.giver,.int .i64 x.taker,.int .i64 x.entity]∧aR H h' b bs:=by
  have d0:aR H H b bs:=⟨hc,Nat.le_refl _,fun _ _ _=>rfl⟩
  refine RC (aD aJ aK [] _ _ _ ?_)
  unfold NC
  simp only[EZ,ag,Nat.reduceAdd,Nat.reduceBEq,xQ,aF,aP,ER,EF,EA,ae,an]
  refine ah.ref (by simp only[EO]) (aW _ hb d0.cur _) ?_
  rintro _ H1 ⟨x1,rfl,_,_,q⟩
  replace q:aR H H1 b bs:=q
  have d1:=d0.trans q
  clear q
  simp only[EZ,ag,Nat.reduceAdd,Nat.reduceBEq,xQ,aF,aP,ER,EF,EA,ae,an]
  refine ah.ref (by simp only[EO]) (aW _ hb d1.cur _) ?_
  rintro _ H2 ⟨x2,rfl,_,_,q⟩
  replace q:aR H1 H2 b bs:=q
  have d2:=d1.trans q
  clear q
  simp only[EZ,ag,Nat.reduceAdd,Nat.reduceBEq,xQ,aF,aP,ER,EF,EA,ae,an]
  refine ah.ref (by simp only[EO]) (aW _ hb d2.cur _) ?_
  rintro _ H3 ⟨x3,rfl,_,_,q⟩
  replace q:aR H2 H3 b bs:=q
  have d3:=d2.trans q
  clear q
  simp only[EZ,ag,Nat.reduceAdd,Nat.reduceBEq,xQ,aF,aP,ER,EF,EA,ae,an]
  refine ah.ref (by simp only[EO]) (aW _ hb d3.cur _) ?_
  rintro _ H4 ⟨x4,rfl,_,_,q⟩
  replace q:aR H3 H4 b bs:=q
  have d4:=d3.trans q
  simp only[EZ,ag,Nat.reduceAdd,Nat.reduceBEq,xQ,aF,aP,ER,EF,EA,ae,an]
  have fin:∃x:au,(AV.agg [.int .i64 (IntKind.i64.wrap (1+x1)),.int .i64 (IntKind.i64.wrap (1+x2)),.int .i64 (IntKind.i64.wrap (1+x3)),.int .i64 x4])=.agg [.int .i64 x.nonce,.int .i64 x.giver,.int .i64 x.taker,.int .i64 x.entity]∧aR H H4 b bs:=⟨⟨_,_,_,_⟩,rfl,d4⟩
  first|exact⟨rfl,fin⟩|exact fin
def Dp(H:AH)(b:Nat)(bs:List Int)(n:Nat)(w:AV)(h':AH):Prop:=∃(l:List au) (fp:List Nat),bN h' w (.sl 4 (l.map au.cd)) fp∧fp.Nodup∧(∀c∈fp,H.length≤c)∧l.length≤n∧aR H h' b bs
theorem Dp.grow{H:AH}{b:Nat}{bs:List Int}{n:Nat}{w:AV}{Hi Hj:AH}(hb:b<H.length)(r:Dp H b bs n w Hi)(q:aR Hi Hj b bs)(hn:n≤1000)(x:au):∃v' H',(∀e l,nq ⟨e,l,Hj++[some (0,[AV.int .i64 x.nonce,.int .i64 x.giver,.int .i64 x.taker,.int .i64 x.entity])]⟩ 4 32 w (dp ⟨e,l,Hj++[some (0,[AV.int .i64 x.nonce,.int .i64 x.giver,.int .i64 x.taker,.int .i64 x.entity])]⟩ 4 false (.gs Hj.length 0 0 1 1 4 true)) (lenOf (.gs Hj.length 0 0 1 1 4 true)) (lenOf w)=.val v' ⟨e,l,H'⟩)∧Dp H b bs (n+1) v' H':=by
  obtain⟨l,fp,o,nd,bw,hl,d⟩:=r
  have o2:=q.own o (fun h=>by have:=bw b h;omega)
  obtain⟨v',H',fp',ea,o',nd',hf',hl',hm'⟩:=dw (bytes:=32) o2 (ys:=[.int .i64 x.nonce,.int .i64 x.giver,.int .i64 x.taker,.int .i64 x.entity]) (row:=x.cd) (f2:=[]) (by simpa using nd) (by omega) rfl (.i (.i (.i (.i .nil)))) (by simp only[List.length_map,aU];omega)
  have dn:=d.trans q
  have hln:=dn.len
  refine⟨v',H',ea,l++[x],fp',by simpa using o',nd',fun c hc=>?_,by simp only[List.length_append,List.length_cons,List.length_nil];omega,⟨by
    obtain⟨i,s,hi,hgt⟩:=dn.cur
    exact⟨i,s,hi,by rw[bO (hf' b (fun h=>by have:=bw b h;omega) (c5 hgt))];exact hgt⟩,by omega,fun c h1 h2=>by rw[hf' c (fun g=>by have:=bw c g;omega) (by omega),dn.fr c h1 h2]⟩⟩
  rcases hm' c hc with g|g|g
  · exact bw c g
  · cases g
  · omega
set_option maxHeartbeats 4000000 in
theorem Fv(H:AH){b:Nat}{bs:List Int}(hb:bs.length≤1073741824)(hc:nc H b bs):T Tryz.prog Γ Fn.SJ [.gp b 0 0] H fun v h'=>Dp H b bs 5 v h':=by
  have hbl:b<H.length:=by obtain⟨_,_,_,hg⟩:=hc;exact c5 hg
  refine OY (aD aJ aK [] _ _ _ ?_)
  unfold M5
  simp only[EZ,ag,Nat.reduceAdd,Nat.reduceBEq,sO,aF,aP,ER,EF,EA,ae,an]
  have d0:aR H (H++[some (0,[])]) b bs:=.kO hc (bQ.app _ _)
  refine ah.ref (by simp only[EO]) (aW _ hb d0.cur _) ?_
  rintro _ H1 ⟨kC,rfl,n0,n1,q⟩
  replace q:aR (H++[some (0,[])]) H1 b bs:=q
  have d1:=d0.trans q
  replace n1:=n1 (by omega)
  obtain⟨k0,rfl⟩:∃k0:Nat,kC=k0:=⟨kC.toNat,by omega⟩
  have o0:bN H1 (.gs H.length 0 0 0 0 4 true) (.sl 4 (([]:List au).map au.cd)) [H.length]:=q.own (dK H 4) (by simp only[List.mem_singleton];omega)
  clear q
  simp only[EZ,ag,Nat.reduceAdd,Nat.reduceBEq,sO,aF,aP,ER,EF,EA,ae,an]
  refine dD aJ aK [] (fun y:Nat×AV×AH×List Nat×List au×List (List AV)=>y.1+y.2.2.2.2.1.length≤5∧bN y.2.2.1 y.2.1 (.sl 4 (y.2.2.2.2.1.map au.cd)) y.2.2.2.1∧y.2.2.2.1.Nodup∧(∀c∈y.2.2.2.1,H.length≤c)∧aR H y.2.2.1 b bs) (fun y=>y.1)
    (fun y=>C5 (.gp b 0 0) y.2.1 (.int .i64 y.1) y.2.2.2.2.2 y.2.2.1) (k0,.gs H.length 0 0 0 0 4 true,H1,[H.length],[],_) ⟨by simp only[List.length_nil];omega,o0,by simp,fun c hc=>by rw[List.mem_singleton.1 hc];exact Nat.le_refl _,d1⟩ ⟨by simp[C5,eP,eM],rfl,rfl⟩ ?_
  rintro⟨k,w,Hi,fp,l,M⟩ ⟨hk,ow,nw,bw,di⟩
  simp only at hk ow nw bw di
  obtain⟨w1,w2,w3,w4⟩:=ow.cell
  simp only[EZ,ag,Nat.reduceAdd,Nat.reduceBEq,sO,aF,aP,ER,EF,EA,ae,an,C5,w1,w2,w3]
  refine bI (fun hgt=>?_) (fun hge=>?_)
  rotate_left
  · simp only[EZ,ag,Nat.reduceAdd,Nat.reduceBEq,sO,aF,aP,ER,EF,EA,ae,an,w1,w2,w3]
    exact⟨ow.c7,l,fp,ow,nw,bw,by omega,di⟩
  have hgt:0<k:=by simp at hgt;omega
  obtain⟨m1,rfl⟩:∃m1,k=m1+1:=⟨k-1,by omega⟩
  simp only[EZ,ag,Nat.reduceAdd,Nat.reduceBEq,sO,aF,aP,ER,EF,EA,ae,an]
  refine ah.ref (by simp only[EO]) (Cl _ hb di.cur) ?_
  rintro _ Hj ⟨x,rfl,q⟩
  replace q:aR Hi Hj b bs:=q
  have dj:=di.trans q
  have ow2:bN Hj w (.sl 4 (l.map au.cd)) fp:=q.own ow (fun h=>by have:=bw b h;omega)
  simp only[EZ,ag,Nat.reduceAdd,Nat.reduceBEq,sO,aF,aP,ER,EF,EA,ae,an,w1,w2,w3]
  refine ah.own (by simp only[EO,w3,w4]) (aI (bN.dT (au.bM true) ow2) (aI (.same _) bm)) (fun h=>Ih true true l (by omega) x h) ?_
  rintro _ H6 fr
  replace fr:aS Hj _ _ _:=fr
  obtain⟨w',f',rfl,o',n',b',eg⟩:=fr.c2 rfl
  obtain⟨z1,z2,z3,z4⟩:=o'.cell
  have lp:=Bt l x
  have lj:=dj.len
  simp only[EZ,ag,Nat.reduceAdd,Nat.reduceBEq,sO,aF,aP,ER,EF,EA,ae,an,z1,z2,z3]
  exact⟨(m1,w',H6,f',(gr l x).1,_),⟨by simp only;omega,o',n',fun c hc=>by have:=b' c hc;omega,dj.trans (.kO dj.cur eg)⟩,by simp only;omega,⟨by rw[DA (by omega)];simp[eP,eM],rfl,rfl⟩⟩
theorem KR(H:AH){b:Nat}{bs:List Int}(hb:bs.length≤1073741824)(hc:nc H b bs):T Tryz.prog Γ Fn.US [.gp b 0 0] H fun v h'=>∃x:Int,v=.int .i64 x∧aR H h' b bs:=by
  have hbl:b<H.length:=by obtain⟨_,_,_,hg⟩:=hc;exact c5 hg
  have rp_6:∀z:AV,(List.replicate 6 [z]).flatten=[z,z,z,z,z,z]:=fun z=>rfl
  refine PW (aD aJ aK [] _ _ _ ?_)
  unfold ND
  simp only[EZ,ag,Nat.reduceAdd,Nat.reduceBEq,HS,aF,aP,ER,EF,EA,ae,an,rp_6]
  have dA:aR H (H++[some (0,[AV.int .i64 2,.int .i64 3,.int .i64 2,.int .i64 3,.int .i64 2,.int .i64 4])]) b bs:=.kO hc (bQ.app _ _)
  refine ah.ref (by simp only[EO]) (HI _ hb dA.cur (rk H [2,3,2,3,2,4] rfl) (by simp only[List.mem_singleton];omega) (by simp)) ?_
  rintro _ H1 ⟨fr,rfl,q⟩
  replace q:aR (H++[some (0,_)]) H1 b bs:=q
  have e1:=dA.trans q
  simp only[EZ,ag,Nat.reduceAdd,Nat.reduceBEq,HS,aF,aP,ER,EF,EA,ae,an]
  first|exact⟨rfl,fr,rfl,e1⟩|exact⟨fr,rfl,e1⟩
end Go.Proofs.YtccjhmhkfnnmaaaGreat
namespace Go.Proofs.YtccjhmhkfnnmaaaGreat
open Go.AM
variable {Γ:cj}
theorem E5(x:au)(Hf:AH):aO Hf [.int .i64 x.nonce,.int .i64 x.giver,.int .i64 x.taker,.int .i64 x.entity] x.cd []:=.i (.i (.i (.i .nil)))
set_option maxHeartbeats 8000000 in
theorem E1(bs:List Int)(hbs:bs.length≤1073741824)(h:AH):T Tryz.prog Γ Fn.VV [.vs false 1 false (bs.map fun n=>[.int .u8 n])] h fun r h'=>(∃(l:List au) (x:au),r=.tup [.vs false 4 false (l.map (au.c false)),.agg (x.c false)]∧l.length≤20)∧h'=h:=by
  refine(T.Oz (R:=fun rs=>∃(l:List au) (x:au),rs=[.c (.sl 4 (l.map au.cd)),.a x.cd]∧l.length≤20) ?_).mono ?_
  rotate_left
  · rintro r h' ⟨⟨rs,⟨l,x,rfl,hl⟩,rfl⟩,rfl⟩
    refine⟨⟨l,x,?_,hl⟩,rfl⟩
    simp only[List.map_cons,List.map_nil,i9,vN,vK,CD.fb,CD.gx,List.map_map,Function.comp_def,au.bM]
  refine Sw (aD aJ aK [] _ _ _ ?_)
  unfold J2
  simp only[EZ,ag,Nat.reduceAdd,Nat.reduceBEq,nU,aF,aP,ER,EF,EA,ae,an]
  refine ah.ref (by simp only[EO]) (Gy bs hbs _) ?_
  rintro _ H1 ⟨b,rfl,hc,e1,hbh⟩
  replace e1:bQ h H1:=e1
  replace hbh:h.length≤b:=hbh
  have hbl:b<H1.length:=by obtain⟨_,_,_,hg⟩:=hc;exact c5 hg
  simp only[EZ,ag,Nat.reduceAdd,Nat.reduceBEq,nU,aF,aP,ER,EF,EA,ae,an]
  refine ah.ref (by simp only[EO]) (Fv H1 hbs hc) ?_
  rintro w H2 r2
  replace r2:Dp H1 b bs 5 w H2:=r2
  have he1:=e1.len
  have FIN:∀(n:Nat) (w:AV) (Hi Hf:AH) (x:au),Dp H1 b bs n w Hi→n≤20→aR Hi Hf b bs→∃vs rs fp,(AV.tup [w,.agg [.int .i64 x.nonce,.int .i64 x.giver,.int .i64 x.taker,.int .i64 x.entity]]:AV)=i9 vs∧gb Hf vs rs fp∧(∀c∈fp,h.length≤c)∧bQ h Hf∧∃(l:List au) (x:au),rs=[.c (.sl 4 (l.map au.cd)),.a x.cd]∧l.length≤20:=fun n w Hi Hf x r hn q=>by
    obtain⟨l,fp,o,nd,bw,hl,d⟩:=r
    have dn:=d.trans q
    have o2:=q.own o (fun h=>by have:=bw b h;omega)
    exact⟨[w,.agg _],[.c (.sl 4 (l.map au.cd)),.a x.cd],fp,rfl,⟨fp,[],by simp,o2,[],[],by simp,⟨_,rfl,E5 x Hf⟩,rfl⟩,fun c hc=>by have:=bw c hc;omega,⟨by have:=dn.len;omega,fun c hc=>by rw[dn.fr c (by omega) (by omega),e1.fr c hc]⟩,l,x,rfl,by omega⟩
  have out:∀(n:Nat) (w:AV) (Hi:AH),Dp H1 b bs n w Hi→cellsOf w=some [w]∧bK w=true∧bo w=true∧eH w=true∧∃k:Nat,k≤n∧rE false w=some (.int .i64 k):=fun n w Hi r=>by
    obtain⟨l,fp,o,nd,bw,hl,d⟩:=r
    obtain⟨c1,c2,c3,c4⟩:=o.cell
    have L:=(dE o).2
    rw[List.length_map]at L
    exact⟨c1,c2,c3,c4,_,hl,L⟩
  obtain⟨w1,w2,w3,w4,k,hk,lw⟩:=out _ _ _ r2
  simp only[EZ,ag,Nat.reduceAdd,Nat.reduceBEq,nU,aF,aP,ER,EF,EA,ae,an,w1,w2,w3]
  refine ah.ref (by simp only[EO]) (ru _ hbs (show nc H2 b bs by obtain⟨_,_,_,_,_,_,d⟩:=r2;exact d.cur) _) ?_
  rintro _ H3 ⟨on,rfl,q3⟩
  replace q3:aR H2 H3 b bs:=q3
  have r3:Dp H1 b bs 5 w H3:=by
    obtain⟨l,fp,o,nd,bw,hl,d⟩:=r2
    exact⟨l,fp,q3.own o (fun h=>by have:=bw b h;omega),nd,bw,hl,d.trans q3⟩
  have cur3:nc H3 b bs:=q3.cur
  cases on
  · simp only[EZ,ag,Nat.reduceAdd,Nat.reduceBEq,nU,aF,aP,ER,EF,EA,ae,an,w1,w2,w3]
    refine ah.ref (by simp only[EO]) (Cl _ hbs cur3) ?_
    rintro _ H4 ⟨x,rfl,q⟩
    replace q:aR H3 H4 b bs:=q
    simp only[EZ,ag,Nat.reduceAdd,Nat.reduceBEq,nU,aF,aP,ER,EF,EA,ae,an,w1,w2,w3]
    first|exact⟨by simp only[List.all_cons,List.all_nil,EO,w3,w4],FIN 5 w H3 H4 x r3 (by omega) q⟩|exact FIN 5 w H3 H4 x r3 (by omega) q
  simp only[EZ,ag,Nat.reduceAdd,Nat.reduceBEq,nU,aF,aP,ER,EF,EA,ae,an,w1,w2,w3,lw]
  refine dD aJ aK [] (fun y:Nat×AV×AH×List (List AV)=>k≤y.1∧y.1≤12∧Dp H1 b bs (5+(y.1-k)) y.2.1 y.2.2.1∧nc y.2.2.1 b bs∧y.2.2.2=([]:List (List AV))++[[.int .i64 0,.int .i64 0,.int .i64 0,.int .i64 0]]) (fun y=>12-y.1)
    (fun y=>Dc (.lp ([]:List (List AV)).length 0) (.gp b 0 0) y.2.1 (.int .i64 y.1) y.2.2.2 y.2.2.1) (k,w,H3,_) ⟨Nat.le_refl _,by simp only;omega,by simpa using r3,cur3,rfl⟩ ⟨by simp[Dc,eP,eM],rfl,rfl⟩ ?_
  clear w1 w2 w3 w4 lw r2 r3 q3 cur3
  rintro⟨n,w',Hi,M⟩ ⟨hkn,hn,ri,ci,hM⟩
  simp only at hkn hn ri ci hM
  subst hM
  obtain⟨w1,w2,w3,w4,k',hk',lw⟩:=out _ _ _ ri
  simp only[EZ,ag,Nat.reduceAdd,Nat.reduceBEq,nU,aF,aP,ER,EF,EA,ae,an,Dc,w1,w2,w3]
  refine bI (fun hlt=>?_) (fun hge=>?_)
  rotate_left
  · simp only[EZ,ag,Nat.reduceAdd,Nat.reduceBEq,nU,aF,aP,ER,EF,EA,ae,an,w1,w2,w3]
    refine ah.ref (by simp only[EO]) (Cl _ hbs ci) ?_
    rintro _ H4 ⟨x,rfl,q⟩
    replace q:aR Hi H4 b bs:=q
    simp only[EZ,ag,Nat.reduceAdd,Nat.reduceBEq,nU,aF,aP,ER,EF,EA,ae,an,w1,w2,w3]
    first|exact⟨by simp only[List.all_cons,List.all_nil,EO,w3,w4],FIN _ w' Hi H4 x ri (by omega) q⟩|exact FIN _ w' Hi H4 x ri (by omega) q
  have hlt:n<12:=by simp at hlt;omega
  obtain⟨v',H',ea,r'⟩:=ri.grow hbl ⟨ci,Nat.le_refl _,fun _ _ _=>rfl⟩ (by omega) ⟨IntKind.i64.wrap (100+n),1,2,0⟩
  obtain⟨z1,z2,z3,z4,_,_,_⟩:=out _ _ _ r'
  simp only[EZ,ag,Nat.reduceAdd,Nat.reduceBEq,nU,aF,aP,ER,EF,EA,ae,an,w1,w2,w3,ea,z1,z2,z3]
  exact⟨(n+1,v',H',_),⟨by simp only;omega,hlt,by simp only;rw[show 5+(n+1-k)=5+(n-k)+1 by omega];exact r',by obtain⟨_,_,_,_,_,_,d⟩:=r';exact d.cur,rfl⟩,by simp only;omega,⟨by rw[wN (by omega)];simp[eP,eM],rfl,rfl⟩⟩
set_option maxHeartbeats 8000000 in
theorem oO(bs:List Int)(hbs:bs.length≤1073741824)(h:AH):T Tryz.prog Γ Fn.VG [.vs false 1 false (bs.map fun n=>[.int .u8 n])] h fun r h'=>(∃(l:List au),r=.vs false 4 false (l.map (au.c false))∧l.length≤20)∧h'=h:=by
  refine(T.Oz (R:=fun rs=>∃(l:List au),rs=[.c (.sl 4 (l.map au.cd))]∧l.length≤20) ?_).mono ?_
  rotate_left
  · rintro r h' ⟨⟨rs,⟨l,rfl,hl⟩,rfl⟩,rfl⟩
    refine⟨⟨l,?_,hl⟩,rfl⟩
    simp only[List.map_cons,List.map_nil,i9,vN,vK,CD.fb,CD.gx,List.map_map,Function.comp_def,au.bM]
  have rp_3:∀z:AV,(List.replicate 3 [z]).flatten=[z,z,z]:=fun z=>rfl
  refine PF (aD aJ aK [] _ _ _ ?_)
  unfold KC
  simp only[EZ,ag,Nat.reduceAdd,Nat.reduceBEq,pS,aF,aP,ER,EF,EA,ae,an]
  refine ah.ref (by simp only[EO]) (Gy bs hbs _) ?_
  rintro _ H1 ⟨b,rfl,hc,e1,hbh⟩
  replace e1:bQ h H1:=e1
  replace hbh:h.length≤b:=hbh
  have hbl:b<H1.length:=by obtain⟨_,_,_,hg⟩:=hc;exact c5 hg
  simp only[EZ,ag,Nat.reduceAdd,Nat.reduceBEq,pS,aF,aP,ER,EF,EA,ae,an]
  refine ah.ref (by simp only[EO]) (Fv H1 hbs hc) ?_
  rintro w H2 r2
  replace r2:Dp H1 b bs 5 w H2:=r2
  have he1:=e1.len
  have FIN:∀(n:Nat) (w:AV) (Hf:AH),Dp H1 b bs n w Hf→n≤20→c7 w=true∧∃vs rs fp,w=i9 vs∧gb Hf vs rs fp∧(∀c∈fp,h.length≤c)∧bQ h Hf∧∃(l:List au),rs=[.c (.sl 4 (l.map au.cd))]∧l.length≤20:=fun n w Hf r hn=>by
    obtain⟨l,fp,o,nd,bw,hl,dn⟩:=r
    exact⟨o.c7,[w],[.c (.sl 4 (l.map au.cd))],fp,rfl,⟨fp,[],by simp,o,rfl⟩,fun c hc=>by have:=bw c hc;omega,⟨by have:=dn.len;omega,fun c hc=>by rw[dn.fr c (by omega) (by omega),e1.fr c hc]⟩,l,rfl,by omega⟩
  have out:∀(n:Nat) (w:AV) (Hi:AH),Dp H1 b bs n w Hi→cellsOf w=some [w]∧bK w=true∧bo w=true∧eH w=true:=fun n w Hi r=>by
    obtain⟨l,fp,o,nd,bw,hl,d⟩:=r
    exact o.cell
  have mv:∀{n:Nat} {w:AV} {Hi Hj:AH},Dp H1 b bs n w Hi→aR Hi Hj b bs→Dp H1 b bs n w Hj:=fun r q=>by
    obtain⟨l,fp,o,nd,bw,hl,d⟩:=r
    exact⟨l,fp,q.own o (fun h=>by have:=bw b h;omega),nd,bw,hl,d.trans q⟩
  have cu:∀{n:Nat} {w:AV} {Hi:AH},Dp H1 b bs n w Hi→nc Hi b bs:=fun r=>by
    obtain⟨_,_,_,_,_,_,d⟩:=r
    exact d.cur
  obtain⟨w1,w2,w3,w4⟩:=out _ _ _ r2
  simp only[EZ,ag,Nat.reduceAdd,Nat.reduceBEq,pS,aF,aP,ER,EF,EA,ae,an,w1,w2,w3]
  refine ah.ref (by simp only[EO]) (aW _ hbs (cu r2) _) ?_
  rintro _ H3 ⟨n3,rfl,_,_,q3⟩
  replace q3:aR H2 H3 b bs:=q3
  have r3:=mv r2 q3
  by_cases k0:n3=0
  · simp only[EZ,ag,Nat.reduceAdd,Nat.reduceBEq,pS,aF,aP,ER,EF,EA,ae,an,w1,w2,w3,decide_eq_true k0]
    refine ah.ref (by simp only[EO]) (Cl _ hbs (cu r3)) ?_
    rintro _ H4 ⟨x,rfl,q⟩
    replace q:aR H3 H4 b bs:=q
    obtain⟨v',H',ea,r'⟩:=r3.grow hbl q (by omega) x
    obtain⟨z1,z2,z3,z4⟩:=out _ _ _ r'
    simp only[EZ,ag,Nat.reduceAdd,Nat.reduceBEq,pS,aF,aP,ER,EF,EA,ae,an,w1,w2,w3,ea,z1,z2,z3]
    exact FIN _ v' H' r' (by omega)
  by_cases k1:n3=1
  · simp only[EZ,ag,Nat.reduceAdd,Nat.reduceBEq,pS,aF,aP,ER,EF,EA,ae,an,w1,w2,w3,decide_eq_false k0,decide_eq_true k1]
    refine ah.ref (by simp only[EO]) (Cl _ hbs (cu r3)) ?_
    rintro _ H4 ⟨x,rfl,q⟩
    replace q:aR H3 H4 b bs:=q
    have r4:=mv r3 q
    have hlen4:b<H4.length:=by obtain⟨_,_,_,hg⟩:=cu r4;exact c5 hg
    simp only[EZ,ag,Nat.reduceAdd,Nat.reduceBEq,pS,aF,aP,ER,EF,EA,ae,an,w1,w2,w3,rp_3]
    have dA:aR H4 (H4++[some (0,[AV.int .i64 0,.int .i64 999999,.int .i64 1000000])]) b bs:=.kO (cu r4) (bQ.app _ _)
    refine ah.ref (by simp only[EO]) (HI _ hbs dA.cur (rk H4 [0,999999,1000000] rfl) (by simp only[List.mem_singleton];omega) (by simp)) ?_
    rintro _ H5 ⟨no,rfl,q5⟩
    replace q5:aR (H4++[some (0,_)]) H5 b bs:=q5
    have r5:=mv r4 (dA.trans q5)
    obtain⟨v',H',ea,r'⟩:=r5.grow hbl ⟨cu r5,Nat.le_refl _,fun _ _ _=>rfl⟩ (by omega) ⟨no,x.giver,x.taker,x.entity⟩
    obtain⟨z1,z2,z3,z4⟩:=out _ _ _ r'
    simp only[EZ,ag,Nat.reduceAdd,Nat.reduceBEq,pS,aF,aP,ER,EF,EA,ae,an,w1,w2,w3,ea,z1,z2,z3]
    exact FIN _ v' H' r' (by omega)
  simp only[EZ,ag,Nat.reduceAdd,Nat.reduceBEq,pS,aF,aP,ER,EF,EA,ae,an,w1,w2,w3,decide_eq_false k0,decide_eq_false k1]
  exact FIN _ w H3 r3 (by omega)
end Go.Proofs.YtccjhmhkfnnmaaaGreat
