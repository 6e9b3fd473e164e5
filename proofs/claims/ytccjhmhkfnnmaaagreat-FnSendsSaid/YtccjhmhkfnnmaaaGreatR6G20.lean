import Derived.Test.YtccjhmhkfnnmaaaGreatR6G19
set_option linter.unusedVariables false
set_option linter.unusedSimpArgs false
namespace Go.Proofs.YtccjhmhkfnnmaaaGreat
open Go.AM
variable {Γ:bY}
def At(e:aq):Prop:=e.kind=1∨e.kind=2∨e.kind=3
structure zP (k j:Nat) (v:ar):Prop where
  vi:VI v
  w:wV v+k≤12
  el:v.entities.length+j≤12
  lk:v.links.length=2
  kd:∀e∈v.entities,At e
  ne:0<v.entities.length
  li:∀l∈v.links,jV (13-k) l
theorem zP.zr{k j:Nat}{v:ar}(d:zP (k+1) j v):zP k j v:=⟨d.vi,by have:=d.w;omega,d.el,d.lk,d.kd,d.ne,fun l hl=>(d.li l hl).mono (by omega)⟩
theorem zP.add{k j:Nat}{v:ar}(d:zP k (j+1) v){x:aq}(h1:x.slots.length≤100)(h2:x.queue=[])(h3:x.askers=[])(h4:At x):zP k j (gm v x):=by
  have hl:=d.el
  have e:gm v x={ v with entities:=v.entities++[x] }:=by rw[gm,if_neg (by omega)]
  rw[e]
  have hx:oO x=0:=by simp[oO,h2,h3,rX]
  refine⟨⟨by simp only[List.length_append,List.length_cons,List.length_nil];omega,d.vi.loop,d.vi.links,d.vi.ans,fun y hy=>?_,d.vi.lps,d.vi.outs⟩,?_,by simp only[List.length_append,List.length_cons,List.length_nil];omega,d.lk,fun y hy=>?_,by simp,d.li⟩
  · rcases List.mem_append.1 hy with g|g
    · exact d.vi.en y g
    · rw[List.mem_singleton.1 g];exact⟨h1,fun s hs=>by rw[h2]at hs;cases hs⟩
  · have:=d.w
    simp only[wV,List.map_append,List.sum_append,List.map_cons,List.map_nil,List.sum_cons,List.sum_nil,hx]at this ⊢;omega
  · rcases List.mem_append.1 hy with g|g
    · exact d.kd y g
    · rw[List.mem_singleton.1 g];exact h4
theorem zP.Sy{k j:Nat}{v:ar}(d:zP (k+1) j v){i:Nat}{l:aB}(hl:yr l≤yr (v.links.getD i default)+1)(ha:l.answers.length≤100)(hi:jV (13-(k+1)+1) l):zP k j (oZ v i l):=
  ⟨pV d.vi i l ha,by have:=sj (v:=v) i l hl;have:=d.w;omega,d.el,by simp[oZ,d.lk],d.kd,d.ne,fun x hx=>by
    have:=d.w
    rcases List.mem_or_eq_of_mem_set hx with g|g
    · exact(d.li x g).mono (by omega)
    · rw[g];exact hi.mono (by omega)⟩
theorem Da(script:Int):zP 10 9 (eB 1 [2,3] script):=by
  refine⟨⟨by simp[eB],by simp[eB],by simp[eB],fun l hl=>?_,fun e he=>?_,fun s hs=>by simp[eB]at hs,fun s hs=>by simp[eB]at hs⟩,?_,by simp[eB],by simp[eB],fun e he=>?_,by simp[eB],fun l hl=>?_⟩
  · simp only[eB,List.map_cons,List.map_nil,List.mem_cons,List.not_mem_nil,or_false]at hl
    rcases hl with rfl|rfl<;>(rw[jh,(nY _ _).2.2];exact Nat.zero_le _)
  · simp only[eB,List.map_cons,List.map_nil,List.mem_cons,List.not_mem_nil,or_false]at he
    rcases he with rfl|rfl|rfl<;>exact⟨Nat.zero_le _,fun s hs=>by cases hs⟩
  · have a:=Ar (pa 2) 0
    have b:=Ar (pa 3) 0
    have a0:yr (pa 2)=0:=rfl
    have b0:yr (pa 3)=0:=rfl
    have e:wV (eB 1 [2,3] script)=yr (jh 2)+yr (jh 3):=by simp[wV,eB,oO,DY,dZ,kg,rX]
    rw[e];unfold jh;omega
  · simp only[eB,List.map_cons,List.map_nil,List.mem_cons,List.not_mem_nil,or_false]at he
    rcases he with rfl|rfl|rfl
    · exact .inl rfl
    · exact .inr (.inr rfl)
    · exact .inr (.inr rfl)
  · simp only[eB,List.map_cons,List.map_nil,List.mem_cons,List.not_mem_nil,or_false]at hl
    rcases hl with rfl|rfl<;>exact((jV.zero _).put (by omega) 0).mono (by omega)
theorem AB{H H':AH}{b:Nat}{bs:List Int}(d:b9 H H' b bs){row:List AV}{cs:List CD}{fp:List Nat}(o:aG H row cs fp)(hb:b∉fp):aG H' row cs fp:=o.frame fun c hc=>d.fr c (o.lt c hc) (fun e=>hb (e▸hc))
structure VC (h H:AH) (b:Nat) (bs:List Int) (v:ar) (wE w2 wL w4:AV) (f:List Nat):Prop where
  own:aG H [.int .i64 v.id,wE,w2,wL,w4] v.cd f
  nd:f.Nodup
  bf:∀c∈f,h.length≤c∧c≠b
  dr:b9 h H b bs
theorem VC.draw{h H H':AH}{b:Nat}{bs:List Int}{v:ar}{wE w2 wL w4:AV}{f:List Nat}(x:VC h H b bs v wE w2 wL w4 f)(d:b9 H H' b bs):VC h H' b bs v wE w2 wL w4 f:=
  ⟨AB d x.own fun g=>(x.bf b g).2 rfl,x.nd,x.bf,x.dr.trans d⟩
theorem VC.ext{h H H':AH}{b:Nat}{bs:List Int}{v:ar}{wE w2 wL w4:AV}{f:List Nat}(x:VC h H b bs v wE w2 wL w4 f)(d:cn H H'):VC h H' b bs v wE w2 wL w4 f:=
  x.draw (.rI x.dr.cur d)
theorem qp{h H:AH}{b:Nat}{bs:List Int}{v:ar}{wE w2 wL w4:AV}{f:List Nat}(x:VC h H b bs v wE w2 wL w4 f)(hbl:b<h.length)(hv:v.ok 1048576){e:aq}(he:e.ok 1048576){ec:List AV}{fe:List Nat}(oe:aG H ec e.cd fe)
    {en:List AV} {L:List (List AV)} {K:AV→St→Prop} (ho:[AV.agg [.int .i64 v.id,wE,w2,wL,w4],.agg ec].all dY=true)
    (hk:∀wE' w2' wL' w4' f' H' n,VC h H' b bs (gm v e) wE' w2' wL' w4' f'→K (.tup [.agg [.int .i64 (gm v e).id,wE',w2',wL',w4'],.int .i64 n]) ⟨en,L,H'⟩):
    al Tryz.prog Γ Fn.Dg [.agg [.int .i64 v.id,wE,w2,wL,w4],.agg ec] ⟨en,L,H⟩ K:=by
  refine al.own ho (aK (aG.fV (ar.cu true v) x.own) (aK (aG.fV (aq.cu true e) oe) b8)) (Nh true v hv e he) ?_
  rintro _ H' fr
  replace fr:aV H _ _ _:=fr
  obtain⟨ac,f',rfl,o',n',b',eg⟩:=fr.a2 rfl
  obtain⟨wE',w2',wL',w4',_,_,_,_,rfl,_,_⟩:=kl o'
  have:=x.dr.len
  exact hk wE' w2' wL' w4' f' H' _ ⟨o',n',fun c hc=>by have:=b' c hc;exact⟨by omega,by omega⟩,x.dr.trans (.rI x.dr.cur eg)⟩
theorem KT{w:AV}{p:AV}(h:dV 7 w ((1:Nat):Int)=some p):dV 7 w 1=some p:=h
theorem S0(z:AV):(List.replicate 2 [z]).flatten=[z,z]:=rfl
theorem VC.cell{h H:AH}{b:Nat}{bs:List Int}{v:ar}{wE w2 wL w4:AV}{f:List Nat}(x:VC h H b bs v wE w2 wL w4 f):(cellsOf wE=some [wE]∧bU wE=true∧bj wE=true∧dY wE=true)∧(cellsOf w2=some [w2]∧bU w2=true∧bj w2=true∧dY w2=true)∧(cellsOf wL=some [wL]∧bU wL=true∧bj wL=true∧dY wL=true)∧(cellsOf w4=some [w4]∧bU w4=true∧bj w4=true∧dY w4=true)∧AF false wE=some (.int .i64 v.entities.length):=by
  obtain⟨_,_,_,_,_,_,_,_,e,_,oE,o2,oL,o4⟩:=kl x.own
  simp only[List.cons.injEq,true_and,and_true]at e
  obtain⟨rfl,rfl,rfl,rfl⟩:=e
  have l:=(cP oE).2
  rw[List.length_map]at l
  exact⟨oE.cell,o2.cell,oL.cell,o4.cell,l⟩
theorem VC.link{h H:AH}{b:Nat}{bs:List Int}{v:ar}{wE w2 wL w4:AV}{f:List Nat}(x:VC h H b bs v wE w2 wL w4 f)(hbl:b<h.length){k:Nat}(hk:k<v.links.length):∃bL gL n row f0,dV 7 wL (k:Int)=some (.gp bL gL n)∧(∀(e:List AV) (L:List (List AV)),(St.mk e L H).cells (.gp bL gL n) 7=some row)∧
    aG H row v.links[k].cd f0∧f0.Nodup∧∀(H4:AH) (row':List AV) (l':aB) (f':List Nat),cn H H4→aG H4 row' l'.cd f'→f'.Nodup→(∀c∈f',c∈f0∨H.length≤c)→
      ∃H5 f5,(∀(e:List AV) (L:List (List AV)),(St.mk e L H4).store (.gp bL gL n) row'=some ⟨e,L,H5⟩)∧VC h H5 b bs { v with links:=v.links.set k l' } wE w2 wL w4 f5:=by
  obtain⟨_,_,_,_,fE,f2,fL,f4,e,rfl,oE,o2,oL,o4⟩:=kl x.own
  simp only[List.cons.injEq,true_and,and_true]at e
  obtain⟨rfl,rfl,rfl,rfl⟩:=e
  obtain⟨nE,n1,q1⟩:=List.nodup_append.1 x.nd
  obtain⟨n2,n3,q2⟩:=List.nodup_append.1 n1
  obtain⟨nL,n4,q3⟩:=List.nodup_append.1 n3
  have hkm:k<(v.links.map aB.cd).length:=by simpa using hk
  obtain⟨bL,gL,pre,rowL,post,fL0,iL,mL,lL,oLr,nLr,sLr,bmL,bnL,close⟩:=oL.j9 nL hkm
  rw[List.getElem_map]at oLr
  refine⟨bL,gL,pre.length,rowL,fL0,iL,fun e L=>by rw[mL.qJ e L 7 (by omega)];exact k5 lL,oLr,nLr,fun H4 row' l' f' eg o' n' b'=>?_⟩
  have vlt:=x.own.lt
  have hfL:∀c∈fL,c<H.length:=fun c hc=>vlt c (by simp[hc])
  have hbq:=hfL bL bmL
  have rl:row'.length=7:=by rw[o'.len];rfl
  have m4:kC H4 bL gL pre _ post:=mL.frame (eg.fr bL hbq)
  obtain⟨H5,s5,m5,l5,r5⟩:=m4.store (i:=0) (vs:=row') (by rw[rl,lL];exact Nat.le_refl 7) o'.bj
  rw[Nat.add_zero]at s5
  have ov:cD rowL 0 row'=row':=by simp[cD,rl,lL]
  rw[ov]at m5
  have lx:=eg.len
  have nb:∀c∈f',c≠bL:=fun c hc e=>by
    rcases b' c hc with g|g
    · exact bnL (e▸g)
    · omega
  have o5:=o'.frame (h':=H5) fun c hc=>r5 c (nb c hc)
  obtain⟨fL',oL5,nL5,mL5⟩:=close H5 _ l'.cd f' o5 n' rfl (fun c hc=>(b' c hc).imp id fun g hm=>by have:=hfL c hm;omega) m5 (fun c hc hcf hcb=>by rw[r5 c hcb];exact eg.fr c (hfL c hc))
  rw[←List.map_set]at oL5
  have mf:∀c∈fL',c∈fL∨H.length≤c:=fun c hc=>by
    rcases mL5 c hc with g|g
    · exact .inl g
    · exact(b' c g).imp (sLr c) id
  have oth:∀c,c∈fE∨c∈f2∨c∈f4→H5[c]? = H[c]?∧c∉fL':=fun c hc=>by
    have hl:c<H.length:=vlt c (by rcases hc with g|g|g<;>simp[g])
    have hn:c∉fL:=fun g=>by
      rcases hc with q|q|q
      · exact q1 c q c (by simp[g]) rfl
      · exact q2 c q c (by simp[g]) rfl
      · exact q3 c g c q rfl
    refine⟨by rw[r5 c (fun e=>hn (e▸bmL)),eg.fr c hl],fun g=>?_⟩
    rcases mf c g with q|q
    · exact hn q
    · omega
  have hL:=x.dr.len
  have bbL:=x.bf bL (by simp[bmL])
  refine⟨H5,fE++(f2++(fL'++f4)),s5,OE (v:={ v with links:=v.links.set k l' }) (oE.frame fun c hc=>(oth c (.inl hc)).1) (o2.frame fun c hc=>(oth c (.inr (.inl hc))).1) oL5 (o4.frame fun c hc=>(oth c (.inr (.inr hc))).1),?_,fun c hc=>?_,?_⟩
  · refine List.nodup_append.2 ⟨nE,List.nodup_append.2 ⟨n2,List.nodup_append.2 ⟨nL5,n4,fun c hc d hd e=>(oth d (.inr (.inr hd))).2 (e▸hc)⟩,fun c hc d hd e=>?_⟩,fun c hc d hd e=>?_⟩
    · subst e
      rcases List.mem_append.1 hd with g|g
      · exact(oth c (.inr (.inl hc))).2 g
      · exact q2 c hc c (by simp[g]) rfl
    · subst e
      rcases List.mem_append.1 hd with g|g
      · exact q1 c hc c (by simp[g]) rfl
      · rcases List.mem_append.1 g with g|g
        · exact(oth c (.inl hc)).2 g
        · exact q1 c hc c (by simp[g]) rfl
  · simp only[List.mem_append]at hc
    rcases hc with g|g|g|g
    · exact x.bf c (by simp[g])
    · exact x.bf c (by simp[g])
    · rcases mf c g with q|q
      · exact x.bf c (by simp[q])
      · omega
    · exact x.bf c (by simp[g])
  · obtain⟨i,s,hi,hg⟩:=x.dr.cur
    refine⟨⟨i,s,hi,by rw[bt (r5 b (fun e=>bbL.2 e.symm)),bt (eg.fr b (by omega))];exact hg⟩,by omega,fun c h1 h2=>?_⟩
    rw[r5 c (by omega),eg.fr c (by omega),x.dr.fr c h1 h2]
theorem zP.ok{k j:Nat}{v:ar}(d:zP k j v):v.ok 1048576:=d.vi.Lz.mono (by have:=d.w;omega)
theorem Fu{m:Nat}(h1:m<1000000):IntKind.i64.wrap (((m+1:Nat):Int)-1)=(m:Int):=by rw[fo (by omega) (by omega)];omega
def kL(st k n peer pos:Int):aq:=⟨2,0,[],st,⟨k,n⟩,[],[],peer,pos,0,0⟩
theorem qB(H:AH)(st k n peer pos:Int):aG H [.int .i64 2,.int .i64 0,.nils,.int .i64 st,.int .i64 k,.int .i64 n,.nils,.nils,.int .i64 peer,.int .i64 pos,.int .i64 0,.int .i64 0] (kL st k n peer pos).cd []:=.i (.i (.o (.nil _) (.i (.i (.i (.o (.nil _) (.o (.nil _) (.i (.i (.i (.i .nil)))))))))))
abbrev TY:List AV:=[.int .i64 0,.int .i64 0,.nils,.int .i64 0,.int .i64 0,.int .i64 0,.nils,.nils,.int .i64 0,.int .i64 0,.int .i64 0,.int .i64 0]
abbrev pR(st k n peer pos:Int):List AV:=[.int .i64 2,.int .i64 0,.nils,.int .i64 st,.int .i64 k,.int .i64 n,.nils,.nils,.int .i64 peer,.int .i64 pos,.int .i64 0,.int .i64 0]
abbrev z5:List AV:=[.int .i64 0,.nils,.nils,.nils,.nils]
theorem Fo{e:List AV}{h:AH}{id i':Int}{a b c d a' b' c' d':AV}{X Y:List (List AV)}(ha:bU a'=true)(hb:bU b'=true)(hc:bU c'=true)(hd:bU d'=true):
    (St.mk e (LL z5 [.int .i64 id,a,b,c,d] X++Y) h).store (.lp (([]:List (List AV)).length+1) 0) [.int .i64 i',a',b',c',d']=some ⟨e,LL z5 [.int .i64 i',a',b',c',d'] X++Y,h⟩:=
  A8 (by simp) (by simp only[List.all_cons,List.all_nil,ha,hb,hc,hd];rfl)
theorem E3{e:List AV}{h:AH}{id i':Int}{a b c d a' b' c' d':AV}{X:List (List AV)}(ha:bU a'=true)(hb:bU b'=true)(hc:bU c'=true)(hd:bU d'=true):
    (St.mk e (LL z5 [.int .i64 id,a,b,c,d] X) h).store (.lp (([]:List (List AV)).length+1) 0) [.int .i64 i',a',b',c',d']=some ⟨e,LL z5 [.int .i64 i',a',b',c',d'] X,h⟩:=
  IS (by simp) (by simp only[List.all_cons,List.all_nil,ha,hb,hc,hd];rfl)
set_option maxHeartbeats 8000000 in
set_option maxRecDepth 100000 in
theorem Nv(h:AH){b:Nat}{bs:List Int}(hb:bs.length≤1073741824)(hc:rY h b bs):T Tryz.prog Γ Fn.SB [.gp b 0 0] h fun r H'=>∃v wE w2 wL w4 f,r=.agg [.int .i64 v.id,wE,w2,wL,w4]∧zP 0 0 v∧VC h H' b bs v wE w2 wL w4 f:=by
  have hbl:b<h.length:=by obtain⟨_,_,_,hg⟩:=hc;exact g6 hg
  refine LY (au aC aD [] _ _ _ ?_)
  unfold HW
  simp only[EZ,ag,Nat.reduceAdd,Nat.reduceBEq,dL,bN,bM,bO,aE,aO,ER,EF,EA,S0]
  refine al.ref (by simp only[EO]) (cj _ hb (hc.grow _) _) ?_
  rintro _ H1 ⟨sc,rfl,_,_,q1⟩
  replace q1:b9 (h++[some (0,[AV.int .i64 2,.int .i64 3])]) H1 b bs:=q1
  have o1:=(Ac h [2,3] rfl)
  have o1':=q1.own o1 (by simp only[List.mem_singleton];omega)
  simp only[EZ,ag,Nat.reduceAdd,Nat.reduceBEq,dL,bN,bM,bO,aE,aO,ER,EF,EA]
  refine al.own (by simp only[EO]) (aK (.same _) (aK (b6.fV (cd:=fun n:Int=>[CD.i .i64 n]) (c:=fun n:Int=>[AV.int .i64 n]) (fun n=>by simp[CD.gI]) o1') (aK (.same _) b8))) (Qt true 1 [2,3] (by simp) sc) ?_
  rintro _ H2 fr
  replace fr:aV H1 _ _ _:=fr
  obtain⟨ac,f,rfl,o2,n2,b2,e2⟩:=fr.a1
  obtain⟨wE,w2,wL,w4,fE,f2,fL,f4,rfl,rfl,_⟩:=kl o2
  have q2:b9 h H2 b bs:=(b9.rI hc (cn.app h _)).trans (q1.trans (.rI q1.cur e2))
  have l1:=q1.len
  simp only[List.length_append,List.length_cons,List.length_nil]at l1
  have x2:VC h H2 b bs (eB 1 [2,3] sc) wE w2 wL w4 (fE++(f2++(fL++f4))):=⟨o2,n2,fun c hc=>by have:=b2 c hc;omega,q2⟩
  obtain⟨⟨a1,a2,a3,a4⟩,⟨b1,b2,b3,b4⟩,⟨c1,c2,c3,c4⟩,⟨d1,d2,d3,d4⟩,lE⟩:=x2.cell
  simp only[EZ,ag,Nat.reduceAdd,Nat.reduceBEq,dL,bN,bM,bO,aE,aO,ER,EF,EA,a1,a2,a3,b1,b2,b3,c1,c2,c3,d1,d2,d3]
  refine al.ref (by simp only[EO]) (cj _ hb q2.cur _) ?_
  rintro _ H3 ⟨pl,rfl,cnt0,cnt1,q3⟩
  replace q3:b9 H2 H3 b bs:=q3
  have x3:=x2.draw q3
  replace cnt1:=cnt1 (by omega)
  obtain⟨k0,rfl⟩:∃k0:Nat,pl=k0:=⟨pl.toNat,by omega⟩
  have ds0:zP k0 k0 (eB 1 [2,3] sc):=by
    have d:=Da sc
    exact⟨d.vi,by have:=d.w;omega,by have:=d.el;omega,d.lk,d.kd,d.ne,fun l hl=>(d.li l hl).mono (by omega)⟩
  simp only[EZ,ag,Nat.reduceAdd,Nat.reduceBEq,dL,bN,bM,bO,aE,aO,ER,EF,EA]
  refine et aC aD [] (fun x:Nat×ar×AV×AV×AV×AV×List Nat×AH×List (List AV)=>x.1≤4∧zP x.1 x.1 x.2.1∧VC h x.2.2.2.2.2.2.2.1 b bs x.2.1 x.2.2.1 x.2.2.2.1 x.2.2.2.2.1 x.2.2.2.2.2.1 x.2.2.2.2.2.2.1) (fun x=>x.1)
    (fun x=>Bd (.gp b 0 0) (.lp ([]:List (List AV)).length 0) (.lp (([]:List (List AV)).length+1) 0) (.int .i64 x.1) (LL z5 [.int .i64 x.2.1.id,x.2.2.1,x.2.2.2.1,x.2.2.2.2.1,x.2.2.2.2.2.1] x.2.2.2.2.2.2.2.2) x.2.2.2.2.2.2.2.1) (k0,eB 1 [2,3] sc,wE,w2,wL,w4,_,H3,[]) ⟨by simp only;omega,ds0,x3⟩ ⟨by simp[Bd,fY,fO],rfl,rfl⟩ ?_
  rintro⟨k,v,wE,w2,wL,w4,f,Hi,X⟩ ⟨hk,ds,xi⟩
  simp only at hk ds xi
  obtain⟨⟨a1,a2,a3,a4⟩,⟨b1,b2,b3,b4⟩,⟨c1,c2,c3,c4⟩,⟨d1,d2,d3,d4⟩,lE⟩:=xi.cell
  simp only[EZ,ag,Nat.reduceAdd,Nat.reduceBEq,dL,bN,bM,bO,Bd,aE,aO,ER,EF,EA]
  refine bP (fun hgt=>?_) (fun hge=>?_)
  rotate_left
  · have hge:k=0:=by simp at hge;omega
    subst hge
    simp only[EZ,ag,Nat.reduceAdd,Nat.reduceBEq,dL,bN,bM,bO,aE,aO,ER,EF,EA]
    refine al.ref (by simp only[EO]) (De _ hb xi.dr.cur _) ?_
    rintro _ H2' ⟨on,rfl,q2'⟩
    replace q2':b9 Hi H2' b bs:=q2'
    have x2':=xi.draw q2'
    have st0:∀(e:List AV) (h:AH),(St.mk e (LL z5 [.int .i64 v.id,wE,w2,wL,w4] X) h).store (.lp (([]:List (List AV)).length) 0) [.int .i64 v.id,wE,w2,wL,w4]=some ⟨e,LL [.int .i64 v.id,wE,w2,wL,w4] [.int .i64 v.id,wE,w2,wL,w4] X,h⟩:=fun e h=>B6 (by simp) (by simp only[List.all_cons,List.all_nil,a2,b2,c2,d2];rfl)
    cases on
    · simp only[EZ,ag,Nat.reduceAdd,Nat.reduceBEq,dL,bN,bM,bO,aE,aO,ER,EF,EA,iP,cK,a1,a2,a3,b1,b2,b3,c1,c2,c3,d1,d2,d3,st0]
      exact⟨by simp only[dJ,EO,a3,a4,b3,b4,c3,c4,d3,d4],v,wE,w2,wL,w4,f,rfl,ds,x2'⟩
    · obtain⟨bL,gL,nn,row,f0,i1,r1,oR,nR,wr⟩:=x2'.link hbl (k:=1) (by rw[ds.lk];omega)
      have i1':=KT i1
      obtain⟨H5,f5,s5,x5⟩:=wr H2' [.int .i64 3,.bool false,.nils,.int .i64 0,.nils,.int .i64 0,.nils] ⟨3,false,[],0,[],0,[]⟩ [] (cn.refl _) (.i (.b (.o (.nil _) (.i (.o (.nil _) (.i (.o (.nil _) .nil))))))) (by simp) (fun c hc=>by cases hc)
      have dd:zP 0 0 { v with links:=v.links.set 1 ⟨3,false,[],0,[],0,[]⟩ }:=by
        refine⟨pV ds.vi 1 _ (Nat.zero_le _),?_,ds.el,by simp[ds.lk],ds.kd,ds.ne,fun l hl=>by
          rcases List.mem_or_eq_of_mem_set hl with g|g
          · exact ds.li l g
          · rw[g];exact⟨by simp,by simp,by simp,by simp,by simp,by simp,by simp,by simp⟩⟩
        have:=sj (v:=v) 1 ⟨3,false,[],0,[],0,[]⟩ (c:=0) (by simp[yr])
        have hw:=ds.w
        show wV (oZ v 1 _)+0≤12
        omega
      simp only[EZ,ag,Nat.reduceAdd,Nat.reduceBEq,dL,bN,bM,bO,aE,aO,ER,EF,EA,iP,cK,a1,a2,a3,b1,b2,b3,c1,c2,c3,d1,d2,d3,st0,i1',s5]
      exact⟨by simp only[dJ,EO,a3,a4,b3,b4,c3,c4,d3,d4],{ v with links:=v.links.set 1 ⟨3,false,[],0,[],0,[]⟩ },wE,w2,wL,w4,f5,rfl,dd,x5⟩
  have hgt:0<k:=by simp at hgt;omega
  obtain⟨m,rfl⟩:∃m,k=m+1:=⟨k-1,by omega⟩
  simp only[EZ,ag,Nat.reduceAdd,Nat.reduceBEq,dL,bN,bM,bO,aE,aO,ER,EF,EA]
  refine al.ref (by simp only[EO]) (cj _ hb xi.dr.cur _) ?_
  rintro _ H1' ⟨n,rfl,n0,n1,q1'⟩
  replace q1':b9 Hi H1' b bs:=q1'
  have x1':=xi.draw q1'
  by_cases n_0:n=0
  · simp only[EZ,ag,Nat.reduceAdd,Nat.reduceBEq,dL,bN,bM,bO,aE,aO,ER,EF,EA,ah,cK,dC,dD,a1,a2,a3,b1,b2,b3,c1,c2,c3,d1,d2,d3,lE,decide_eq_true n_0]
    refine al.ref (by simp only[EO]) (cj _ hb x1'.dr.cur _) ?_
    rintro _ Ha ⟨sa,rfl,sa_0,sa_1,qa⟩
    replace qa:b9 H1' Ha b bs:=qa
    have xHa:=x1'.draw qa
    simp only[EZ,ag,Nat.reduceAdd,Nat.reduceBEq,dL,bN,bM,bO,aE,aO,ER,EF,EA,cK,dC,dD,gz,gN,a1,a2,a3,b1,b2,b3,c1,c2,c3,d1,d2,d3,lE]
    try refine⟨fun r hr n cs hc=>by rw[show r=3 by simpa using hr]at hc ⊢;exact hc,?_⟩
    refine al.ref (by simp only[EO]) (cj _ hb xHa.dr.cur _) ?_
    rintro _ Hb ⟨sb,rfl,sb_0,sb_1,qb⟩
    replace qb:b9 Ha Hb b bs:=qb
    have xHb:=xHa.draw qb
    simp only[EZ,ag,Nat.reduceAdd,Nat.reduceBEq,dL,bN,bM,bO,aE,aO,ER,EF,EA,cK,dC,dD,gz,gN,a1,a2,a3,b1,b2,b3,c1,c2,c3,d1,d2,d3,lE]
    try refine⟨fun r hr n cs hc=>by rw[show r=3 by simpa using hr]at hc ⊢;exact hc,?_⟩
    refine al.ref (by simp only[EO]) (EJ _ _) ?_
    rintro _ H4 ⟨⟨z,rfl⟩,e⟩
    replace e:H4=Hb:=e
    subst e
    simp only[EZ,ag,Nat.reduceAdd,Nat.reduceBEq,dL,bN,bM,bO,aE,aO,ER,EF,EA,cK,dC,dD,gz,gN,a1,a2,a3,b1,b2,b3,c1,c2,c3,d1,d2,d3,lE,ae.c]
    try refine⟨fun r hr n cs hc=>by rw[show r=3 by simpa using hr]at hc ⊢;exact hc,?_⟩
    try refine⟨Mem.heap ⟨_,_,_⟩ _ _,?_⟩
    have xh:=xHb.ext (cn.app H4 [some (0,[AV.int .i64 0,.int .i64 z])])
    have ov:=Ap H4 (sz:=2) (ys:=[AV.int .i64 0,.int .i64 z]) (row:=(ae.mk 0 z).cd) (f2:=[]) rfl (.i (.i .nil))
    refine al.own (by simp only[EO]) (aK (.same _) (aK (b6.fV (l:=[ae.mk 0 z]) (ae.cu true) ov) b8)) (I0 true sa [⟨0,z⟩] (by simp)) ?_
    rintro _ H5 fr
    replace fr:aV (H4++[some (0,[AV.int .i64 0,.int .i64 z])]) _ _ _:=fr
    obtain⟨ac,fe,rfl,oe,ne,be,ee⟩:=fr.a1
    have x5':=xh.ext ee
    obtain⟨wS,wQ,wA,fS,fQ,fA,rfl,rfl,oS,oQ,oA⟩:=cX oe
    obtain⟨y1,y2,y3,y4⟩:=oS.cell
    obtain⟨y5,y6,y7,y8⟩:=oQ.cell
    obtain⟨y9,ya,yb,yc⟩:=oA.cell
    simp only[EZ,ag,Nat.reduceAdd,Nat.reduceBEq,dL,bN,bM,bO,aE,aO,ER,EF,EA,cK,dC,dD,gz,gN,a1,a2,a3,b1,b2,b3,c1,c2,c3,d1,d2,d3,lE,y1,y2,y3,y5,y6,y7,y9,ya,yb]
    try refine⟨fun r hr n cs hc=>by rw[show r=3 by simpa using hr]at hc ⊢;exact hc,?_⟩
    refine qp x5' hbl ds.ok (e:=dZ sa [⟨0,z⟩]) (by simp[aq.ok,dZ]) (oe) (by simp only[List.all_cons,List.all_nil,EO,a3,b3,c3,d3,lG,ko,y3,y7,yb]) ?_
    intro wE' w2' wL' w4' f' H' n' xx
    obtain⟨⟨aa1,aa2,aa3,aa4⟩,⟨bb1,bb2,bb3,bb4⟩,⟨cc1,cc2,cc3,cc4⟩,⟨dd1,dd2,dd3,dd4⟩,_⟩:=xx.cell
    have s5:=fun e h=>E3 (e:=e) (h:=h) (id:=v.id) (i':=(gm v (dZ sa [⟨0,z⟩])).id) (a:=wE) (b:=w2) (c:=wL) (d:=w4) (X:=X) aa2 bb2 cc2 dd2
    simp only[EZ,ag,Nat.reduceAdd,Nat.reduceBEq,dL,bN,bM,bO,aE,aO,ER,EF,EA,cK,dC,dD,gz,gN,a1,a2,a3,b1,b2,b3,c1,c2,c3,d1,d2,d3,lE,aa1,aa2,aa3,bb1,bb2,bb3,cc1,cc2,cc3,dd1,dd2,dd3,s5]
    exact⟨(m,gm v (dZ sa [⟨0,z⟩]),wE',w2',wL',w4',f',H',X),⟨by simp only;omega,ds.zr.add (by simp[dZ]) rfl rfl (.inl rfl),xx⟩,by simp only;omega,⟨by rw[Fu (by omega)];simp[fY,fO],rfl,rfl⟩⟩
  by_cases n_1:n=1
  · simp only[EZ,ag,Nat.reduceAdd,Nat.reduceBEq,dL,bN,bM,bO,aE,aO,ER,EF,EA,ah,cK,dC,dD,a1,a2,a3,b1,b2,b3,c1,c2,c3,d1,d2,d3,lE,decide_eq_false n_0,decide_eq_true n_1]
    refine al.val (by simp only[EO]) (Bh _) ?_
    simp only[EZ,ag,Nat.reduceAdd,Nat.reduceBEq,dL,bN,bM,bO,aE,aO,ER,EF,EA]
    try refine⟨fun r hr n cs hc=>by rw[show r=3 by simpa using hr]at hc ⊢;exact hc,?_⟩
    refine qp x1' hbl ds.ok (e:=cN) (by simp[aq.ok,cN]) (tT _) (by simp only[List.all_cons,List.all_nil,EO,a3,b3,c3,d3,lG,ko]) ?_
    intro wE' w2' wL' w4' f' H' n' xx
    obtain⟨⟨aa1,aa2,aa3,aa4⟩,⟨bb1,bb2,bb3,bb4⟩,⟨cc1,cc2,cc3,cc4⟩,⟨dd1,dd2,dd3,dd4⟩,_⟩:=xx.cell
    have s5:=fun e h=>E3 (e:=e) (h:=h) (id:=v.id) (i':=(gm v (cN)).id) (a:=wE) (b:=w2) (c:=wL) (d:=w4) (X:=X) aa2 bb2 cc2 dd2
    simp only[EZ,ag,Nat.reduceAdd,Nat.reduceBEq,dL,bN,bM,bO,aE,aO,ER,EF,EA,cK,dC,dD,gz,gN,a1,a2,a3,b1,b2,b3,c1,c2,c3,d1,d2,d3,lE,aa1,aa2,aa3,bb1,bb2,bb3,cc1,cc2,cc3,dd1,dd2,dd3,s5]
    exact⟨(m,gm v (cN),wE',w2',wL',w4',f',H',X),⟨by simp only;omega,ds.zr.add (Nat.zero_le _) rfl rfl (.inr (.inl rfl)),xx⟩,by simp only;omega,⟨by rw[Fu (by omega)];simp[fY,fO],rfl,rfl⟩⟩
  by_cases n_2:n=2
  · simp only[EZ,ag,Nat.reduceAdd,Nat.reduceBEq,dL,bN,bM,bO,aE,aO,ER,EF,EA,ah,cK,dC,dD,a1,a2,a3,b1,b2,b3,c1,c2,c3,d1,d2,d3,lE,decide_eq_false n_0,decide_eq_false n_1,decide_eq_true n_2]
    refine al.val (by simp only[EO]) (Bh _) ?_
    have t0:∀(e:List AV) (h:AH),(St.mk e (LL z5 [.int .i64 v.id,wE,w2,wL,w4] X++[TY]) h).store (.lp (X.length+2) 0) (pR 1 0 0 0 0)=some ⟨e,LL z5 [.int .i64 v.id,wE,w2,wL,w4] X++[pR 1 0 0 0 0],h⟩:=fun e h=>tE (by simp) rfl
    have t1:∀(e:List AV) (h:AH),(St.mk e (LL z5 [.int .i64 v.id,wE,w2,wL,w4] X++[pR 1 0 0 0 0]) h).store (.lp (X.length+2) 3) [.int .i64 2]=some ⟨e,LL z5 [.int .i64 v.id,wE,w2,wL,w4] X++[pR 2 0 0 0 0],h⟩:=fun e h=>tE (by simp) rfl
    have t2:∀(e:List AV) (h:AH) (a c a' c':Int),(St.mk e (LL z5 [.int .i64 v.id,wE,w2,wL,w4] X++[pR 2 a c 0 0]) h).store (.lp (X.length+2) 4) [.int .i64 a',.int .i64 c']=some ⟨e,LL z5 [.int .i64 v.id,wE,w2,wL,w4] X++[pR 2 a' c' 0 0],h⟩:=fun e h a c a' c'=>tE (by simp) rfl
    simp only[EZ,ag,Nat.reduceAdd,Nat.reduceBEq,dL,bN,bM,bO,aE,aO,ER,EF,EA,cK,dC,dD,gz,gN,a1,a2,a3,b1,b2,b3,c1,c2,c3,d1,d2,d3,lE,lG,t0,t1]
    refine al.ref (by simp only[EO]) (cj _ hb x1'.dr.cur _) ?_
    rintro _ Ha ⟨sa,rfl,sa_0,sa_1,qa⟩
    replace qa:b9 H1' Ha b bs:=qa
    have xHa:=x1'.draw qa
    simp only[EZ,ag,Nat.reduceAdd,Nat.reduceBEq,dL,bN,bM,bO,aE,aO,ER,EF,EA,cK,dC,dD,gz,gN,a1,a2,a3,b1,b2,b3,c1,c2,c3,d1,d2,d3,lE]
    refine al.val (by simp only[EO]) (vy _ _) ?_
    simp only[EZ,ag,Nat.reduceAdd,Nat.reduceBEq,dL,bN,bM,bO,aE,aO,ER,EF,EA,cK,dC,dD,gz,gN,a1,a2,a3,b1,b2,b3,c1,c2,c3,d1,d2,d3,lE,ae.c,t2]
    refine al.ref (by simp only[EO]) (De _ hb xHa.dr.cur _) ?_
    rintro _ Hb ⟨on,rfl,qb⟩
    replace qb:b9 Ha Hb b bs:=qb
    have xHb:=xHa.draw qb
    cases on
    · simp only[EZ,ag,Nat.reduceAdd,Nat.reduceBEq,dL,bN,bM,bO,aE,aO,ER,EF,EA,cK,dC,dD,gz,gN,a1,a2,a3,b1,b2,b3,c1,c2,c3,d1,d2,d3,lE]
      refine qp xHb hbl ds.ok (e:=kL 2 1 sa 0 0) (by simp[aq.ok,kL]) (qB _ _ _ _ _ _) (by simp only[List.all_cons,List.all_nil,EO,a3,b3,c3,d3,lG,ko]) ?_
      intro wE' w2' wL' w4' f' H' n' xx
      obtain⟨⟨aa1,aa2,aa3,aa4⟩,⟨bb1,bb2,bb3,bb4⟩,⟨cc1,cc2,cc3,cc4⟩,⟨dd1,dd2,dd3,dd4⟩,_⟩:=xx.cell
      have s5:=fun e h=>Fo (e:=e) (h:=h) (id:=v.id) (i':=(gm v (kL 2 1 sa 0 0)).id) (a:=wE) (b:=w2) (c:=wL) (d:=w4) (X:=X) (Y:=[pR 2 1 sa 0 0]) aa2 bb2 cc2 dd2
      simp only[EZ,ag,Nat.reduceAdd,Nat.reduceBEq,dL,bN,bM,bO,aE,aO,ER,EF,EA,cK,dC,dD,gz,gN,a1,a2,a3,b1,b2,b3,c1,c2,c3,d1,d2,d3,lE,aa1,aa2,aa3,bb1,bb2,bb3,cc1,cc2,cc3,dd1,dd2,dd3,s5]
      exact⟨(m,gm v (kL 2 1 sa 0 0),wE',w2',wL',w4',f',H',X++[pR 2 1 sa 0 0]),⟨by simp only;omega,ds.zr.add (Nat.zero_le _) rfl rfl (.inr (.inl rfl)),xx⟩,by simp only;omega,⟨by rw[Fu (by omega)];simp[fY,fO],rfl,rfl⟩⟩
    · simp only[EZ,ag,Nat.reduceAdd,Nat.reduceBEq,dL,bN,bM,bO,aE,aO,ER,EF,EA,cK,dC,dD,gz,gN,a1,a2,a3,b1,b2,b3,c1,c2,c3,d1,d2,d3,lE]
      refine al.ref (by simp only[EO]) (cj _ hb xHb.dr.cur _) ?_
      rintro _ Hc ⟨Tj,rfl,sc2_0,sc2_1,qc⟩
      replace qc:b9 Hb Hc b bs:=qc
      have xHc:=xHb.draw qc
      simp only[EZ,ag,Nat.reduceAdd,Nat.reduceBEq,dL,bN,bM,bO,aE,aO,ER,EF,EA,cK,dC,dD,gz,gN,a1,a2,a3,b1,b2,b3,c1,c2,c3,d1,d2,d3,lE]
      refine al.ref (by simp only[EO]) (EJ _ _) ?_
      rintro _ H4 ⟨⟨z,rfl⟩,e⟩
      replace e:H4=Hc:=e
      subst e
      simp only[EZ,ag,Nat.reduceAdd,Nat.reduceBEq,dL,bN,bM,bO,aE,aO,ER,EF,EA,cK,dC,dD,gz,gN,a1,a2,a3,b1,b2,b3,c1,c2,c3,d1,d2,d3,lE,ae.c,t2]
      refine qp xHc hbl ds.ok (e:=kL 2 0 z 0 0) (by simp[aq.ok,kL]) (qB _ _ _ _ _ _) (by simp only[List.all_cons,List.all_nil,EO,a3,b3,c3,d3,lG,ko]) ?_
      intro wE' w2' wL' w4' f' H' n' xx
      obtain⟨⟨aa1,aa2,aa3,aa4⟩,⟨bb1,bb2,bb3,bb4⟩,⟨cc1,cc2,cc3,cc4⟩,⟨dd1,dd2,dd3,dd4⟩,_⟩:=xx.cell
      have s5:=fun e h=>Fo (e:=e) (h:=h) (id:=v.id) (i':=(gm v (kL 2 0 z 0 0)).id) (a:=wE) (b:=w2) (c:=wL) (d:=w4) (X:=X) (Y:=[pR 2 0 z 0 0]) aa2 bb2 cc2 dd2
      simp only[EZ,ag,Nat.reduceAdd,Nat.reduceBEq,dL,bN,bM,bO,aE,aO,ER,EF,EA,cK,dC,dD,gz,gN,a1,a2,a3,b1,b2,b3,c1,c2,c3,d1,d2,d3,lE,aa1,aa2,aa3,bb1,bb2,bb3,cc1,cc2,cc3,dd1,dd2,dd3,s5]
      exact⟨(m,gm v (kL 2 0 z 0 0),wE',w2',wL',w4',f',H',X++[pR 2 0 z 0 0]),⟨by simp only;omega,ds.zr.add (Nat.zero_le _) rfl rfl (.inr (.inl rfl)),xx⟩,by simp only;omega,⟨by rw[Fu (by omega)];simp[fY,fO],rfl,rfl⟩⟩
  by_cases n_3:n=3
  · simp only[EZ,ag,Nat.reduceAdd,Nat.reduceBEq,dL,bN,bM,bO,aE,aO,ER,EF,EA,ah,cK,dC,dD,a1,a2,a3,b1,b2,b3,c1,c2,c3,d1,d2,d3,lE,decide_eq_false n_0,decide_eq_false n_1,decide_eq_false n_2,decide_eq_true n_3]
    refine al.ref (by simp only[EO]) (cj _ hb x1'.dr.cur _) ?_
    rintro _ Ha ⟨sa,rfl,sa_0,sa_1,qa⟩
    replace qa:b9 H1' Ha b bs:=qa
    have xHa:=x1'.draw qa
    replace sa_1:=sa_1 (by omega)
    obtain⟨j,rfl⟩:∃j:Nat,sa=j:=⟨sa.toNat,by omega⟩
    have hj:j<v.links.length:=by rw[ds.lk];omega
    obtain⟨bL,gL,nn,row,f0,i1,r1,oR,nR,wr⟩:=xHa.link hbl hj
    obtain⟨l,hl⟩:∃l,l=v.links[j]:=⟨_,rfl⟩
    rw[←hl]at oR
    have FR:l.ok 1048576:=by rw[hl];exact(ds.vi.FR _ (List.getElem_mem hj)).mono (by have:=ds.w;omega)
    obtain⟨wX,wQ',wA',fX,fq,fa,rfl,rfl,oX,oQq,oAa⟩:=dT oR
    obtain⟨y1,y2,y3,y4⟩:=oX.cell
    obtain⟨y5,y6,y7,y8⟩:=oQq.cell
    obtain⟨y9,ya,yb,yc⟩:=oAa.cell
    simp only[EZ,ag,Nat.reduceAdd,Nat.reduceBEq,dL,bN,bM,bO,aE,aO,ER,EF,EA,cK,dC,dD,gz,gN,a1,a2,a3,b1,b2,b3,c1,c2,c3,d1,d2,d3,lE,y1,y2,y3,y5,y6,y7,y9,ya,yb,i1,r1]
    refine al.own (by simp only[EO,y3,y7,yb]) (aK (aG.fV (aB.cu true l) oR) (aK (.same _) b8)) (fun h=>Kw true l FR _ h) ?_
    rintro _ H4 fr
    replace fr:aV Ha _ _ _:=fr
    obtain⟨row',f',rfl,o',n',b',eg⟩:=fr.a2 rfl
    obtain⟨lk,hlk⟩:∃lk,lk=(g7 l (v.entities.length:Int)).1:=⟨_,rfl⟩
    obtain⟨qq,hqq⟩:∃qq,qq=(g7 l (v.entities.length:Int)).2:=⟨_,rfl⟩
    rw[←hlk]at o'
    obtain⟨H5,f5,s5',x5⟩:=wr H4 row' lk f' eg o' n' (fun c hc=>.inr (b' c hc))
    obtain⟨wX2,wQ2,wA2,_,_,_,rfl,_,oX2,oQ2,oA2⟩:=dT o'
    obtain⟨z1,z2,z3,z4⟩:=oX2.cell
    obtain⟨z5',z6,z7,z8⟩:=oQ2.cell
    obtain⟨z9,za,zb,zc⟩:=oA2.cell
    have sx:∀(e:List AV) (h:AH),(St.mk e (LL z5 [.int .i64 v.id,wE,w2,wL,w4] X++[[.int .i64 0,.bool false,.nils,.int .i64 0,.nils,.int .i64 0,.nils]]) h).store (.lp (X.length+2) 0) [.int .i64 lk.peer,.bool lk.up,wX2,.int .i64 lk.next,wQ2,.int .i64 lk.asked,wA2]=some ⟨e,LL z5 [.int .i64 v.id,wE,w2,wL,w4] X++[[.int .i64 lk.peer,.bool lk.up,wX2,.int .i64 lk.next,wQ2,.int .i64 lk.asked,wA2]],h⟩:=fun e h=>tE (by simp) (by simp only[List.all_cons,List.all_nil,z2,z6,za];rfl)
    simp only[EZ,ag,Nat.reduceAdd,Nat.reduceBEq,dL,bN,bM,bO,aE,aO,ER,EF,EA,cK,dC,dD,gz,gN,a1,a2,a3,b1,b2,b3,c1,c2,c3,d1,d2,d3,lE,CD.gI,←hlk,←hqq,z1,z2,z3,z5',z6,z7,z9,za,zb,sx,i1,s5']
    refine al.val (by simp only[EO]) (Bh _) ?_
    have t0:∀(e:List AV) (h:AH) (r0:List AV),(St.mk e (LL z5 [.int .i64 v.id,wE,w2,wL,w4] X++[r0,TY]) h).store (.lp (X.length+2+1) 0) (pR 1 0 0 0 0)=some ⟨e,LL z5 [.int .i64 v.id,wE,w2,wL,w4] X++[r0,pR 1 0 0 0 0],h⟩:=fun e h r0=>yY (by simp) rfl
    have t1:∀(e:List AV) (h:AH) (r0:List AV),(St.mk e (LL z5 [.int .i64 v.id,wE,w2,wL,w4] X++[r0,pR 1 0 0 0 0]) h).store (.lp (X.length+2+1) 3) [.int .i64 3]=some ⟨e,LL z5 [.int .i64 v.id,wE,w2,wL,w4] X++[r0,pR 3 0 0 0 0],h⟩:=fun e h r0=>yY (by simp) rfl
    have t2:∀(e:List AV) (h:AH) (r0:List AV) (a:Int),(St.mk e (LL z5 [.int .i64 v.id,wE,w2,wL,w4] X++[r0,pR 3 0 0 0 0]) h).store (.lp (X.length+2+1) 8) [.int .i64 a]=some ⟨e,LL z5 [.int .i64 v.id,wE,w2,wL,w4] X++[r0,pR 3 0 0 a 0],h⟩:=fun e h r0 a=>yY (by simp) rfl
    have t3:∀(e:List AV) (h:AH) (r0:List AV) (a c:Int),(St.mk e (LL z5 [.int .i64 v.id,wE,w2,wL,w4] X++[r0,pR 3 0 0 a 0]) h).store (.lp (X.length+2+1) 9) [.int .i64 c]=some ⟨e,LL z5 [.int .i64 v.id,wE,w2,wL,w4] X++[r0,pR 3 0 0 a c],h⟩:=fun e h r0 a c=>yY (by simp) rfl
    simp only[EZ,ag,Nat.reduceAdd,Nat.reduceBEq,dL,bN,bM,bO,aE,aO,ER,EF,EA,cK,dC,dD,gz,gN,a1,a2,a3,b1,b2,b3,c1,c2,c3,d1,d2,d3,lE,lG,t0,t1,t2,t3,z1,z2,z3,z5',z6,z7,z9,za,zb]
    have ds':zP m (m+1) { v with links:=v.links.set j lk }:=ds.Sy (i:=j) (l:=lk) (by
      have e:v.links.getD j default=l:=by rw[List.getD_eq_getElem?_getD,List.getElem?_eq_getElem hj,hl];rfl
      rw[e,hlk];simp[yr,g7];omega) (by rw[hlk,hl];exact(show v.links[j].answers.length≤100 from ds.vi.ans _ (List.getElem_mem hj))) (by rw[hlk,hl];exact(ds.li _ (List.getElem_mem hj)).ask (by omega) _)
    refine qp x5 hbl ds'.ok (e:=kL 3 0 0 lk.peer qq) (by simp[aq.ok,kL]) (qB _ _ _ _ _ _) (by simp only[List.all_cons,List.all_nil,EO,a3,b3,c3,d3]) ?_
    intro wE' w2' wL' w4' f' H' n' xx
    obtain⟨⟨aa1,aa2,aa3,aa4⟩,⟨bb1,bb2,bb3,bb4⟩,⟨cc1,cc2,cc3,cc4⟩,⟨dd1,dd2,dd3,dd4⟩,_⟩:=xx.cell
    have s5:=fun e h=>Fo (e:=e) (h:=h) (id:=v.id) (i':=(gm { v with links:=v.links.set j lk } (kL 3 0 0 lk.peer qq)).id) (a:=wE) (b:=w2) (c:=wL) (d:=w4) (X:=X) (Y:=[[.int .i64 lk.peer,.bool lk.up,wX2,.int .i64 lk.next,wQ2,.int .i64 lk.asked,wA2],pR 3 0 0 lk.peer qq]) aa2 bb2 cc2 dd2
    simp only[EZ,ag,Nat.reduceAdd,Nat.reduceBEq,dL,bN,bM,bO,aE,aO,ER,EF,EA,cK,dC,dD,gz,gN,a1,a2,a3,b1,b2,b3,c1,c2,c3,d1,d2,d3,lE,aa1,aa2,aa3,bb1,bb2,bb3,cc1,cc2,cc3,dd1,dd2,dd3,s5]
    exact⟨(m,gm { v with links:=v.links.set j lk } (kL 3 0 0 lk.peer qq),wE',w2',wL',w4',f',H',X++[[.int .i64 lk.peer,.bool lk.up,wX2,.int .i64 lk.next,wQ2,.int .i64 lk.asked,wA2],pR 3 0 0 lk.peer qq]),⟨by simp only;omega,ds'.add (Nat.zero_le _) rfl rfl (.inr (.inl rfl)),xx⟩,by simp only;omega,⟨by rw[Fu (by omega)];simp[fY,fO],rfl,rfl⟩⟩
  simp only[EZ,ag,Nat.reduceAdd,Nat.reduceBEq,dL,bN,bM,bO,aE,aO,ER,EF,EA,ah,cK,dC,dD,a1,a2,a3,b1,b2,b3,c1,c2,c3,d1,d2,d3,lE,decide_eq_false n_0,decide_eq_false n_1,decide_eq_false n_2,decide_eq_false n_3]
  refine al.ref (by simp only[EO]) (cj _ hb x1'.dr.cur _) ?_
  rintro _ Ha ⟨sa,rfl,sa_0,sa_1,qa⟩
  replace qa:b9 H1' Ha b bs:=qa
  have xHa:=x1'.draw qa
  simp only[EZ,ag,Nat.reduceAdd,Nat.reduceBEq,dL,bN,bM,bO,aE,aO,ER,EF,EA,cK,dC,dD,gz,gN,a1,a2,a3,b1,b2,b3,c1,c2,c3,d1,d2,d3,lE]
  try refine⟨fun r hr n cs hc=>by rw[show r=3 by simpa using hr]at hc ⊢;exact hc,?_⟩
  refine al.ref (by simp only[EO]) (cj _ hb xHa.dr.cur _) ?_
  rintro _ Hb ⟨sb,rfl,sb_0,sb_1,qb⟩
  replace qb:b9 Ha Hb b bs:=qb
  have xHb:=xHa.draw qb
  simp only[EZ,ag,Nat.reduceAdd,Nat.reduceBEq,dL,bN,bM,bO,aE,aO,ER,EF,EA,cK,dC,dD,gz,gN,a1,a2,a3,b1,b2,b3,c1,c2,c3,d1,d2,d3,lE]
  try refine⟨fun r hr n cs hc=>by rw[show r=3 by simpa using hr]at hc ⊢;exact hc,?_⟩
  refine al.val (by simp only[EO]) (IG _ _ _) ?_
  simp only[EZ,ag,Nat.reduceAdd,Nat.reduceBEq,dL,bN,bM,bO,aE,aO,ER,EF,EA,cK,dC,dD,gz,gN,a1,a2,a3,b1,b2,b3,c1,c2,c3,d1,d2,d3,lE,ko]
  try refine⟨fun r hr n cs hc=>by rw[show r=3 by simpa using hr]at hc ⊢;exact hc,?_⟩
  refine qp xHb hbl ds.ok (e:=kg (IntKind.i64.wrap (2+sa)) (IntKind.i64.wrap (2+sb))) (by simp[aq.ok,kg]) (vS _ _ _) (by simp only[List.all_cons,List.all_nil,EO,a3,b3,c3,d3,lG,ko]) ?_
  intro wE' w2' wL' w4' f' H' n' xx
  obtain⟨⟨aa1,aa2,aa3,aa4⟩,⟨bb1,bb2,bb3,bb4⟩,⟨cc1,cc2,cc3,cc4⟩,⟨dd1,dd2,dd3,dd4⟩,_⟩:=xx.cell
  have s5:=fun e h=>E3 (e:=e) (h:=h) (id:=v.id) (i':=(gm v (kg (IntKind.i64.wrap (2+sa)) (IntKind.i64.wrap (2+sb)))).id) (a:=wE) (b:=w2) (c:=wL) (d:=w4) (X:=X) aa2 bb2 cc2 dd2
  simp only[EZ,ag,Nat.reduceAdd,Nat.reduceBEq,dL,bN,bM,bO,aE,aO,ER,EF,EA,cK,dC,dD,gz,gN,a1,a2,a3,b1,b2,b3,c1,c2,c3,d1,d2,d3,lE,aa1,aa2,aa3,bb1,bb2,bb3,cc1,cc2,cc3,dd1,dd2,dd3,s5]
  exact⟨(m,gm v (kg (IntKind.i64.wrap (2+sa)) (IntKind.i64.wrap (2+sb))),wE',w2',wL',w4',f',H',X),⟨by simp only;omega,ds.zr.add (Nat.zero_le _) rfl rfl (.inr (.inr rfl)),xx⟩,by simp only;omega,⟨by rw[Fu (by omega)];simp[fY,fO],rfl,rfl⟩⟩
end Go.Proofs.YtccjhmhkfnnmaaaGreat
namespace Go.Proofs.YtccjhmhkfnnmaaaGreat
open Go.AM
variable {Γ:bY}
def cU(v:ar):List Int:=v.entities.map fun e=>e.kind
theorem gP(v:ar)(n:Int)(e:aq)(h:e.kind=(aA v n).kind):cU (fP v n.toNat e)=cU v:=by
  simp only[cU,fP,List.map_set]
  apply List.ext_getElem?
  intro i
  by_cases hi:n.toNat=i
  · subst hi
    by_cases hk:n.toNat<v.entities.length
    · rw[List.getElem?_set_self (by simpa using hk),List.getElem?_map,List.getElem?_eq_getElem hk,h,aA,List.getD_eq_getElem?_getD,List.getElem?_eq_getElem hk]
      rfl
    · rw[List.set_eq_of_length_le (by simpa using hk)]
  · rw[List.getElem?_set_ne hi]
theorem ll.kinds{v v':ar}(h:ll v v'):cU v'=cU v:=by rw[cU,h.ents];rfl
theorem zK(v:ar)(s:aM)(peer pos ans:Int):cU (dH v s peer pos ans)=cU v:=by
  have sm:=(oB v s peer).1.trans (mD (bV v s peer) peer s.result).1
  rw[dH,(jD _ _ _).1.kinds,db,gP _ _ _ (by rw[sm.aA];rfl),sm.kinds]
theorem kY{α:Type}{D:ar→α→ar}(h:∀v s,cU (D v s)=cU v):∀(q:List α) (v:ar),cU (q.foldl D v)=cU v
  | [],v=>rfl
  | s::q,v=>by rw[List.foldl_cons,kY h q,h]
theorem rG{D:ar→aM→ar}(h:∀v s,cU (D v s)=cU v)(v:ar)(s:aM)(peer pos ans:Int):cU (fM D v s peer pos ans)=cU v:=by
  unfold fM
  split
  · rw[kY h,zK]
  · rfl
theorem uf(y:ae)(v:ar)(a:cf):cU (c7 y v a)=cU v:=by
  unfold c7
  split
  · exact gP _ _ _ rfl
  · rw[(jD _ _ _).1.kinds,(kT _ _ _).1.kinds]
theorem ub{D:ar→aM→ar}(h:∀v s,cU (D v s)=cU v)(v:ar)(p:Int)(x:ae):cU (fZ D v p x)=cU v:=by
  unfold fZ
  split
  · rw[kY (uf _),kY h]
    exact gP _ _ _ rfl
  · rfl
theorem kb:∀(n:Nat) (v:ar) (s:aM),cU (aT n v s)=cU v
  | 0,_,_=>rfl
  | n+1,v,s=>by
    have h:=kb n
    unfold aT
    repeat' split
    all_goals first|rfl|exact ub h _ _ _|exact rG h _ _ _ _ _|exact gP _ _ _ rfl|exact(gP _ _ (eI _) rfl).trans (rG h _ _ _ _ _)
def KI(v:ar):Prop:=∀k∈cU v,k=1∨k=2∨k=3
theorem KI.of{v:ar}(h:∀e∈v.entities,At e):KI v:=fun k hk=>by
  obtain⟨e,he,rfl⟩:=List.mem_map.1 hk
  exact h e he
theorem zB(v:ar)(t:Int)(name:ByteArray)(args:List ae)(h:KI v):KI (c5 v t name args).1:=by
  unfold c5
  split
  · rename_i hg
    have e:=(nD hg).1
    have e2:cU (bZ v t)=cU v++[2]:=by
      rw[bZ,gP _ _ _ (by rw[kD e];rfl)];simp[cU,gx,cN]
    simp only[KI,kb,e2]
    intro k hk
    rcases List.mem_append.1 hk with g|g
    · exact h k g
    · rw[List.mem_singleton.1 g];exact .inr (.inl rfl)
  · exact h
structure DI (k:Nat) (v:ar):Prop where
  vi:VI v
  w:wV v+4*k≤40
  kd:KI v
  ne:0<v.entities.length
theorem DI.zr{k:Nat}{v:ar}(d:DI (k+1) v):DI k v:=⟨d.vi,by have:=d.w;omega,d.kd,d.ne⟩
theorem CL{v v':ar}(h:cU v'=cU v):v'.entities.length=v.entities.length:=by
  have:=congrArg List.length h
  simpa[cU]using this
theorem DI.res{k:Nat}{v:ar}(d:DI (k+1) v)(p:Int)(x:ae):DI k (fZ (aT (je v+1)) v p x):=by
  obtain⟨r1,r2,r3,r4⟩:=D8 (jJ (je v+1)) v p x
  exact⟨r4 d.vi,by have:=d.w;omega,by unfold KI;rw[ub (kb _)];exact d.kd,by rw[r1];exact d.ne⟩
theorem DI.send{k:Nat}{v:ar}(d:DI (k+1) v)(t:Int)(name:ByteArray)(args:List ae):DI k (c5 v t name args).1:=by
  obtain⟨r1,r2⟩:=BW v t name args
  refine⟨r2 d.vi,by have:=d.w;omega,zB v t name args d.kd,?_⟩
  unfold c5
  split
  · rename_i hg
    have:=CL (kb (je (bZ v t)+1) (bZ v t) (hU v t name args))
    show 0<(aT (je (bZ v t)+1) (bZ v t) (hU v t name args)).entities.length
    rw[this,bZ,eP,gx,List.length_append]
    have:=d.ne;omega
  · exact d.ne
theorem VC.frame{h H H':AH}{b:Nat}{bs:List Int}{v:ar}{wE w2 wL w4:AV}{f:List Nat}(x:VC h H b bs v wE w2 wL w4 f)(hbl:b<h.length){g:List Nat}(hl:H.length≤H'.length)(hf:∀c,c∉g→c<H.length→H'[c]? = H[c]?)(hg:∀c∈g,h.length≤c∧c∉f):VC h H' b bs v wE w2 wL w4 f:=by
  have hL:=x.dr.len
  obtain⟨i,s,hi,hgt⟩:=x.dr.cur
  exact⟨x.own.frame fun c hc=>hf c (fun q=>(hg c q).2 hc) (x.own.lt c hc),x.nd,x.bf,⟨⟨i,s,hi,by rw[bt (hf b (fun q=>by have:=(hg b q).1;omega) (by omega))];exact hgt⟩,by omega,fun c h1 h2=>by
    rw[hf c (fun q=>by have:=(hg c q).1;omega) (by omega),x.dr.fr c h1 h2]⟩⟩
theorem LP(H:AH){b:Nat}{bs:List Int}(hb:bs.length≤1073741824)(hc:rY H b bs){w:AV}{fp:List Nat}{l:List ByteArray}(o:b6 H w (.sl 1 (l.map fun s=>[CD.s s])) fp)(nd:fp.Nodup)(hbf:b∉fp)(h0:0<l.length):
    T Tryz.prog Γ Fn.S4 [.gp b 0 0,w] H fun v h'=>∃s∈l,v=.str s∧b9 H h' b bs:=by
  have LL0:=(cP o).2
  rw[List.length_map]at LL0
  obtain⟨c1,c2,c3,c4⟩:=o.cell
  refine Md (au aC aD [] _ _ _ ?_)
  unfold IF
  simp only[EZ,ag,Nat.reduceAdd,Nat.reduceBEq,Fe,c1,c2,c3,LL0]
  refine al.ref (by simp only[EO]) (cj _ hb hc _) ?_
  rintro _ H1 ⟨x,rfl,x0,x1,d1⟩
  replace d1:b9 H H1 b bs:=d1
  obtain⟨k,rfl⟩:∃k:Nat,x=k:=⟨x.toNat,by omega⟩
  have hk:k<l.length:=by have:=x1 (by omega);omega
  obtain⟨qb,g,pre,row,post,f,i1,m,lr,oR,_,_,hqb,_⟩:=(d1.own o hbf).j9 nd (k:=k) (by simpa using hk)
  rw[List.getElem_map]at oR
  simp only[fW,fN,iv]at oR
  obtain⟨_,_,_,_,rfl,_,⟨rfl,_⟩,⟨rfl,_⟩⟩:=oR
  have rd:∀(e:List AV) (L:List (List AV)),(St.mk e L H1).cells (.gp qb g pre.length) 1=some [.str l[k]]:=fun e L=>by rw[m.qJ e L 1 (by simp)];rfl
  simp only[EZ,ag,Nat.reduceAdd,Nat.reduceBEq,Fe,i1,rd]
  first|exact⟨rfl,_,List.getElem_mem hk,rfl,d1⟩|exact⟨_,List.getElem_mem hk,rfl,d1⟩
theorem Fl(h:AH)(l:List ByteArray){n:Nat}(hn:l.length=n):b6 (h++[some (0,(l.map fun n=>[AV.str n]).flatten)]) (.gs h.length 0 0 n n 1 true) (.sl 1 (l.map fun n=>[.s n])) [h.length]:=by
  subst hn
  have ho:∀l:List ByteArray,aG (h++[some (0,(l.map fun n=>[AV.str n]).flatten)]) (l.map fun n=>[AV.str n]).flatten (l.map fun n=>[CD.s n]).flatten []→True:=fun _ _=>trivial
  have hl:∀(H:AH) (l:List ByteArray),aG H (l.map fun n=>[AV.str n]).flatten (l.map fun n=>[CD.s n]).flatten []:=fun H l=>by
    induction l with
    | nil=>exact .nil
    | cons a l ih=>exact .s ih
  have:=b6.sl_mk (h:=h++[some (0,(l.map fun n=>[AV.str n]).flatten)]) (b:=h.length) (g:=0) (cap:=l.length) (sz:=1) (ex:=true) («as»:=(l.map fun n=>[AV.str n]).flatten) (tail:=[]) (xs:=l.map fun n=>[CD.s n]) (fp:=[])
    (by rw[List.append_nil];exact cW _ _) (fun y hy=>by obtain⟨x,_,rfl⟩:=List.mem_map.1 hy;rfl) (by simp) (by simp) (hl _ l)
  simpa using this
theorem HZ(H:AH){b:Nat}{bs:List Int}(hb:bs.length≤1073741824)(hc:rY H b bs):
    T Tryz.prog Γ Fn.M9 [.gp b 0 0] H fun v h'=>∃s:ByteArray,v=.str s∧s.size≤100∧b9 H h' b bs:=by
  have hbl:b<H.length:=by obtain⟨_,_,_,hg⟩:=hc;exact g6 hg
  refine Rj (au aC aD [] _ _ _ ?_)
  unfold Hx
  simp only[EZ,ag,Nat.reduceAdd,Nat.reduceBEq,EH,aE,EF,EA,KW]
  have os:=Fl H [⟨#[103,101,116]⟩,⟨#[115,101,116]⟩,⟨#[97,100,100]⟩,⟨#[109,97,107,101]⟩,⟨#[103,111]⟩] rfl
  refine al.ref (by simp only[EO]) (LP _ hb (hc.grow _) os (by simp) (by simp only[List.mem_singleton];omega) (by simp)) ?_
  rintro _ H1 ⟨s,hs,rfl,d1⟩
  replace d1:b9 (H++[some (0,_)]) H1 b bs:=d1
  have sz:s.size≤100:=by
    simp only[List.mem_cons,List.not_mem_nil,or_false]at hs
    rcases hs with rfl|rfl|rfl|rfl|rfl<;>decide
  have dd:=(b9.rI hc (cn.app H _)).trans d1
  simp only[EZ,ag,Nat.reduceAdd,Nat.reduceBEq,EH,aE,EF,EA]
  first|exact⟨rfl,s,rfl,sz,dd⟩|exact⟨s,rfl,sz,dd⟩
set_option maxHeartbeats 8000000 in
set_option maxRecDepth 100000 in
theorem Qm(h:AH){b:Nat}{bs:List Int}(hb:bs.length≤1073741824)(hc:rY h b bs):T Tryz.prog Γ Fn.Sn [.gp b 0 0] h fun r H'=>∃v wE w2 wL w4 f,r=.agg [.int .i64 v.id,wE,w2,wL,w4]∧DI 0 v∧VC h H' b bs v wE w2 wL w4 f:=by
  have hbl:b<h.length:=by obtain⟨_,_,_,hg⟩:=hc;exact g6 hg
  refine P8 (au aC aD [] _ _ _ ?_)
  unfold Hg
  simp only[EZ,ag,Nat.reduceAdd,Nat.reduceBEq,iu,dM,dK,aE,aO,ER,EF,EA]
  refine al.ref (by simp only[EO]) (Nv h hb hc) ?_
  rintro _ H1 ⟨v0,wE,w2,wL,w4,f,rfl,ds,x1⟩
  replace x1:VC h H1 b bs v0 wE w2 wL w4 f:=x1
  obtain⟨⟨a1,a2,a3,a4⟩,⟨b1,b2,b3,b4⟩,⟨c1,c2,c3,c4⟩,⟨d1,d2,d3,d4⟩,lE⟩:=x1.cell
  have di0:DI 6 v0:=⟨ds.vi,by have:=ds.w;omega,.of ds.kd,ds.ne⟩
  simp only[EZ,ag,Nat.reduceAdd,Nat.reduceBEq,iu,dM,dK,aE,aO,ER,EF,EA,a1,a2,a3,b1,b2,b3,c1,c2,c3,d1,d2,d3]
  refine al.ref (by simp only[EO]) (cj _ hb x1.dr.cur _) ?_
  rintro _ H2 ⟨pl,rfl,cnt0,cnt1,q2⟩
  replace q2:b9 H1 H2 b bs:=q2
  have x2:=x1.draw q2
  replace cnt1:=cnt1 (by omega)
  obtain⟨k0,rfl⟩:∃k0:Nat,pl=k0:=⟨pl.toNat,by omega⟩
  have di1:DI k0 v0:=⟨di0.vi,by have:=di0.w;omega,di0.kd,di0.ne⟩
  simp only[EZ,ag,Nat.reduceAdd,Nat.reduceBEq,iu,dM,dK,aE,aO,ER,EF,EA]
  refine et aC aD [] (fun x:Nat×ar×AV×AV×AV×AV×List Nat×AH=>x.1≤6∧DI x.1 x.2.1∧VC h x.2.2.2.2.2.2.2 b bs x.2.1 x.2.2.1 x.2.2.2.1 x.2.2.2.2.1 x.2.2.2.2.2.1 x.2.2.2.2.2.2.1) (fun x=>x.1)
    (fun x=>Aw (.gp b 0 0) (.lp ([]:List (List AV)).length 0) (.lp (([]:List (List AV)).length+1) 0) (.int .i64 x.1) (LL z5 [.int .i64 x.2.1.id,x.2.2.1,x.2.2.2.1,x.2.2.2.2.1,x.2.2.2.2.2.1] []) x.2.2.2.2.2.2.2) (k0,v0,wE,w2,wL,w4,_,H2) ⟨by simp only;omega,di1,x2⟩ ⟨by simp[Aw,fY,fO],rfl,rfl⟩ ?_
  rintro⟨k,v,wE,w2,wL,w4,f,Hi⟩ ⟨hk,ds,xi⟩
  simp only at hk ds xi
  obtain⟨⟨a1,a2,a3,a4⟩,⟨b1,b2,b3,b4⟩,⟨c1,c2,c3,c4⟩,⟨d1,d2,d3,d4⟩,lE⟩:=xi.cell
  simp only[EZ,ag,Nat.reduceAdd,Nat.reduceBEq,iu,dM,dK,Aw,aE,aO,ER,EF,EA]
  refine bP (fun hgt=>?_) (fun hge=>?_)
  rotate_left
  · have hge:k=0:=by simp at hge;omega
    subst hge
    have st0:∀(e:List AV) (h:AH),(St.mk e (LL z5 [.int .i64 v.id,wE,w2,wL,w4] []) h).store (.lp (([]:List (List AV)).length) 0) [.int .i64 v.id,wE,w2,wL,w4]=some ⟨e,LL [.int .i64 v.id,wE,w2,wL,w4] [.int .i64 v.id,wE,w2,wL,w4] [],h⟩:=fun e h=>B6 (by simp) (by simp only[List.all_cons,List.all_nil,a2,b2,c2,d2];rfl)
    simp only[EZ,ag,Nat.reduceAdd,Nat.reduceBEq,iu,dM,dK,aE,aO,ER,EF,EA,iP,cK,a1,a2,a3,b1,b2,b3,c1,c2,c3,d1,d2,d3,st0]
    exact⟨by simp only[dJ,EO,a3,a4,b3,b4,c3,c4,d3,d4],v,wE,w2,wL,w4,f,rfl,ds,xi⟩
  have hgt:0<k:=by simp at hgt;omega
  obtain⟨m,rfl⟩:∃m,k=m+1:=⟨k-1,by omega⟩
  simp only[EZ,ag,Nat.reduceAdd,Nat.reduceBEq,iu,dM,dK,aE,aO,ER,EF,EA]
  refine al.ref (by simp only[EO]) (cj _ hb (xi.ext (cn.app Hi _)).dr.cur _) ?_
  rintro _ H1' ⟨n,rfl,n0,n1,q1'⟩
  replace q1':b9 (Hi++[some (0,[])]) H1' b bs:=q1'
  have x1':=(xi.ext (cn.app Hi _)).draw q1'
  replace n1:=n1 (by omega)
  obtain⟨n',rfl⟩:∃n':Nat,n=n':=⟨n.toNat,by omega⟩
  have hiL:=xi.dr.len
  have oA0:b6 H1' (.gs Hi.length 0 0 0 0 2 true) (.sl 2 (([]:List ae).map ae.cd)) [Hi.length]:=q1'.own (dI Hi 2) (by simp only[List.mem_singleton];omega)
  simp only[EZ,ag,Nat.reduceAdd,Nat.reduceBEq,iu,dM,dK,aE,aO,ER,EF,EA]
  have hfb:∀c∈f,c<Hi.length:=xi.own.lt
  refine et aC aD [] (fun x:Nat×AV×AH×List Nat×List ae=>x.1≤2∧x.2.2.2.2.length+x.1≤2∧b6 x.2.2.1 x.2.1 (.sl 2 (x.2.2.2.2.map ae.cd)) x.2.2.2.1∧x.2.2.2.1.Nodup∧(∀c∈x.2.2.2.1,h.length≤c∧c∉f)∧VC h x.2.2.1 b bs v wE w2 wL w4 f) (fun x=>x.1)
    (fun x=>AK (.gp b 0 0) (.lp ([]:List (List AV)).length 0) (.lp (([]:List (List AV)).length+1) 0) (.int .i64 ((m+1:Nat):Int)) x.2.1 (.int .i64 x.1) (LL z5 [.int .i64 v.id,wE,w2,wL,w4] []) x.2.2.1) (n',.gs Hi.length 0 0 0 0 2 true,H1',[Hi.length],[]) ⟨by simp only;omega,by simp only[List.length_nil];omega,oA0,by simp,fun c hc=>by
      rw[List.mem_singleton.1 hc];exact⟨by omega,fun g=>Nat.lt_irrefl _ (hfb _ g)⟩,x1'⟩ ⟨by simp[AK,fY,fO],rfl,rfl⟩ ?_
  clear x1' oA0 q1' n1
  rintro⟨k2,w5,Hj,f5,args⟩ ⟨hk2,hal,oA,nA,bA,xj⟩
  simp only at hk2 hal oA nA bA xj
  obtain⟨e1,e2,e3,e4⟩:=oA.cell
  simp only[EZ,ag,Nat.reduceAdd,Nat.reduceBEq,iu,dM,dK,AK,aE,aO,ER,EF,EA]
  refine bP (fun hgt2=>?_) (fun hge2=>?_)
  · have hgt2:0<k2:=by simp at hgt2;omega
    obtain⟨m2,rfl⟩:∃m2,k2=m2+1:=⟨k2-1,by omega⟩
    simp only[EZ,ag,Nat.reduceAdd,Nat.reduceBEq,iu,dM,dK,aE,aO,ER,EF,EA,iP,cK,a1,a2,a3,b1,b2,b3,c1,c2,c3,d1,d2,d3,lE]
    refine al.ref (by simp only[EO,a3,b3,c3,d3]) (EE Hj hb xj.dr.cur xj.own ds.ne (by have:=ds.vi.ents;omega)) ?_
    rintro _ H3 ⟨z,rfl,_,q3⟩
    replace q3:b9 Hj H3 b bs:=q3
    have x3:=xj.draw q3
    have oA3:=q3.own oA (fun g=>by have:=(bA b g).1;omega)
    obtain⟨v',H4,fp',ea,o',nd',hf',hl',hm'⟩:=cY (bytes:=16) oA3 (ys:=[.int .i64 z.kind,.int .i64 z.n]) (row:=z.cd) (f2:=[]) (by simpa using nA) (by omega) rfl (.i (.i .nil)) (by simp only[List.length_map,aQ];omega)
    obtain⟨p1,p2,p3,p4⟩:=o'.cell
    simp only[EZ,ag,Nat.reduceAdd,Nat.reduceBEq,iu,dM,dK,aE,aO,ER,EF,EA,ae.c,e1,e2,e3,ea,p1,p2,p3]
    have x4:=x3.frame hbl hl' hf' (fun c hc=>bA c hc)
    have l3:=q3.len
    have hjL:=xj.dr.len
    have hfj:∀c∈f,c<Hj.length:=xj.own.lt
    exact⟨(m2,v',H4,fp',args++[z]),⟨by simp only;omega,by simp only[List.length_append,List.length_cons,List.length_nil];omega,by simpa using o',nd',fun c hc=>by
      rcases hm' c hc with g|g|g
      · exact bA c g
      · cases g
      · exact⟨by omega,fun q=>by have:=hfj c q;omega⟩,x4⟩,by simp only;omega,⟨by rw[Fu (by omega)];simp[fY,fO],rfl,rfl⟩⟩
  have hge2:k2=0:=by simp at hge2;omega
  subst hge2
  simp only[EZ,ag,Nat.reduceAdd,Nat.reduceBEq,iu,dM,dK,aE,aO,ER,EF,EA,iP,cK,a1,a2,a3,b1,b2,b3,c1,c2,c3,d1,d2,d3,lE]
  refine al.ref (by simp only[EO]) (cj _ hb xj.dr.cur _) ?_
  rintro _ H3 ⟨n3,rfl,_,_,q3⟩
  replace q3:b9 Hj H3 b bs:=q3
  have x3:=xj.draw q3
  have oA3:=q3.own oA (fun g=>by have:=(bA b g).1;omega)
  have wv:=ds.w
  by_cases n_0:n3=0
  · simp only[EZ,ag,Nat.reduceAdd,Nat.reduceBEq,iu,dM,dK,aE,aO,ER,EF,EA,iP,cK,a1,a2,a3,b1,b2,b3,c1,c2,c3,d1,d2,d3,lE,ah,decide_eq_true n_0]
    refine al.ref (by simp only[EO]) (cj _ hb x3.dr.cur _) ?_
    rintro _ H4 ⟨pp,rfl,_,_,q4⟩
    replace q4:b9 H3 H4 b bs:=q4
    have x4:=x3.draw q4
    simp only[EZ,ag,Nat.reduceAdd,Nat.reduceBEq,iu,dM,dK,aE,aO,ER,EF,EA,iP,cK,a1,a2,a3,b1,b2,b3,c1,c2,c3,d1,d2,d3,lE]
    try refine⟨fun r hr n cs hc=>by rw[show r=3 by simpa using hr]at hc ⊢;exact hc,?_⟩
    refine al.ref (by simp only[EO,a3,b3,c3,d3]) (EE H4 hb x4.dr.cur x4.own ds.ne (by have:=ds.vi.ents;omega)) ?_
    rintro _ H5 ⟨z,rfl,_,q5⟩
    replace q5:b9 H4 H5 b bs:=q5
    have x5:=x4.draw q5
    simp only[EZ,ag,Nat.reduceAdd,Nat.reduceBEq,iu,dM,dK,aE,aO,ER,EF,EA,iP,cK,a1,a2,a3,b1,b2,b3,c1,c2,c3,d1,d2,d3,lE]
    try refine⟨fun r hr n cs hc=>by rw[show r=3 by simpa using hr]at hc ⊢;exact hc,?_⟩
    refine al.own (by simp only[EO,a3,b3,c3,d3,ae.c]) (aK (aG.fV (ar.cu true v) x5.own) (aK (.same _) (aK (.same _) b8))) (MV true false v pp z ds.vi (by omega)) ?_
    rintro _ H6 fr
    replace fr:aV H5 _ _ _:=fr
    obtain⟨ac,f',rfl,o',n',b',eg⟩:=fr.a1
    obtain⟨wE',w2',wL',w4',_,_,_,_,rfl,_,_⟩:=kl o'
    have lh:=x5.dr.len
    have xx:VC h H6 b bs (fZ (aT (je v+1)) v pp z) wE' w2' wL' w4' f':=⟨o',n',fun c hc=>by have:=b' c hc;exact⟨by omega,by omega⟩,x5.dr.trans (.rI x5.dr.cur eg)⟩
    obtain⟨⟨aa1,aa2,aa3,aa4⟩,⟨bb1,bb2,bb3,bb4⟩,⟨cc1,cc2,cc3,cc4⟩,⟨dd1,dd2,dd3,dd4⟩,_⟩:=xx.cell
    have s5:=fun e h=>E3 (e:=e) (h:=h) (id:=v.id) (i':=(fZ (aT (je v+1)) v pp z).id) (a:=wE) (b:=w2) (c:=wL) (d:=w4) (X:=[]) aa2 bb2 cc2 dd2
    simp only[EZ,ag,Nat.reduceAdd,Nat.reduceBEq,iu,dM,dK,aE,aO,ER,EF,EA,iP,cK,a1,a2,a3,b1,b2,b3,c1,c2,c3,d1,d2,d3,lE,aa1,aa2,aa3,bb1,bb2,bb3,cc1,cc2,cc3,dd1,dd2,dd3,s5]
    exact⟨(m,fZ (aT (je v+1)) v pp z,wE',w2',wL',w4',f',H6),⟨by simp only;omega,ds.res pp z,xx⟩,by simp only;omega,⟨by rw[Fu (by omega)];simp[fY,fO],rfl,rfl⟩⟩
  · simp only[EZ,ag,Nat.reduceAdd,Nat.reduceBEq,iu,dM,dK,aE,aO,ER,EF,EA,iP,cK,a1,a2,a3,b1,b2,b3,c1,c2,c3,d1,d2,d3,lE,ah,decide_eq_false n_0]
    refine al.ref (by simp only[EO]) (cj _ hb x3.dr.cur _) ?_
    rintro _ H4 ⟨pp,rfl,_,_,q4⟩
    replace q4:b9 H3 H4 b bs:=q4
    have x4:=x3.draw q4
    have oA4:=q4.own oA3 (fun g=>by have:=(bA b g).1;omega)
    simp only[EZ,ag,Nat.reduceAdd,Nat.reduceBEq,iu,dM,dK,aE,aO,ER,EF,EA,iP,cK,a1,a2,a3,b1,b2,b3,c1,c2,c3,d1,d2,d3,lE]
    try refine⟨fun r hr n cs hc=>by rw[show r=3 by simpa using hr]at hc ⊢;exact hc,?_⟩
    refine al.ref (by simp only[EO]) (HZ H4 hb x4.dr.cur) ?_
    rintro _ H5 ⟨nm,rfl,hnm,q5⟩
    replace q5:b9 H4 H5 b bs:=q5
    have x5:=x4.draw q5
    have oA5:=q5.own oA4 (fun g=>by have:=(bA b g).1;omega)
    simp only[EZ,ag,Nat.reduceAdd,Nat.reduceBEq,iu,dM,dK,aE,aO,ER,EF,EA,iP,cK,a1,a2,a3,b1,b2,b3,c1,c2,c3,d1,d2,d3,lE]
    try refine⟨fun r hr n cs hc=>by rw[show r=3 by simpa using hr]at hc ⊢;exact hc,?_⟩
    refine al.own (by simp only[EO,a3,b3,c3,d3,e3,e4]) (aK (aG.fV (ar.cu true v) x5.own) (aK (.same _) (aK (.same _) (aK (b6.fV (ae.cu true) oA5) b8)))) (IA true true v pp nm args ds.vi (by omega) (by omega) (by omega)) ?_
    rintro _ H6 fr
    replace fr:aV H5 _ _ _:=fr
    obtain⟨ac,f',rfl,o',n',b',eg⟩:=fr.a2 rfl
    obtain⟨wE',w2',wL',w4',_,_,_,_,rfl,_,_⟩:=kl o'
    have lh:=x5.dr.len
    have xx:VC h H6 b bs (c5 v pp nm args).1 wE' w2' wL' w4' f':=⟨o',n',fun c hc=>by have:=b' c hc;exact⟨by omega,by omega⟩,x5.dr.trans (.rI x5.dr.cur eg)⟩
    obtain⟨⟨aa1,aa2,aa3,aa4⟩,⟨bb1,bb2,bb3,bb4⟩,⟨cc1,cc2,cc3,cc4⟩,⟨dd1,dd2,dd3,dd4⟩,_⟩:=xx.cell
    have s5:=fun e h=>E3 (e:=e) (h:=h) (id:=v.id) (i':=(c5 v pp nm args).1.id) (a:=wE) (b:=w2) (c:=wL) (d:=w4) (X:=[]) aa2 bb2 cc2 dd2
    simp only[EZ,ag,Nat.reduceAdd,Nat.reduceBEq,iu,dM,dK,aE,aO,ER,EF,EA,iP,cK,a1,a2,a3,b1,b2,b3,c1,c2,c3,d1,d2,d3,lE,aa1,aa2,aa3,bb1,bb2,bb3,cc1,cc2,cc3,dd1,dd2,dd3,s5]
    exact⟨(m,(c5 v pp nm args).1,wE',w2',wL',w4',f',H6),⟨by simp only;omega,ds.send pp nm args,xx⟩,by simp only;omega,⟨by rw[Fu (by omega)];simp[fY,fO],rfl,rfl⟩⟩
end Go.Proofs.YtccjhmhkfnnmaaaGreat
namespace Go.Proofs.YtccjhmhkfnnmaaaGreat
open Go.AM
variable {Γ:bY}
set_option maxHeartbeats 8000000 in
set_option maxRecDepth 100000 in
theorem Bf(bs:List Int)(hbs:bs.length≤1073741824)(h:AH):T Tryz.prog Γ Fn.Su [.vs false 1 false (bs.map fun n=>[.int .u8 n])] h fun r h'=>(∃(v:ar) (n:Int) (s:ByteArray) (l:List ae),r=.tup [.agg (v.c false),.int .i64 n,.str s,.vs false 2 false (l.map (ae.c false))]∧DI 0 v∧s.size≤100∧l.length≤3)∧h'=h:=by
  refine(T.SM (R:=fun rs=>∃(v:ar) (n:Int) (s:ByteArray) (l:List ae),rs=[.a v.cd,.c (.i .i64 n),.c (.s s),.c (.sl 2 (l.map ae.cd))]∧DI 0 v∧s.size≤100∧l.length≤3) ?_).mono ?_
  rotate_left
  · rintro r h' ⟨⟨rs,⟨v,n,s,l,rfl,hd,hs,hl⟩,rfl⟩,rfl⟩
    refine⟨⟨v,n,s,l,?_,hd,hs,hl⟩,rfl⟩
    simp only[List.map_cons,List.map_nil,kx,Ld,Lk,CD.gI,CD.lB,CD.iO,ar.cu,List.map_map,Function.comp_def,ae.cu]
  refine Nl (au aC aD [] _ _ _ ?_)
  unfold Km
  simp only[EZ,ag,Nat.reduceAdd,Nat.reduceBEq,jP,aE,aO,ER,EF,EA]
  refine al.ref (by simp only[EO]) (PF bs hbs _) ?_
  rintro _ H1 ⟨b,rfl,hc,e1,hbh⟩
  replace e1:cn h H1:=e1
  replace hbh:h.length≤b:=hbh
  have hbl:b<H1.length:=by obtain⟨_,_,_,hg⟩:=hc;exact g6 hg
  simp only[EZ,ag,Nat.reduceAdd,Nat.reduceBEq,jP,aE,aO,ER,EF,EA]
  refine al.ref (by simp only[EO]) (Qm H1 hbs hc) ?_
  rintro _ H2 ⟨v,wE,w2,wL,w4,f,rfl,ds,x2⟩
  replace x2:VC H1 H2 b bs v wE w2 wL w4 f:=x2
  obtain⟨⟨a1,a2,a3,a4⟩,⟨b1,b2,b3,b4⟩,⟨c1,c2,c3,c4⟩,⟨d1,d2,d3,d4⟩,lE⟩:=x2.cell
  simp only[EZ,ag,Nat.reduceAdd,Nat.reduceBEq,jP,aE,aO,ER,EF,EA,a1,a2,a3,b1,b2,b3,c1,c2,c3,d1,d2,d3,lE]
  refine al.ref (by simp only[EO]) (cj _ hbs x2.dr.cur _) ?_
  rintro _ H3 ⟨nn,rfl,_,_,q3⟩
  replace q3:b9 H2 H3 b bs:=q3
  have x3:=x2.draw q3
  simp only[EZ,ag,Nat.reduceAdd,Nat.reduceBEq,jP,aE,aO,ER,EF,EA,a1,a2,a3,b1,b2,b3,c1,c2,c3,d1,d2,d3,lE]
  refine al.ref (by simp only[EO]) (HZ H3 hbs x3.dr.cur) ?_
  rintro _ H4 ⟨nm,rfl,hnm,q4⟩
  replace q4:b9 H3 H4 b bs:=q4
  have x4:=x3.draw q4
  have x4':=x4.ext (cn.app H4 [some (0,[])])
  simp only[EZ,ag,Nat.reduceAdd,Nat.reduceBEq,jP,aE,aO,ER,EF,EA]
  refine al.ref (by simp only[EO]) (cj _ hbs x4'.dr.cur _) ?_
  rintro _ H5 ⟨n5,rfl,n0,n1,q5⟩
  replace q5:b9 (H4++[some (0,[])]) H5 b bs:=q5
  have x5:=x4'.draw q5
  replace n1:=n1 (by omega)
  obtain⟨n',rfl⟩:∃n':Nat,n5=n':=⟨n5.toNat,by omega⟩
  have h4L:=x4.dr.len
  have oA0:b6 H5 (.gs H4.length 0 0 0 0 2 true) (.sl 2 (([]:List ae).map ae.cd)) [H4.length]:=q5.own (dI H4 2) (by simp only[List.mem_singleton];omega)
  have hfb:∀c∈f,c<H4.length:=x4.own.lt
  simp only[EZ,ag,Nat.reduceAdd,Nat.reduceBEq,jP,aE,aO,ER,EF,EA]
  refine et aC aD [] (fun x:Nat×AV×AH×List Nat×List ae=>x.1≤2∧x.2.2.2.2.length+x.1≤2∧b6 x.2.2.1 x.2.1 (.sl 2 (x.2.2.2.2.map ae.cd)) x.2.2.2.1∧x.2.2.2.1.Nodup∧(∀c∈x.2.2.2.1,H1.length≤c∧c∉f)∧VC H1 x.2.2.1 b bs v wE w2 wL w4 f) (fun x=>x.1)
    (fun x=>Ba (.lp ([]:List (List AV)).length 0) (.gp b 0 0) (.lp (([]:List (List AV)).length+1) 0) (.int .i64 nn) (.str nm) x.2.1 (.int .i64 x.1) (LL z5 [.int .i64 v.id,wE,w2,wL,w4] []) x.2.2.1) (n',.gs H4.length 0 0 0 0 2 true,H5,[H4.length],[]) ⟨by simp only;omega,by simp only[List.length_nil];omega,oA0,by simp,fun c hc=>by
      rw[List.mem_singleton.1 hc];exact⟨by omega,fun g=>Nat.lt_irrefl _ (hfb _ g)⟩,x5⟩ ⟨by simp[Ba,fY,fO],rfl,rfl⟩ ?_
  clear oA0 n1 x5 q5
  rintro⟨k2,w5,Hj,f5,args⟩ ⟨hk2,hal,oA,nA,bA,xj⟩
  simp only at hk2 hal oA nA bA xj
  obtain⟨e1',e2,e3,e4⟩:=oA.cell
  simp only[EZ,ag,Nat.reduceAdd,Nat.reduceBEq,jP,Ba,aE,aO,ER,EF,EA]
  have grow:∀(z:ae) (H':AH),b9 Hj H' b bs→∃v' H4 fp',(∀e l,tS ⟨e,l,H'++[some (0,[AV.int .i64 z.kind,.int .i64 z.n])]⟩ 2 16 w5 (eF ⟨e,l,H'++[some (0,[AV.int .i64 z.kind,.int .i64 z.n])]⟩ 2 false (.gs H'.length 0 0 1 1 2 true)) (lenOf (.gs H'.length 0 0 1 1 2 true)) (lenOf w5)=.val v' ⟨e,l,H4⟩)∧b6 H4 v' (.sl 2 ((args++[z]).map ae.cd)) fp'∧fp'.Nodup∧(∀c∈fp',H1.length≤c∧c∉f)∧VC H1 H4 b bs v wE w2 wL w4 f:=fun z H' q=>by
    have oA3:=q.own oA (fun g=>by have:=(bA b g).1;omega)
    obtain⟨v',H4',fp',ea,o',nd',hf',hl',hm'⟩:=cY (bytes:=16) oA3 (ys:=[.int .i64 z.kind,.int .i64 z.n]) (row:=z.cd) (f2:=[]) (by simpa using nA) (by omega) rfl (.i (.i .nil)) (by simp only[List.length_map,aQ];omega)
    have l3:=q.len
    have hjL:=xj.dr.len
    have hfj:∀c∈f,c<Hj.length:=xj.own.lt
    exact⟨v',H4',fp',ea,by simpa using o',nd',fun c hc=>by
      rcases hm' c hc with g|g|g
      · exact bA c g
      · cases g
      · exact⟨by omega,fun q=>by have:=hfj c q;omega⟩,(xj.draw q).frame hbl hl' hf' (fun c hc=>bA c hc)⟩
  refine bP (fun hgt2=>?_) (fun hge2=>?_)
  · have hgt2:0<k2:=by simp at hgt2;omega
    obtain⟨m2,rfl⟩:∃m2,k2=m2+1:=⟨k2-1,by omega⟩
    simp only[EZ,ag,Nat.reduceAdd,Nat.reduceBEq,jP,aE,aO,ER,EF,EA,cK,a1,a2,a3,b1,b2,b3,c1,c2,c3,d1,d2,d3]
    refine al.ref (by simp only[EO,a3,b3,c3,d3]) (EE Hj hbs xj.dr.cur xj.own ds.ne (by have:=ds.vi.ents;omega)) ?_
    rintro _ H3' ⟨z,rfl,_,q3'⟩
    replace q3':b9 Hj H3' b bs:=q3'
    obtain⟨v',H4',fp',ea,o',nd',bb',x4''⟩:=grow z H3' q3'
    obtain⟨p1,p2,p3,p4⟩:=o'.cell
    simp only[EZ,ag,Nat.reduceAdd,Nat.reduceBEq,jP,aE,aO,ER,EF,EA,ae.c,e1',e2,e3,ea,p1,p2,p3]
    exact⟨(m2,v',H4',fp',args++[z]),⟨by simp only;omega,by simp only[List.length_append,List.length_cons,List.length_nil];omega,o',nd',bb',x4''⟩,by simp only;omega,⟨by rw[Fu (by omega)];simp[fY,fO],rfl,rfl⟩⟩
  have hge2:k2=0:=by simp at hge2;omega
  subst hge2
  have st0:∀(e:List AV) (h:AH),(St.mk e (LL z5 [.int .i64 v.id,wE,w2,wL,w4] []) h).store (.lp (([]:List (List AV)).length) 0) [.int .i64 v.id,wE,w2,wL,w4]=some ⟨e,LL [.int .i64 v.id,wE,w2,wL,w4] [.int .i64 v.id,wE,w2,wL,w4] [],h⟩:=fun e h=>B6 (by simp) (by simp only[List.all_cons,List.all_nil,a2,b2,c2,d2];rfl)
  have he1:=e1.len
  have FIN:∀(Hf:AH) (w:AV) (fp:List Nat) (l:List ae) (s:ByteArray),VC H1 Hf b bs v wE w2 wL w4 f→b6 Hf w (.sl 2 (l.map ae.cd)) fp→(∀c∈fp,H1.length≤c∧c∉f)→s.size≤100→l.length≤3→∃vs rs fp,(AV.tup [.agg [.int .i64 v.id,wE,w2,wL,w4],.int .i64 nn,.str s,w]:AV)=kx vs∧gC Hf vs rs fp∧(∀c∈fp,h.length≤c)∧cn h Hf∧∃(v:ar) (n:Int) (s:ByteArray) (l:List ae),rs=[.a v.cd,.c (.i .i64 n),.c (.s s),.c (.sl 2 (l.map ae.cd))]∧DI 0 v∧s.size≤100∧l.length≤3:=fun Hf w fp l s xf ow bw hs hl=>by
    refine⟨[.agg [.int .i64 v.id,wE,w2,wL,w4],.int .i64 nn,.str s,w],[.a v.cd,.c (.i .i64 nn),.c (.s s),.c (.sl 2 (l.map ae.cd))],f++fp,rfl,⟨f,fp,rfl,⟨_,rfl,xf.own⟩,[],fp,by simp,.i _ _,[],fp,by simp,.s _,fp,[],by simp,ow,rfl⟩,fun c hc=>?_,⟨by have:=xf.dr.len;omega,fun c hc=>by rw[xf.dr.fr c (by omega) (by omega),e1.fr c hc]⟩,v,nn,s,l,rfl,ds,hs,hl⟩
    rcases List.mem_append.1 hc with g|g
    · have:=(xf.bf c g).1;omega
    · have:=(bw c g).1;omega
  simp only[EZ,ag,Nat.reduceAdd,Nat.reduceBEq,jP,aE,aO,ER,EF,EA]
  refine al.ref (by simp only[EO]) (cj _ hbs xj.dr.cur _) ?_
  rintro _ H6 ⟨n6,rfl,_,_,q6⟩
  replace q6:b9 Hj H6 b bs:=q6
  have x6:=xj.draw q6
  have oA6:=q6.own oA (fun g=>by have:=(bA b g).1;omega)
  by_cases n_0:n6=0
  · simp only[EZ,ag,Nat.reduceAdd,Nat.reduceBEq,jP,aE,aO,ER,EF,EA,ah,decide_eq_true n_0,iP,cK,a1,a2,a3,b1,b2,b3,c1,c2,c3,d1,d2,d3,st0]
    exact⟨by simp only[List.all_cons,List.all_nil,EO,a3,a4,b3,b4,c3,c4,d3,d4,e3,e4],FIN H6 w5 f5 args _ x6 oA6 bA (by decide) (by omega)⟩
  by_cases n_1:n6=1
  · simp only[EZ,ag,Nat.reduceAdd,Nat.reduceBEq,jP,aE,aO,ER,EF,EA,ah,decide_eq_false n_0,decide_eq_true n_1,iP,cK]
    refine al.ref (by simp only[EO]) (OV H6 hbs x6.dr.cur) ?_
    rintro _ H7 ⟨z,rfl,q7⟩
    replace q7:b9 H6 H7 b bs:=q7
    obtain⟨v',H4',fp',ea,o',nd',bb',x4''⟩:=grow z H7 (q6.trans q7)
    obtain⟨p1,p2,p3,p4⟩:=o'.cell
    simp only[EZ,ag,Nat.reduceAdd,Nat.reduceBEq,jP,aE,aO,ER,EF,EA,ae.c,e1',e2,e3,ea,p1,p2,p3,iP,cK,a1,a2,a3,b1,b2,b3,c1,c2,c3,d1,d2,d3,st0]
    exact⟨by simp only[List.all_cons,List.all_nil,EO,a3,a4,b3,b4,c3,c4,d3,d4,p3,p4],FIN H4' v' fp' (args++[z]) _ x4'' o' bb' hnm (by simp only[List.length_append,List.length_cons,List.length_nil];omega)⟩
  · simp only[EZ,ag,Nat.reduceAdd,Nat.reduceBEq,jP,aE,aO,ER,EF,EA,ah,decide_eq_false n_0,decide_eq_false n_1,iP,cK,a1,a2,a3,b1,b2,b3,c1,c2,c3,d1,d2,d3,st0]
    exact⟨by simp only[List.all_cons,List.all_nil,EO,a3,a4,b3,b4,c3,c4,d3,d4,e3,e4],FIN H6 w5 f5 args _ x6 oA6 bA hnm (by omega)⟩
end Go.Proofs.YtccjhmhkfnnmaaaGreat
