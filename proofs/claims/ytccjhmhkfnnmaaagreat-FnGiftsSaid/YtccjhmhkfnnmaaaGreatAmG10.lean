import Derived.Test.YtccjhmhkfnnmaaaGreatAmG9
import Derived.Test.YtccjhmhkfnnmaaaGreatAmG6
import Derived.Test.YtccjhmhkfnnmaaaGreatAmG8
set_option linter.unusedVariables false
set_option linter.unusedSimpArgs false
namespace Go.AM
theorem F7{pre row post:List AV}{i n:Nat}(hi:i+n≤row.length):sub (pre++row++post) (pre.length+i) n=sub row i n:=by
  unfold sub
  rw[if_pos (by simp;omega),if_pos hi,List.append_assoc,List.drop_append,List.drop_eq_nil_of_le (by omega),List.nil_append,Nat.add_sub_cancel_left,List.drop_append_of_le_length (by omega),List.take_append_of_le_length (by rw[List.length_drop];omega)]
theorem EJ{pre row post vs:List AV}{i:Nat}(hi:i+vs.length≤row.length):cB (pre++row++post) (pre.length+i) vs=pre++cB row i vs++post:=by
  unfold cB
  rw[List.append_assoc pre row post,List.take_append,List.take_of_length_le (show pre.length≤pre.length+i by omega),Nat.add_sub_cancel_left,List.take_append_of_le_length (show i≤row.length by omega),
    List.drop_append,List.drop_eq_nil_of_le (show pre.length≤pre.length+i+vs.length by omega),List.nil_append,show pre.length+i+vs.length-pre.length=i+vs.length by omega,List.drop_append_of_le_length hi]
  simp only[List.append_assoc]
structure pO (H:AH) (b g:Nat) (pre row post:List AV):Prop where
  eq:bJ H b=some (g,pre++row++post)
theorem pO.lt{H:AH}{b g:Nat}{pre row post:List AV}(m:pO H b g pre row post):b<H.length:=c5 m.eq
theorem pO.cells{H:AH}{b g:Nat}{pre row post:List AV}(m:pO H b g pre row post)(e:List AV)(L:List (List AV))(i n:Nat)(hi:i+n≤row.length):(St.mk e L H).cells (.gp b g (pre.length+i)) n=sub row i n:=by
  rw[bk m.eq,F7 hi]
theorem pO.qn{H:AH}{b g:Nat}{pre row post:List AV}(m:pO H b g pre row post)(e:List AV)(L:List (List AV))(n:Nat)(hi:n≤row.length):(St.mk e L H).cells (.gp b g pre.length) n=sub row 0 n:=by
  have:=m.cells e L 0 n (by omega);rwa[Nat.add_zero]at this
theorem pO.frame{H H':AH}{b g:Nat}{pre row post:List AV}(m:pO H b g pre row post)(h:H'[b]? = H[b]?):pO H' b g pre row post:=⟨by have:=m.eq;unfold bJ at this ⊢;rw[h];exact this⟩
theorem pO.store{H:AH}{b g:Nat}{pre row post:List AV}(m:pO H b g pre row post){i:Nat}{vs:List AV}(hi:i+vs.length≤row.length)(hv:vs.all bo=true):
    ∃H',(∀(e:List AV) (L:List (List AV)),(St.mk e L H).store (.gp b g (pre.length+i)) vs=some ⟨e,L,H'⟩)∧pO H' b g pre (cB row i vs) post∧H'.length=H.length∧∀c,c≠b→H'[c]? = H[c]?:=by
  refine⟨H.set b (some (g,pre++cB row i vs++post)),fun e L=>?_,⟨?_⟩,by simp,fun c hc=>List.getElem?_set_ne (Ne.symm hc)⟩
  · simp only[St.store,m.eq,Option.bind_some,if_true]
    rw[if_pos (by simp;omega),hv,if_pos rfl,EJ hi]
  · have:=m.lt
    simp[bJ,this]
theorem pO.nil{H:AH}{b g:Nat}{row:List AV}(h:bJ H b=some (g,row)):pO H b g [] row []:=⟨by simpa using h⟩
theorem pO.snap{H:AH}{b g:Nat}{pre row post ys:List AV}(m:pO H b g pre row post)(s:iE H (.agg row) (.agg ys)):iE H (.gp b g pre.length) (.ip true ys):=by
  have key:∀(i:Nat) (y:AV),ys[i]? = some y→∃x,row[i]? = some x∧iE H x y:=by
    cases s with
    | same=>exact fun i y hy=>⟨y,hy,.same _⟩
    | agg _ _ h1 f h2 r=>exact fun i y hy=>⟨f i,h2 i y hy,r i y hy⟩
  refine .gp b g pre.length (pre++row++post) ys (fun i=>row.getD i .any) (c8 m.eq) (fun j x hx=>?_) (fun j x hx=>?_)
  · obtain⟨z,hz,_⟩:=key j x hx
    have hj:=aG hz
    rw[List.append_assoc,List.getElem?_append_right (by omega),Nat.add_sub_cancel_left,List.getElem?_append_left hj,hz]
    simp[List.getD_eq_getElem?_getD,hz]
  · obtain⟨z,hz,hs⟩:=key j x hx
    simpa[List.getD_eq_getElem?_getD,hz]using hs
theorem bN.kK{H:AH}{w:AV}{sz:Nat}{xs:List (List CD)}{fp:List Nat}(o:bN H w (.sl sz xs) fp)(nd:fp.Nodup){k:Nat}(hk:k<xs.length):
    ∃b g pre row post f,eJ sz w (k:Int)=some (.gp b g pre.length)∧pO H b g pre row post∧row.length=sz∧aO H row xs[k] f∧f.Nodup∧(∀c∈f,c∈fp)∧b∈fp∧b∉f∧
      ∀(H':AH) (row':List AV) (d':List CD) (f':List Nat),aO H' row' d' f'→f'.Nodup→d'.length=sz→(∀c∈f',c∈f∨c∉fp)→pO H' b g pre row' post→(∀c∈fp,c∉f→c≠b→H'[c]? = H[c]?)→
        ∃fp',bN H' w (.sl sz (xs.set k d')) fp'∧fp'.Nodup∧(∀c∈fp',c∈fp∨c∈f'):=by
  rcases o.jW with⟨rfl,e,rfl⟩|⟨b,g,cap,ex,az,tail,fp',rfl,rfl,hg,hsz,ht,hc,hown⟩
  · subst e;simp at hk
  obtain⟨nb,nd'⟩:=List.nodup_cons.1 nd
  have hfl:∀d:List CD,(xs.set k d).flatten=(xs.take k).flatten++(d++(xs.drop (k+1)).flatten):=fun d=>by
    rw[←List.flatten_cons,←List.flatten_append,List.set_eq_take_append_cons_drop,if_pos hk]
  have hf0:=hfl xs[k]
  rw[List.set_getElem_self]at hf0
  rw[hf0]at hown
  obtain⟨a1,a2,f1,f2,e1,e2,o1,o2⟩:=hown.split
  obtain⟨a3,a4,f3,f4,e3,e4,o3,o4⟩:=o2.split
  subst e1 e2 e3 e4
  have l1:a1.length=k*sz:=by
    rw[o1.len]
    have:∀(ys:List (List CD)),(∀l∈ys,l.length=sz)→ys.flatten.length=ys.length*sz:=fun ys=>by
      induction ys with
      | nil=>intro _;simp
      | cons y ys ih=>intro h;rw[List.flatten_cons,List.length_append,ih (fun l hl=>h l (by simp[hl])),h y (by simp),List.length_cons,Nat.add_mul];omega
    rw[this _ (fun l hl=>hsz l (List.mem_of_mem_take hl)),List.length_take,Nat.min_eq_left (by omega)]
  have l3:a3.length=sz:=by rw[o3.len];exact hsz _ (List.getElem_mem hk)
  obtain⟨n1,n2,n3⟩:=List.nodup_append.1 nd'
  obtain⟨n4,n5,n6⟩:=List.nodup_append.1 n2
  refine⟨b,g,a1,a3,a4++tail,f3,by have:=nN (b:=b) (g:=g) (off:=0) (len:=xs.length) (cap:=cap) (sz:=sz) (ex:=ex) hk;rwa[Nat.zero_add,←l1]at this,⟨by rw[hg];simp⟩,l3,o3,n4,fun c hc=>by simp[hc],by simp,fun hb=>nb (by simp[hb]),?_⟩
  intro H' row' d' f' o' nd2 hdl hf' hm fr
  have hbf':b∉f':=fun hb=>by
    rcases hf' b hb with q|q
    · exact nb (by simp[q])
    · exact q (by simp)
  have d1:∀c∈f',c∉f1:=fun c hc h1=>by
    rcases hf' c hc with q|q
    · exact n3 c h1 c (List.mem_append_left _ q) rfl
    · exact q (by simp[h1])
  have d4:∀c∈f',c∉f4:=fun c hc h1=>by
    rcases hf' c hc with q|q
    · exact n6 c q c h1 rfl
    · exact q (by simp[h1])
  have o1':=o1.frame (h':=H') fun c hc=>fr c (by simp[hc]) (fun h3=>n3 c hc c (List.mem_append_left _ h3) rfl) (fun e=>nb (by rw[←e];simp[hc]))
  have o4':=o4.frame (h':=H') fun c hc=>fr c (by simp[hc]) (fun h3=>n6 c h3 c hc rfl) (fun e=>nb (by rw[←e];simp[hc]))
  refine⟨b::(f1++(f'++f4)),?_,List.nodup_cons.2 ⟨?_,List.nodup_append.2 ⟨n1,List.nodup_append.2 ⟨nd2,n5,fun x hx y hy e=>d4 x hx (e▸hy)⟩,fun x hx y hy e=>?_⟩⟩,fun c hc=>?_⟩
  · have:=bN.sl_mk (h:=H') (b:=b) (g:=g) (cap:=cap) (sz:=sz) (ex:=ex) («as»:=a1++(row'++a4)) (tail:=tail) (xs:=xs.set k d') (fp:=f1++(f'++f4))
      (by rw[hm.eq];simp) (fun y hy=>by
        rcases List.mem_or_eq_of_mem_set hy with g|g
        · exact hsz y g
        · rw[g,hdl]) ht (by simpa using hc) (by rw[hfl];exact o1'.append (o'.append o4'))
    simpa using this
  · simp only[List.mem_append,not_or]
    exact⟨fun h=>nb (by simp[h]),hbf',fun h=>nb (by simp[h])⟩
  · subst e
    rcases List.mem_append.1 hy with q|q
    · exact d1 x q hx
    · exact n3 x hx x (List.mem_append_right _ q) rfl
  · simp only[List.mem_cons,List.mem_append]at hc ⊢
    rcases hc with q|q|q|q
    · exact .inl (.inl q)
    · exact .inl (.inr (.inl q))
    · exact .inr q
    · exact .inl (.inr (.inr (.inr q)))
end Go.AM
namespace Go.AM
theorem ub{H:AH}{q:Nat}{x:AV}(hq:bJ H q=some (0,[x])):iE H (.gp q 0 0) (.ip true [x]):=by
  refine .gp q 0 0 [x] [x] (fun _=>x) (c8 hq) (fun j y hy=>?_) (fun j y hy=>?_)
  · cases j with
    | zero=>rfl
    | succ j=>simp at hy
  · cases j with
    | zero=>simp at hy;subst hy;exact .same _
    | succ j=>simp at hy
theorem Jd{H:AH}{g:FuncId}{a b c a' b' c':AV}(ha:iE H a a')(hb:iE H b b')(hc:iE H c c'):iE H (.fn g [] [a,b,c]) (.fn g [] [a',b',c']):=by
  refine .fn g _ _ rfl (fun i=>[a,b,c].getD i .any) (fun i y hy=>?_) (fun i y hy=>?_)
  · match i,hy with
    | 0,_=>rfl
    | 1,_=>rfl
    | 2,_=>rfl
    | n+3,h=>simp at h
  · match i,hy with
    | 0,h=>simp at h;subst h;exact ha
    | 1,h=>simp at h;subst h;exact hb
    | 2,h=>simp at h;subst h;exact hc
    | n+3,h=>simp at h
theorem Ji{H:AH}{g:FuncId}{a a':AV}(ha:iE H a a'):iE H (.fn g [] [a]) (.fn g [] [a']):=by
  refine .fn g _ _ rfl (fun i=>[a].getD i .any) (fun i y hy=>?_) (fun i y hy=>?_)
  · match i,hy with
    | 0,_=>rfl
    | n+1,h=>simp at h
  · match i,hy with
    | 0,h=>simp at h;subst h;exact ha
    | n+1,h=>simp at h
theorem tC{α:Type}{p:α→Bool}{l:List α}{k:Nat}(h:dI p l=(k:Int)):∀(i:Nat) (hi:i<l.length),i<k→p l[i]=false:=by
  unfold dI at h
  split at h
  · rename_i j hj
    have hjk:j=k:=by omega
    subst hjk
    obtain⟨_,_,h3⟩:=List.findIdx?_eq_some_iff_getElem.1 hj
    intro i hi hik
    have:=h3 i hik
    simpa using this
  · omega
theorem Pr(i:Nat):kE (.int .i64 (i:Int))=some i:=by simp[kE,Fo]
theorem Ql{Γ:cj}(s:St)(d:Nat)(x:X):tK Γ s d (some x)=kE (s.eval Γ x):=rfl
def Jg(k:SK)(s:St)(v lo hi mx:AV):AR:=match kE lo,kE hi,kE mx with|some l,some h,some m=>.iH s (jn k v l (some h) (some m))|_,_,_=>.stuck
theorem N0{Γ:cj}(gl:Bool)(s:St)(k:SK)(x y z w:X):step Γ gl s (.slice k x (some y) (some z) (some w))=Jg k s (s.eval Γ x) (s.eval Γ y) (s.eval Γ z) (s.eval Γ w):=by
  simp only[step,Jg,Ql]
  cases kE (s.eval Γ y)<;>cases kE (s.eval Γ z)<;>cases kE (s.eval Γ w)<;>rfl
theorem Jc(s:St){b g len cap sz l h m:Nat}{ex:Bool}(h1:l≤h)(h2:h≤m)(h3:m≤cap):Jg (.sl sz) s (.gs b g 0 len cap sz ex) (.int .i64 l) (.int .i64 h) (.int .i64 m)=.val (.gs b g (l*sz) (h-l) (m-l) sz true) s:=by
  simp[Jg,Pr,jn,AR.iH,h1,h2,h3]
theorem CE(s:St){b g len cap sz l h:Nat}{ex:Bool}(h1:l≤h)(h2:h≤cap):tT (.sl sz) s (.gs b g 0 len cap sz ex) (.int .i64 l) (.int .i64 h)=.val (.gs b g (l*sz) (h-l) (cap-l) sz ex) s:=by
  simp[tT,Pr,jn,AR.iH,h1,h2]
section
variable {α:Type} {c:α→List AV} {sz:Nat} (hc:∀x,(c x).length=sz)
include hc
theorem zh(l:List α)(i:Nat)(hi:i≤l.length):((l.map c).flatten).drop (i*sz)=((l.drop i).map c).flatten:=by
  have e:(l.map c).flatten=((l.take i).map c).flatten++((l.drop i).map c).flatten:=by
    conv=>lhs;rw[←List.take_append_drop i l]
    rw[List.map_append,List.flatten_append]
  have h2:((l.take i).map c).flatten.length=i*sz:=by rw[fy (fun x _=>hc x),List.length_take,Nat.min_eq_left hi]
  rw[e,←h2,List.drop_left]
theorem Fz(l:List α){k:Nat}(hk:k<l.length)(tail:List AV):cB ((l.map c).flatten++tail) (k*sz) ((l.drop (k+1)).map c).flatten=((l.take k++(l.drop (k+1)++l.drop (l.length-1))).map c).flatten++tail:=by
  obtain⟨h1,h2⟩:=ko hc hk tail
  have h3:((l.drop (k+1)).map c).flatten.length=(l.length-(k+1))*sz:=by rw[fy (fun x _=>hc x),List.length_drop]
  have h4:((l.map c).flatten).length=l.length*sz:=by rw[fy (fun x _=>hc x)]
  have ht:((l.map c).flatten++tail).take (k*sz)=((l.take k).map c).flatten:=by rw[h1,←h2,List.take_left]
  have hd:k*sz+(l.length-(k+1))*sz=(l.length-1)*sz:=by rw[←Nat.add_mul];congr 1;omega
  have hle:(l.length-1)*sz≤l.length*sz:=Nat.mul_le_mul_right _ (by omega)
  unfold cB
  rw[ht,h3,hd,List.drop_append_of_le_length (by rw[h4];exact hle),zh hc l _ (by omega)]
  simp only[List.map_append,List.flatten_append,List.append_assoc]
theorem IU(l:List α){k:Nat}(hk:k<l.length)(tail:List AV){H:AH}{b g cap bytes:Nat}{ex:Bool}(h:bJ H b=some (g,(l.map c).flatten++tail))(hcap:l.length≤cap)(hn:((l.map c).flatten).all bo=true)(hz:0<sz)(hb:l.length*(sz+bytes)≤aU)(e:List AV)(L:List (List AV)):
    nq ⟨e,L,H⟩ sz bytes (.gs b g 0 k cap sz ex) (dp ⟨e,L,H⟩ sz false (.gs b g ((k+1)*sz) (l.length-(k+1)) (cap-(k+1)) sz ex)) (lenOf (.gs b g ((k+1)*sz) (l.length-(k+1)) (cap-(k+1)) sz ex)) (lenOf (.gs b g 0 k cap sz ex)) =
      .val (.gs b g 0 (l.length-1) cap sz ex) ⟨e,L,H.set b (some (g,((l.take k++(l.drop (k+1)++l.drop (l.length-1))).map c).flatten++tail))⟩:=by
  have h3:((l.drop (k+1)).map c).flatten.length=(l.length-(k+1))*sz:=by rw[fy (fun x _=>hc x),List.length_drop]
  have h4:((l.map c).flatten).length=l.length*sz:=by rw[fy (fun x _=>hc x)]
  have hle:(k+1)*sz+(l.length-(k+1))*sz=l.length*sz:=by rw[←Nat.add_mul];congr 1;omega
  have src:dp ⟨e,L,H⟩ sz false (.gs b g ((k+1)*sz) (l.length-(k+1)) (cap-(k+1)) sz ex)=some ((l.drop (k+1)).map c).flatten:=by
    simp only[dp,St.bp,h,Option.bind_some,if_true]
    unfold sub
    rw[if_pos (by rw[List.length_append,h4];omega),List.drop_append_of_le_length (by rw[h4];omega),zh hc l _ (by omega),List.take_append_of_le_length (by omega),List.take_of_length_le (by omega)]
  have hn2:((l.drop (k+1)).map c).flatten.all bo=true:=by
    rw[List.all_eq_true]at hn ⊢
    intro x hx
    refine hn x ?_
    rw[List.mem_flatten]at hx ⊢
    obtain⟨y,hy,hxy⟩:=hx
    obtain⟨z,hz,rfl⟩:=List.mem_map.1 hy
    exact⟨_,List.mem_map.2 ⟨z,List.mem_of_mem_drop hz,rfl⟩,hxy⟩
  have hlen:k+(l.length-(k+1))=l.length-1:=by omega
  have hll:(l.length-1)*sz≤l.length*sz:=Nat.mul_le_mul_right _ (by omega)
  have hmm:(l.length-1)*(sz+bytes)≤l.length*(sz+bytes):=Nat.mul_le_mul_right _ (by omega)
  rw[src]
  simp only[lenOf,nq,kT,AR.EC]
  rw[if_neg (by omega),hlen,if_neg (by omega)]
  simp only[h,Option.bind_some,if_true,hn2]
  rw[if_pos (by omega),if_pos (by rw[List.length_append,h4];omega),Nat.zero_add,Fz hc l hk tail]
end
end Go.AM
namespace Go.AM
section
variable {P:Program} {Θ:mQ} {Γ:cj}
theorem DO(a b c:AV):i9 [a,b,c]=.tup [a,b,c]:=rfl
theorem Av{H:AH}{a:AV}{d:CD}{fp:List Nat}(hd:d.flat=true)(o:bN H a d fp):a=d.av true∧fp=[]:=by
  cases d with
  | i=>obtain⟨rfl,rfl⟩:=hU.1 o;simp[CD.fb]
  | b=>obtain⟨rfl,rfl⟩:=jP.1 o;simp[CD.fc]
  | s=>obtain⟨rfl,rfl⟩:=jm.1 o;simp[CD.k8]
  | sl=>cases hd
theorem T.Jb{f:FuncId}{args:List AV}{h:AH}{d d' d'':CD}(hd:d'.flat=true)(hd2:d''.flat=true)(t:T P Γ f args h fun v h'=>∃a new fp,v=.tup [a,d'.av true,d''.av true]∧h'=h++new∧bN h' a d fp∧fp.Nodup∧∀b∈fp,h.length≤b):T P Γ f args h (aS h [.c d,.c d',.c d'']):=
  t.fresh fun v h' ⟨a,new,fp,e1,e2,o,nd,hb⟩=>⟨[a,d'.av true,d''.av true],new,fp,e1,e2,⟨fp,[],by simp,o,⟨[],[],rfl,CD.k7 hd true,⟨[],[],rfl,CD.k7 hd2 true,rfl⟩⟩⟩,nd,hb⟩
theorem T.I5{f:FuncId}{args:List AV}{h:AH}{cs:List CD}{d d':CD}(hd:d'.flat=true)(t:T P Γ f args h fun v h'=>∃aa a new f1 f2,v=.tup [.agg aa,a,d'.av true]∧h'=h++new∧aO h' aa cs f1∧bN h' a d f2∧(f1++f2).Nodup∧∀b∈f1++f2,h.length≤b):T P Γ f args h (aS h [.a cs,.c d,.c d']):=
  t.fresh fun v h' ⟨aa,a,new,f1,f2,e1,e2,o1,o2,nd,hb⟩=>⟨[.agg aa,a,d'.av true],new,f1++f2,e1,e2,⟨f1,f2,rfl,⟨aa,rfl,o1⟩,⟨f2,[],by simp,o2,⟨[],[],rfl,CD.k7 hd true,rfl⟩⟩⟩,nd,hb⟩
theorem aS.c3{h H:AH}{d d' d'':CD}(hd:d'.flat=true)(hd2:d''.flat=true){v:AV}(f:aS h [.c d,.c d',.c d''] v H):∃a fp,v=.tup [a,d'.av true,d''.av true]∧bN H a d fp∧fp.Nodup∧(∀b∈fp,h.length≤b)∧bQ h H:=by
  obtain⟨vs,new,fp,rfl,rfl,o,nd,hb,_⟩:=f
  match vs,o with
  | [a,a',a''],⟨f1,f2,e,o1,f3,f4,e',o2,f5,f6,e'',o3,e3⟩=>
    obtain⟨rfl,rfl⟩:=Av hd o2
    obtain⟨rfl,rfl⟩:=Av hd2 o3
    have e3:f6=[]:=e3
    subst e3
    simp at e'';subst e''
    simp at e';subst e'
    simp at e;subst e
    exact⟨a,fp,rfl,o1,nd,hb,bQ.app h new⟩
theorem aS.ac{h H:AH}{cs:List CD}{d d':CD}(hd:d'.flat=true){v:AV}(f:aS h [.a cs,.c d,.c d'] v H):∃aa a f1 f2,v=.tup [.agg aa,a,d'.av true]∧aO H aa cs f1∧bN H a d f2∧(f1++f2).Nodup∧(∀b∈f1++f2,h.length≤b)∧bQ h H:=by
  obtain⟨vs,new,fp,rfl,rfl,o,nd,hb,_⟩:=f
  match vs,o with
  | [a,a',a''],⟨f1,f2,e,o1,f3,f4,e',o2,f5,f6,e'',o3,e3⟩=>
    obtain⟨aa,rfl,o1⟩:=o1
    obtain⟨rfl,rfl⟩:=Av hd o3
    have e3:f6=[]:=e3
    subst e3
    simp at e'';subst e''
    simp at e';subst e'
    subst e
    exact⟨aa,a',f1,f2,rfl,o1,o2,nd,hb,bQ.app h new⟩
end
end Go.AM
namespace Go.AM
section
variable {P:Program} {Θ:mQ} {Γ:cj}
def tR(s:St):AV→AV→AR
  | .str v,.int _ n=>.iH s (if 0≤n then (v[n.toNat]?).map fun b=>.int .u8 b.toNat else none)
  | _,_=>.stuck
theorem uX(gl:Bool)(s:St)(x i:X):step Γ gl s (.idxstr x i)=tR s (s.eval Γ x) (s.eval Γ i):=by
  simp only[step];unfold tR;rfl
def gH(v:ByteArray)(k:Nat):Nat:=(v.data.toList.getD k 0).toNat
theorem E7(s:St){v:ByteArray}{k:Nat}(h:k<v.size):tR s (.str v) (.int .i64 (k:Int))=.val (.int .u8 (gH v k:Nat)) s:=by
  have e:v[k]? = some v[k]:=getElem?_pos v k h
  have e2:v.data.toList[k]? = some v[k]:=by
    have h':k<v.data.size:=h
    rw[Array.getElem?_toList,Array.getElem?_eq_getElem h'];rfl
  simp only[tR]
  rw[if_pos (by omega),Int.toNat_natCast,e]
  simp only[Option.map_some,AR.iH,gH,List.getD_eq_getElem?_getD,e2,Option.getD_some]
end
theorem B6(v:ByteArray):rE true (.str v)=some (.int .i64 v.size):=rfl
end Go.AM
namespace Go.AM
theorem Ww(env:List AV)(L zs:List (List AV))(a0 a1 a2 a3 z:List AV)(h:AH)(off n0:Nat):(St.mk env (L++a0::a1::a2::a3::z::zs) h).cells (.lp (L.length+4) off) n0=sub z off n0:=cT (i:=4) rfl
theorem WJ(env:List AV)(L zs:List (List AV))(a0 a1 a2 a3 z:List AV)(h:AH)(off:Nat)(vs:List AV):(St.mk env (L++a0::a1::a2::a3::z::zs) h).store (.lp (L.length+4) off) vs=jT (fun z'=>⟨env,L++a0::a1::a2::a3::z'::zs,h⟩) (hS ⟨env,L++a0::a1::a2::a3::z::zs,h⟩ (.lp (L.length+4) off) vs) (mW z off vs):=
  eF fun _ hs=>cU (i:=4) rfl hs
theorem Wh(env:List AV)(L zs:List (List AV))(a0 a1 a2 a3 a4 z:List AV)(h:AH)(off n0:Nat):(St.mk env (L++a0::a1::a2::a3::a4::z::zs) h).cells (.lp (L.length+5) off) n0=sub z off n0:=cT (i:=5) rfl
theorem W5(env:List AV)(L zs:List (List AV))(a0 a1 a2 a3 a4 z:List AV)(h:AH)(off:Nat)(vs:List AV):(St.mk env (L++a0::a1::a2::a3::a4::z::zs) h).store (.lp (L.length+5) off) vs=jT (fun z'=>⟨env,L++a0::a1::a2::a3::a4::z'::zs,h⟩) (hS ⟨env,L++a0::a1::a2::a3::a4::z::zs,h⟩ (.lp (L.length+5) off) vs) (mW z off vs):=
  eF fun _ hs=>cU (i:=5) rfl hs
theorem Wq(env:List AV)(L zs:List (List AV))(a0 a1 a2 a3 a4 a5 z:List AV)(h:AH)(off n0:Nat):(St.mk env (L++a0::a1::a2::a3::a4::a5::z::zs) h).cells (.lp (L.length+6) off) n0=sub z off n0:=cT (i:=6) rfl
theorem Xm(env:List AV)(L zs:List (List AV))(a0 a1 a2 a3 a4 a5 z:List AV)(h:AH)(off:Nat)(vs:List AV):(St.mk env (L++a0::a1::a2::a3::a4::a5::z::zs) h).store (.lp (L.length+6) off) vs=jT (fun z'=>⟨env,L++a0::a1::a2::a3::a4::a5::z'::zs,h⟩) (hS ⟨env,L++a0::a1::a2::a3::a4::a5::z::zs,h⟩ (.lp (L.length+6) off) vs) (mW z off vs):=
  eF fun _ hs=>cU (i:=6) rfl hs
theorem Xn(env:List AV)(L zs:List (List AV))(a0 a1 a2 a3 a4 a5 a6 z:List AV)(h:AH)(off n0:Nat):(St.mk env (L++a0::a1::a2::a3::a4::a5::a6::z::zs) h).cells (.lp (L.length+7) off) n0=sub z off n0:=cT (i:=7) rfl
theorem WM(env:List AV)(L zs:List (List AV))(a0 a1 a2 a3 a4 a5 a6 z:List AV)(h:AH)(off:Nat)(vs:List AV):(St.mk env (L++a0::a1::a2::a3::a4::a5::a6::z::zs) h).store (.lp (L.length+7) off) vs=jT (fun z'=>⟨env,L++a0::a1::a2::a3::a4::a5::a6::z'::zs,h⟩) (hS ⟨env,L++a0::a1::a2::a3::a4::a5::a6::z::zs,h⟩ (.lp (L.length+7) off) vs) (mW z off vs):=
  eF fun _ hs=>cU (i:=7) rfl hs
theorem Xj(env:List AV)(L zs:List (List AV))(a0 a1 a2 a3 a4 a5 a6 a7 z:List AV)(h:AH)(off n0:Nat):(St.mk env (L++a0::a1::a2::a3::a4::a5::a6::a7::z::zs) h).cells (.lp (L.length+8) off) n0=sub z off n0:=cT (i:=8) rfl
theorem Xc(env:List AV)(L zs:List (List AV))(a0 a1 a2 a3 a4 a5 a6 a7 z:List AV)(h:AH)(off:Nat)(vs:List AV):(St.mk env (L++a0::a1::a2::a3::a4::a5::a6::a7::z::zs) h).store (.lp (L.length+8) off) vs=jT (fun z'=>⟨env,L++a0::a1::a2::a3::a4::a5::a6::a7::z'::zs,h⟩) (hS ⟨env,L++a0::a1::a2::a3::a4::a5::a6::a7::z::zs,h⟩ (.lp (L.length+8) off) vs) (mW z off vs):=
  eF fun _ hs=>cU (i:=8) rfl hs
theorem Ws(env:List AV)(L zs:List (List AV))(a0 a1 a2 a3 a4 a5 a6 a7 a8 z:List AV)(h:AH)(off n0:Nat):(St.mk env (L++a0::a1::a2::a3::a4::a5::a6::a7::a8::z::zs) h).cells (.lp (L.length+9) off) n0=sub z off n0:=cT (i:=9) rfl
theorem W1(env:List AV)(L zs:List (List AV))(a0 a1 a2 a3 a4 a5 a6 a7 a8 z:List AV)(h:AH)(off:Nat)(vs:List AV):(St.mk env (L++a0::a1::a2::a3::a4::a5::a6::a7::a8::z::zs) h).store (.lp (L.length+9) off) vs=jT (fun z'=>⟨env,L++a0::a1::a2::a3::a4::a5::a6::a7::a8::z'::zs,h⟩) (hS ⟨env,L++a0::a1::a2::a3::a4::a5::a6::a7::a8::z::zs,h⟩ (.lp (L.length+9) off) vs) (mW z off vs):=
  eF fun _ hs=>cU (i:=9) rfl hs
theorem Pn(env:List AV)(L zs:List (List AV))(a0 a1 a2 a3 a4 a5 a6 a7 a8 a9 z:List AV)(h:AH)(off n0:Nat):(St.mk env (L++a0::a1::a2::a3::a4::a5::a6::a7::a8::a9::z::zs) h).cells (.lp (L.length+10) off) n0=sub z off n0:=cT (i:=10) rfl
theorem Qw(env:List AV)(L zs:List (List AV))(a0 a1 a2 a3 a4 a5 a6 a7 a8 a9 z:List AV)(h:AH)(off:Nat)(vs:List AV):(St.mk env (L++a0::a1::a2::a3::a4::a5::a6::a7::a8::a9::z::zs) h).store (.lp (L.length+10) off) vs=jT (fun z'=>⟨env,L++a0::a1::a2::a3::a4::a5::a6::a7::a8::a9::z'::zs,h⟩) (hS ⟨env,L++a0::a1::a2::a3::a4::a5::a6::a7::a8::a9::z::zs,h⟩ (.lp (L.length+10) off) vs) (mW z off vs):=
  eF fun _ hs=>cU (i:=10) rfl hs
theorem Qp(env:List AV)(L zs:List (List AV))(a0 a1 a2 a3 a4 a5 a6 a7 a8 a9 a10 z:List AV)(h:AH)(off n0:Nat):(St.mk env (L++a0::a1::a2::a3::a4::a5::a6::a7::a8::a9::a10::z::zs) h).cells (.lp (L.length+11) off) n0=sub z off n0:=cT (i:=11) rfl
theorem Rn(env:List AV)(L zs:List (List AV))(a0 a1 a2 a3 a4 a5 a6 a7 a8 a9 a10 z:List AV)(h:AH)(off:Nat)(vs:List AV):(St.mk env (L++a0::a1::a2::a3::a4::a5::a6::a7::a8::a9::a10::z::zs) h).store (.lp (L.length+11) off) vs=jT (fun z'=>⟨env,L++a0::a1::a2::a3::a4::a5::a6::a7::a8::a9::a10::z'::zs,h⟩) (hS ⟨env,L++a0::a1::a2::a3::a4::a5::a6::a7::a8::a9::a10::z::zs,h⟩ (.lp (L.length+11) off) vs) (mW z off vs):=
  eF fun _ hs=>cU (i:=11) rfl hs
theorem Ul(env:List AV)(L zs:List (List AV))(a0 a1 a2 a3 a4 a5 a6 a7 a8 a9 a10 a11 z:List AV)(h:AH)(off n0:Nat):(St.mk env (L++a0::a1::a2::a3::a4::a5::a6::a7::a8::a9::a10::a11::z::zs) h).cells (.lp (L.length+12) off) n0=sub z off n0:=cT (i:=12) rfl
theorem Us(env:List AV)(L zs:List (List AV))(a0 a1 a2 a3 a4 a5 a6 a7 a8 a9 a10 a11 z:List AV)(h:AH)(off:Nat)(vs:List AV):(St.mk env (L++a0::a1::a2::a3::a4::a5::a6::a7::a8::a9::a10::a11::z::zs) h).store (.lp (L.length+12) off) vs=jT (fun z'=>⟨env,L++a0::a1::a2::a3::a4::a5::a6::a7::a8::a9::a10::a11::z'::zs,h⟩) (hS ⟨env,L++a0::a1::a2::a3::a4::a5::a6::a7::a8::a9::a10::a11::z::zs,h⟩ (.lp (L.length+12) off) vs) (mW z off vs):=
  eF fun _ hs=>cU (i:=12) rfl hs
theorem aP:type_of% (And.intro @Ww (And.intro @WJ (And.intro @Wh (And.intro @W5 (And.intro @Wq (And.intro @Xm (And.intro @Xn (And.intro @WM (And.intro @Xj (And.intro @Xc (And.intro @Ws (And.intro @W1 (And.intro @Pn (And.intro @Qw (And.intro @Qp (And.intro @Rn (And.intro @Ul @Us))))))))))))))))):=And.intro @Ww (And.intro @WJ (And.intro @Wh (And.intro @W5 (And.intro @Wq (And.intro @Xm (And.intro @Xn (And.intro @WM (And.intro @Xj (And.intro @Xc (And.intro @Ws (And.intro @W1 (And.intro @Pn (And.intro @Qw (And.intro @Qp (And.intro @Rn (And.intro @Ul @Us))))))))))))))))
end Go.AM
namespace Go.AM
section
variable {P:Program} {Θ:mQ} {Γ:cj}
theorem vv{f g:Nat→D→Prop}:∀{ds:List (Nat×D)},(∀i d,f i d→g i d)→vf f ds→vf g ds
  | [],_,_=>trivial
  | (_,_)::_,h,a=>⟨h _ _ a.1,vv h a.2⟩
theorem ue{f g:Nat→Option (List Nat)→D→Prop}:∀{ds:List (Nat×Option (List Nat)×D)},(∀i b d,f i b d→g i b d)→qy f ds→qy g ds
  | [],_,_=>trivial
  | (_,_,_)::_,h,a=>⟨h _ _ _ a.1,ue h a.2⟩
theorem lK{gl:Gl}{os:List O}{K K':St→Prop}(hk:∀s,K s→K' s):∀(n:Nat) (d:D) (s:St),bH P Γ gl os K n d s→bH P Γ gl os K' n d s
  | 0,.done,s,h=>hk s h
  | n+1,.done,s,h=>hk s h
  | n+1,.q i d,s,h=>gM (fun s' h=>lK hk n d s' h) h
  | n+1,.st i rs d,s,h=>gM (fun s' h=>⟨h.1,lK hk n d s' h.2⟩) h
  | n+1,.all ds,s,h=>vv (fun i d h=>gM (fun s' h=>⟨h.1,lK hk n d s' h.2⟩) h) h
  | n+1,.mix ds,s,h=>ue (fun i b d h=>gM (fun s' h=>⟨h.1,lK hk n d s' h.2⟩) h) h
  | 0,.mix _,_,h=>h.elim
  | 0,.q _ _,_,h=>h.elim
  | 0,.st _ _ _,_,h=>h.elim
  | 0,.all _,_,h=>h.elim
theorem ID{gl:Gl}:∀(c:C) {Q Q':AE→St→Prop} (s:St),(∀e s,Q e s→Q' e s)→aw P Θ Γ gl c Q s→aw P Θ Γ gl c Q' s:=by
  intro c
  induction c with
  | skip=>exact fun s hq h=>hq _ s h
  | reg os=>exact fun s hq h=>jM os s (hq _) h
  | regD os af=>
    intro Q Q' s hq h
    simp only[aw]at h ⊢
    split at h
    · exact lK (hq _) _ _ s h
    · exact h.elim
  | seq a b iha ihb=>
    intro Q Q' s hq h
    exact iha s (fun e s he=>by cases e<;>simp only[iz]at he ⊢<;>first|exact ihb s hq he|exact hq _ s he) h
  | cond c a b iha ihb=>
    intro Q Q' s hq h
    simp only[aw]at h ⊢
    split at h
    · exact⟨fun ht=>iha s hq (h.1 ht),fun ht=>ihb s hq (h.2 ht)⟩
    · exact h.elim
  | block id c ih=>
    intro Q Q' s hq h
    refine ih s (fun e s he=>?_) h
    cases e with
    | normal=>exact hq _ s he
    | exit i=>
      simp only[jq]at he ⊢
      split at he
      · rename_i hi;rw[if_pos hi];exact hq _ s he
      · rename_i hi;rw[if_neg hi];exact hq _ s he
    | ret=>exact hq _ s he
  | loop c=>exact fun s hq h=>TC.mono h hq
  | exit id=>exact fun s hq h=>hq _ s h
  | ret=>exact fun s hq h=>hq _ s h
def C3(R:St→Prop)(Q:AE→St→Prop):AE→St→Prop
  | .normal,s=>R s
  | e,s=>Q e s
theorem Rf(R:St→Prop)(Q:AE→St→Prop):C3 R Q .normal=R:=rfl
theorem Q0(R:St→Prop)(Q:AE→St→Prop):C3 R Q .ret=Q .ret:=rfl
theorem P1(R:St→Prop)(Q:AE→St→Prop)(i:Nat):C3 R Q (.exit i)=Q (.exit i):=rfl
theorem uw{gl:Gl}{a b:C}{Q:AE→St→Prop}{s:St}(R:St→Prop)(h1:aw P Θ Γ gl a (C3 R Q) s)(h2:∀s,R s→aw P Θ Γ gl b Q s):aw P Θ Γ gl (.seq a b) Q s:=
  ID a s (fun e s he=>by cases e<;>first|exact h2 s he|exact he) h1
def kD(e:List AV)(n:Nat):AV:=e.getD n .any
theorem k5{e:List AV}{loc:List (List AV)}{h:AH}{n:Nat}(hn:e.length=n):(⟨e,loc,h⟩:St)=⟨(List.range n).map (kD e),loc,h⟩:=by
  subst hn
  congr 1
  apply List.ext_getElem (by simp)
  intro i h1 h2
  simp[kD,List.getD_eq_getElem?_getD,List.getElem?_eq_getElem h1]
end
theorem gQ:type_of% (And.intro @Rf (And.intro @Q0 @P1)):=And.intro @Rf (And.intro @Q0 @P1)
end Go.AM
namespace Go.AM
section
variable {P:Program} {Θ:mQ} {Γ:cj}
end
end Go.AM
namespace Go.AM
theorem ju{H:AH}{cells:List AV}{v:aA}{f:List Nat}(o:aO H cells v.cd f):∃wE w2 wL w4 fE f2 fL f4,cells=[.int .i64 v.id,wE,w2,wL,w4]∧f=fE++(f2++(fL++f4))∧bN H wE (.sl 12 (v.entities.map aE.cd)) fE∧bN H w2 (.sl 7 (v.loop.map aX.cd)) f2∧bN H wL (.sl 7 (v.aq.map aC.cd)) fL∧bN H w4 (.sl 13 (v.out.map bc.cd)) f4:=by
  simp only[aA.cd,gI,gD,hU,jP,jm]at o
  obtain⟨_,_,_,_,rfl,rfl,⟨rfl,rfl⟩,⟨wE,_,fE,_,rfl,rfl,oE,⟨w2,_,f2,_,rfl,rfl,o2,⟨wL,_,fL,_,rfl,rfl,oL,⟨w4,_,f4,_,rfl,rfl,o4,⟨rfl,rfl⟩⟩⟩⟩⟩⟩:=o
  exact⟨wE,w2,wL,w4,fE,f2,fL,f4,rfl,by simp,oE,o2,oL,o4⟩
theorem Ty{H:AH}{v:aA}{wE w2 wL w4:AV}{fE f2 fL f4:List Nat}(oE:bN H wE (.sl 12 (v.entities.map aE.cd)) fE)(o2:bN H w2 (.sl 7 (v.loop.map aX.cd)) f2)(oL:bN H wL (.sl 7 (v.aq.map aC.cd)) fL)(o4:bN H w4 (.sl 13 (v.out.map bc.cd)) f4):
    aO H [.int .i64 v.id,wE,w2,wL,w4] v.cd (fE++(f2++(fL++f4))):=by
  have e:f4=f4++[]:=by simp
  rw[e]
  exact .i (.o oE (.o o2 (.o oL (.o o4 .nil))))
def dj(f g:List Nat):Prop:=∀c∈f,c∉g
theorem dj.symm{f g:List Nat}(h:dj f g):dj g f:=fun c hc hd=>h c hd hc
structure VO (H:AH) (b:Nat) (v:aA) (wE w2 wL w4:AV) (fE f2 fL f4:List Nat):Prop where
  hb:bJ H b=some (0,[.int .i64 v.id,wE,w2,wL,w4])
  oE:bN H wE (.sl 12 (v.entities.map aE.cd)) fE
  o2:bN H w2 (.sl 7 (v.loop.map aX.cd)) f2
  oL:bN H wL (.sl 7 (v.aq.map aC.cd)) fL
  o4:bN H w4 (.sl 13 (v.out.map bc.cd)) f4
  nE:fE.Nodup
  n2:f2.Nodup
  nL:fL.Nodup
  n4:f4.Nodup
  dE2:dj fE f2
  dEL:dj fE fL
  dE4:dj fE f4
  d2L:dj f2 fL
  d24:dj f2 f4
  dL4:dj fL f4
  bE:b∉fE
  b2:b∉f2
  bL:b∉fL
  b4:b∉f4
def gB(fE f2 fL f4:List Nat):List Nat:=fE++(f2++(fL++f4))
theorem bU{fE f2 fL f4:List Nat}{c:Nat}:c∈gB fE f2 fL f4↔c∈fE∨c∈f2∨c∈fL∨c∈f4:=by simp[gB]
def js(H:AH)(b:Nat)(v:aA)(f:List Nat):Prop:=∃wE w2 wL w4 fE f2 fL f4,f=gB fE f2 fL f4∧VO H b v wE w2 wL w4 fE f2 fL f4
section
variable {H:AH} {b:Nat} {v:aA} {wE w2 wL w4:AV} {fE f2 fL f4:List Nat}
theorem VO.nodup(o:VO H b v wE w2 wL w4 fE f2 fL f4):(gB fE f2 fL f4).Nodup:=by
  refine List.nodup_append.2 ⟨o.nE,List.nodup_append.2 ⟨o.n2,List.nodup_append.2 ⟨o.nL,o.n4,fun x hx y hy e=>o.dL4 x hx (e▸hy)⟩,fun x hx y hy e=>?_⟩,fun x hx y hy e=>?_⟩
  · subst e
    rcases List.mem_append.1 hy with g|g
    · exact o.d2L x hx g
    · exact o.d24 x hx g
  · subst e
    simp only[List.mem_append]at hy
    rcases hy with g|g|g
    · exact o.dE2 x hx g
    · exact o.dEL x hx g
    · exact o.dE4 x hx g
theorem VO.own(o:VO H b v wE w2 wL w4 fE f2 fL f4):aO H [.int .i64 v.id,wE,w2,wL,w4] v.cd (gB fE f2 fL f4):=Ty o.oE o.o2 o.oL o.o4
theorem VO.lt(o:VO H b v wE w2 wL w4 fE f2 fL f4):∀c∈gB fE f2 fL f4,c<H.length:=o.own.lt
theorem VO.blt(o:VO H b v wE w2 wL w4 fE f2 fL f4):b<H.length:=c5 o.hb
theorem VO.bf(o:VO H b v wE w2 wL w4 fE f2 fL f4):b∉gB fE f2 fL f4:=fun h=>by
  rcases bU.1 h with g|g|g|g
  · exact o.bE g
  · exact o.b2 g
  · exact o.bL g
  · exact o.b4 g
theorem VO.mk'{f:List Nat}(hb:bJ H b=some (0,[.int .i64 v.id,wE,w2,wL,w4]))(oE:bN H wE (.sl 12 (v.entities.map aE.cd)) fE)(o2:bN H w2 (.sl 7 (v.loop.map aX.cd)) f2)(oL:bN H wL (.sl 7 (v.aq.map aC.cd)) fL)(o4:bN H w4 (.sl 13 (v.out.map bc.cd)) f4)
    (nd:(fE++(f2++(fL++f4))).Nodup) (hf:b∉fE++(f2++(fL++f4))):VO H b v wE w2 wL w4 fE f2 fL f4:=by
  obtain⟨nE,n1,q1⟩:=List.nodup_append.1 nd
  obtain⟨n2,n3,q2⟩:=List.nodup_append.1 n1
  obtain⟨nL,n4,q3⟩:=List.nodup_append.1 n3
  simp only[List.mem_append,not_or]at hf
  exact⟨hb,oE,o2,oL,o4,nE,n2,nL,n4,fun c h g=>q1 c h c (by simp[g]) rfl,fun c h g=>q1 c h c (by simp[g]) rfl,fun c h g=>q1 c h c (by simp[g]) rfl,fun c h g=>q2 c h c (by simp[g]) rfl,fun c h g=>q2 c h c (by simp[g]) rfl,fun c h g=>q3 c h c g rfl,hf.1,hf.2.1,hf.2.2.1,hf.2.2.2⟩
theorem js.of{cells:List AV}{f:List Nat}(hb:bJ H b=some (0,cells))(o:aO H cells v.cd f)(nd:f.Nodup)(hf:b∉f):js H b v f:=by
  obtain⟨wE,w2,wL,w4,fE,f2,fL,f4,rfl,rfl,oE,o2,oL,o4⟩:=ju o
  exact⟨wE,w2,wL,w4,fE,f2,fL,f4,rfl,VO.mk' (f:=[]) hb oE o2 oL o4 nd hf⟩
theorem js.lt{f:List Nat}(a:js H b v f):(∀c∈f,c<H.length)∧b<H.length∧b∉f∧f.Nodup:=by
  obtain⟨_,_,_,_,_,_,_,_,rfl,o⟩:=a
  exact⟨o.lt,o.blt,o.bf,o.nodup⟩
theorem js.frame{f:List Nat}{H':AH}(a:js H b v f)(h:∀c,c∈f∨c=b→H'[c]? = H[c]?):js H' b v f:=by
  obtain⟨wE,w2,wL,w4,fE,f2,fL,f4,rfl,o⟩:=a
  refine⟨wE,w2,wL,w4,fE,f2,fL,f4,rfl,?_,o.oE.frame fun c hc=>h c (.inl (bU.2 (.inl hc))),o.o2.frame fun c hc=>h c (.inl (bU.2 (.inr (.inl hc)))),o.oL.frame fun c hc=>h c (.inl (bU.2 (.inr (.inr (.inl hc))))),o.o4.frame fun c hc=>h c (.inl (bU.2 (.inr (.inr (.inr hc))))),o.nE,o.n2,o.nL,o.n4,o.dE2,o.dEL,o.dE4,o.d2L,o.d24,o.dL4,o.bE,o.b2,o.bL,o.b4⟩
  rw[bO (h b (.inr rfl))];exact o.hb
end
def gU(H:AH)(b:Nat)(F:Nat→Prop)(H':AH)(v':aA):Prop:=
  ∃f',js H' b v' f'∧H.length≤H'.length∧(∀c∈f',F c∨H.length≤c)∧∀c,¬F c→c≠b→c<H.length→H'[c]? = H[c]?
theorem gU.refl{H:AH}{b:Nat}{v:aA}{f:List Nat}{F:Nat→Prop}(a:js H b v f)(hF:∀c∈f,F c):gU H b F H v:=⟨f,a,Nat.le_refl _,fun c hc=>.inl (hF c hc),fun _ _ _ _=>rfl⟩
theorem gU.trans{H H1 H2:AH}{b:Nat}{F:Nat→Prop}{f1:List Nat}{G:Nat→Prop}{v2:aA}(l1:H.length≤H1.length)(m1:∀c∈f1,F c∨H.length≤c)(r1:∀c,¬F c→c≠b→c<H.length→H1[c]? = H[c]?)
    (u:gU H1 b G H2 v2) (hG:∀c,G c→c∈f1∨F c∨H.length≤c):gU H b F H2 v2:=by
  obtain⟨f2,a2,l2,m2,r2⟩:=u
  have hG':∀c,G c→F c∨H.length≤c:=fun c hc=>by
    rcases hG c hc with g|g|g
    · exact m1 c g
    · exact .inl g
    · exact .inr g
  refine⟨f2,a2,by omega,fun c hc=>?_,fun c hF hb hl=>?_⟩
  · rcases m2 c hc with g|g
    · exact hG' c g
    · exact .inr (by omega)
  · rw[r2 c (fun g=>(hG' c g).elim hF (fun g=>by omega)) hb (by omega),r1 c hF hb hl]
theorem gU.mono{H H':AH}{b:Nat}{F G:Nat→Prop}{v:aA}(u:gU H b F H' v)(h:∀c,F c→G c):gU H b G H' v:=by
  obtain⟨f,a,l,m,r⟩:=u
  exact⟨f,a,l,fun c hc=>(m c hc).imp (h c) id,fun c hG=>r c (fun hF=>hG (h c hF))⟩
section
variable {H H':AH} {b:Nat} {v:aA} {wE w2 wL w4:AV} {fE f2 fL f4 G:List Nat}
theorem VO.Tq(o:VO H b v wE w2 wL w4 fE f2 fL f4){wE':AV}{es':List aE}{fE':List Nat}(hb:bJ H' b=some (0,[.int .i64 v.id,wE',w2,wL,w4]))(oE:bN H' wE' (.sl 12 (es'.map aE.cd)) fE')(nE:fE'.Nodup)
    (mE:∀c∈fE',c∈fE∨c∈G∨H.length≤c) (dG:∀c∈G,c∉gB fE f2 fL f4∧c≠b) (hl:H.length≤H'.length) (fr:∀c,c∉fE→c∉G→c≠b→c<H.length→H'[c]? = H[c]?):
    VO H' b { v with entities:=es' } wE' w2 wL w4 fE' f2 fL f4:=by
  have lt:=o.lt
  have bf:=o.bf
  have key:∀c,c∈f2∨c∈fL∨c∈f4→H'[c]? = H[c]?∧c∉fE':=fun c hc=>by
    have hm:c∈gB fE f2 fL f4:=bU.2 (.inr hc)
    have hE:c∉fE:=fun g=>by
      rcases hc with q|q|q
      · exact o.dE2 c g q
      · exact o.dEL c g q
      · exact o.dE4 c g q
    have hG:c∉G:=fun g=>(dG c g).1 hm
    refine⟨fr c hE hG (fun e=>bf (e▸hm)) (lt c hm),fun h=>?_⟩
    rcases mE c h with g|g|g
    · exact hE g
    · exact hG g
    · have:=lt c hm;omega
  refine⟨hb,oE,o.o2.frame fun c hc=>(key c (.inl hc)).1,o.oL.frame fun c hc=>(key c (.inr (.inl hc))).1,o.o4.frame fun c hc=>(key c (.inr (.inr hc))).1,nE,o.n2,o.nL,o.n4,fun c h g=>(key c (.inl g)).2 h,fun c h g=>(key c (.inr (.inl g))).2 h,fun c h g=>(key c (.inr (.inr g))).2 h,o.d2L,o.d24,o.dL4,fun h=>?_,o.b2,o.bL,o.b4⟩
  rcases mE b h with g|g|g
  · exact o.bE g
  · exact(dG b g).2 rfl
  · have:=o.blt;omega
theorem VO.Wc(o:VO H b v wE w2 wL w4 fE f2 fL f4){w2':AV}{l':List aX}{f2':List Nat}(hb:bJ H' b=some (0,[.int .i64 v.id,wE,w2',wL,w4]))(o2:bN H' w2' (.sl 7 (l'.map aX.cd)) f2')(n2:f2'.Nodup)
    (m2:∀c∈f2',c∈f2∨c∈G∨H.length≤c) (dG:∀c∈G,c∉gB fE f2 fL f4∧c≠b) (hl:H.length≤H'.length) (fr:∀c,c∉f2→c∉G→c≠b→c<H.length→H'[c]? = H[c]?):
    VO H' b { v with loop:=l' } wE w2' wL w4 fE f2' fL f4:=by
  have lt:=o.lt
  have bf:=o.bf
  have key:∀c,c∈fE∨c∈fL∨c∈f4→H'[c]? = H[c]?∧c∉f2':=fun c hc=>by
    have hm:c∈gB fE f2 fL f4:=bU.2 (by rcases hc with q|q|q<;>simp[q])
    have hE:c∉f2:=fun g=>by
      rcases hc with q|q|q
      · exact o.dE2 c q g
      · exact o.d2L c g q
      · exact o.d24 c g q
    have hG:c∉G:=fun g=>(dG c g).1 hm
    refine⟨fr c hE hG (fun e=>bf (e▸hm)) (lt c hm),fun h=>?_⟩
    rcases m2 c h with g|g|g
    · exact hE g
    · exact hG g
    · have:=lt c hm;omega
  refine⟨hb,o.oE.frame fun c hc=>(key c (.inl hc)).1,o2,o.oL.frame fun c hc=>(key c (.inr (.inl hc))).1,o.o4.frame fun c hc=>(key c (.inr (.inr hc))).1,o.nE,n2,o.nL,o.n4,fun c h g=>(key c (.inl h)).2 g,o.dEL,o.dE4,fun c h g=>(key c (.inr (.inl g))).2 h,fun c h g=>(key c (.inr (.inr g))).2 h,o.dL4,o.bE,fun h=>?_,o.bL,o.b4⟩
  rcases m2 b h with g|g|g
  · exact o.b2 g
  · exact(dG b g).2 rfl
  · have:=o.blt;omega
theorem VO.Of(o:VO H b v wE w2 wL w4 fE f2 fL f4){wL':AV}{l':List aC}{fL':List Nat}(hb:bJ H' b=some (0,[.int .i64 v.id,wE,w2,wL',w4]))(oL:bN H' wL' (.sl 7 (l'.map aC.cd)) fL')(nL:fL'.Nodup)
    (mL:∀c∈fL',c∈fL∨c∈G∨H.length≤c) (dG:∀c∈G,c∉gB fE f2 fL f4∧c≠b) (hl:H.length≤H'.length) (fr:∀c,c∉fL→c∉G→c≠b→c<H.length→H'[c]? = H[c]?):
    VO H' b { v with aq:=l' } wE w2 wL' w4 fE f2 fL' f4:=by
  have lt:=o.lt
  have bf:=o.bf
  have key:∀c,c∈fE∨c∈f2∨c∈f4→H'[c]? = H[c]?∧c∉fL':=fun c hc=>by
    have hm:c∈gB fE f2 fL f4:=bU.2 (by rcases hc with q|q|q<;>simp[q])
    have hE:c∉fL:=fun g=>by
      rcases hc with q|q|q
      · exact o.dEL c q g
      · exact o.d2L c q g
      · exact o.dL4 c g q
    have hG:c∉G:=fun g=>(dG c g).1 hm
    refine⟨fr c hE hG (fun e=>bf (e▸hm)) (lt c hm),fun h=>?_⟩
    rcases mL c h with g|g|g
    · exact hE g
    · exact hG g
    · have:=lt c hm;omega
  refine⟨hb,o.oE.frame fun c hc=>(key c (.inl hc)).1,o.o2.frame fun c hc=>(key c (.inr (.inl hc))).1,oL,o.o4.frame fun c hc=>(key c (.inr (.inr hc))).1,o.nE,o.n2,nL,o.n4,o.dE2,fun c h g=>(key c (.inl h)).2 g,o.dE4,fun c h g=>(key c (.inr (.inl h))).2 g,o.d24,fun c h g=>(key c (.inr (.inr g))).2 h,o.bE,o.b2,fun h=>?_,o.b4⟩
  rcases mL b h with g|g|g
  · exact o.bL g
  · exact(dG b g).2 rfl
  · have:=o.blt;omega
theorem VO.Vs(o:VO H b v wE w2 wL w4 fE f2 fL f4){w4':AV}{l':List bc}{f4':List Nat}(hb:bJ H' b=some (0,[.int .i64 v.id,wE,w2,wL,w4']))(o4:bN H' w4' (.sl 13 (l'.map bc.cd)) f4')(n4:f4'.Nodup)
    (m4:∀c∈f4',c∈f4∨c∈G∨H.length≤c) (dG:∀c∈G,c∉gB fE f2 fL f4∧c≠b) (hl:H.length≤H'.length) (fr:∀c,c∉f4→c∉G→c≠b→c<H.length→H'[c]? = H[c]?):
    VO H' b { v with out:=l' } wE w2 wL w4' fE f2 fL f4':=by
  have lt:=o.lt
  have bf:=o.bf
  have key:∀c,c∈fE∨c∈f2∨c∈fL→H'[c]? = H[c]?∧c∉f4':=fun c hc=>by
    have hm:c∈gB fE f2 fL f4:=bU.2 (by rcases hc with q|q|q<;>simp[q])
    have hE:c∉f4:=fun g=>by
      rcases hc with q|q|q
      · exact o.dE4 c q g
      · exact o.d24 c q g
      · exact o.dL4 c q g
    have hG:c∉G:=fun g=>(dG c g).1 hm
    refine⟨fr c hE hG (fun e=>bf (e▸hm)) (lt c hm),fun h=>?_⟩
    rcases m4 c h with g|g|g
    · exact hE g
    · exact hG g
    · have:=lt c hm;omega
  refine⟨hb,o.oE.frame fun c hc=>(key c (.inl hc)).1,o.o2.frame fun c hc=>(key c (.inr (.inl hc))).1,o.oL.frame fun c hc=>(key c (.inr (.inr hc))).1,o4,o.nE,o.n2,o.nL,n4,o.dE2,o.dEL,fun c h g=>(key c (.inl h)).2 g,o.d2L,fun c h g=>(key c (.inr (.inl h))).2 g,fun c h g=>(key c (.inr (.inr h))).2 g,o.bE,o.b2,o.bL,fun h=>?_⟩
  rcases m4 b h with g|g|g
  · exact o.b4 g
  · exact(dG b g).2 rfl
  · have:=o.blt;omega
theorem VO.up{v':aA}{wE' w2' wL' w4':AV}{fE' f2' fL' f4':List Nat}(o':VO H' b v' wE' w2' wL' w4' fE' f2' fL' f4')(hl:H.length≤H'.length){F:Nat→Prop}(m:∀c∈gB fE' f2' fL' f4',F c∨H.length≤c)(r:∀c,¬F c→c≠b→c<H.length→H'[c]? = H[c]?):gU H b F H' v':=
  ⟨_,⟨_,_,_,_,_,_,_,_,rfl,o'⟩,hl,m,r⟩
theorem VO.at(o:VO H b v wE w2 wL w4 fE f2 fL f4):js H b v (gB fE f2 fL f4):=⟨_,_,_,_,_,_,_,_,rfl,o⟩
theorem Db{cells:List AV}(hb:bJ H b=some (0,cells)){i:Nat}{w:AV}(hi:i+1≤cells.length)(hw:bo w=true):∃H',(∀(e:List AV) (L:List (List AV)),(St.mk e L H).store (.gp b 0 i) [w]=some ⟨e,L,H'⟩)∧bJ H' b=some (0,cB cells i [w])∧H'.length=H.length∧∀c,c≠b→H'[c]? = H[c]?:=by
  obtain⟨H',s,m,l,r⟩:=(pO.nil hb).store (i:=i) (vs:=[w]) (by simpa using hi) (by simp only[jv,jz,hw,Bool.and_self])
  refine⟨H',fun e L=>by simpa using s e L,by simpa using m.eq,l,r⟩
end
end Go.AM
namespace Go.AM
theorem bN.BH{H:AH}{w:AV}{sz:Nat}{xs:List (List CD)}{fp:List Nat}(o:bN H w (.sl sz xs) fp)(nd:fp.Nodup){k:Nat}(hk:k<xs.length):
    ∃b g pre row post f,eJ sz w (k:Int)=some (.gp b g pre.length)∧pO H b g pre row post∧row.length=sz∧aO H row xs[k] f∧f.Nodup∧(∀c∈f,c∈fp)∧b∈fp∧b∉f∧
      ∀(H':AH) (row':List AV) (d':List CD) (f':List Nat),aO H' row' d' f'→f'.Nodup→d'.length=sz→(∀c∈f',c∈f∨c∉fp)→pO H' b g pre row' post→(∀c∈fp,c∉f→c≠b→H'[c]? = H[c]?)→
        ∃fp',bN H' w (.sl sz (xs.set k d')) fp'∧fp'.Nodup∧(∀c∈fp',(c∈fp∧c∉f)∨c∈f'):=by
  rcases o.jW with⟨rfl,e,rfl⟩|⟨b,g,cap,ex,az,tail,fp',rfl,rfl,hg,hsz,ht,hc,hown⟩
  · subst e;simp at hk
  obtain⟨nb,nd'⟩:=List.nodup_cons.1 nd
  have hfl:∀d:List CD,(xs.set k d).flatten=(xs.take k).flatten++(d++(xs.drop (k+1)).flatten):=fun d=>by
    rw[←List.flatten_cons,←List.flatten_append,List.set_eq_take_append_cons_drop,if_pos hk]
  have hf0:=hfl xs[k]
  rw[List.set_getElem_self]at hf0
  rw[hf0]at hown
  obtain⟨a1,a2,f1,f2,e1,e2,o1,o2⟩:=hown.split
  obtain⟨a3,a4,f3,f4,e3,e4,o3,o4⟩:=o2.split
  subst e1 e2 e3 e4
  have l1:a1.length=k*sz:=by
    rw[o1.len]
    have:∀(ys:List (List CD)),(∀l∈ys,l.length=sz)→ys.flatten.length=ys.length*sz:=fun ys=>by
      induction ys with
      | nil=>intro _;simp
      | cons y ys ih=>intro h;rw[List.flatten_cons,List.length_append,ih (fun l hl=>h l (by simp[hl])),h y (by simp),List.length_cons,Nat.add_mul];omega
    rw[this _ (fun l hl=>hsz l (List.mem_of_mem_take hl)),List.length_take,Nat.min_eq_left (by omega)]
  have l3:a3.length=sz:=by rw[o3.len];exact hsz _ (List.getElem_mem hk)
  obtain⟨n1,n2,n3⟩:=List.nodup_append.1 nd'
  obtain⟨n4,n5,n6⟩:=List.nodup_append.1 n2
  refine⟨b,g,a1,a3,a4++tail,f3,by have:=nN (b:=b) (g:=g) (off:=0) (len:=xs.length) (cap:=cap) (sz:=sz) (ex:=ex) hk;rwa[Nat.zero_add,←l1]at this,⟨by rw[hg];simp⟩,l3,o3,n4,fun c hc=>by simp[hc],by simp,fun hb=>nb (by simp[hb]),?_⟩
  intro H' row' d' f' o' nd2 hdl hf' hm fr
  have hbf':b∉f':=fun hb=>by
    rcases hf' b hb with q|q
    · exact nb (by simp[q])
    · exact q (by simp)
  have d1:∀c∈f',c∉f1:=fun c hc h1=>by
    rcases hf' c hc with q|q
    · exact n3 c h1 c (List.mem_append_left _ q) rfl
    · exact q (by simp[h1])
  have d4:∀c∈f',c∉f4:=fun c hc h1=>by
    rcases hf' c hc with q|q
    · exact n6 c q c h1 rfl
    · exact q (by simp[h1])
  have o1':=o1.frame (h':=H') fun c hc=>fr c (by simp[hc]) (fun h3=>n3 c hc c (List.mem_append_left _ h3) rfl) (fun e=>nb (by rw[←e];simp[hc]))
  have o4':=o4.frame (h':=H') fun c hc=>fr c (by simp[hc]) (fun h3=>n6 c h3 c hc rfl) (fun e=>nb (by rw[←e];simp[hc]))
  refine⟨b::(f1++(f'++f4)),?_,List.nodup_cons.2 ⟨?_,List.nodup_append.2 ⟨n1,List.nodup_append.2 ⟨nd2,n5,fun x hx y hy e=>d4 x hx (e▸hy)⟩,fun x hx y hy e=>?_⟩⟩,fun c hc=>?_⟩
  · have:=bN.sl_mk (h:=H') (b:=b) (g:=g) (cap:=cap) (sz:=sz) (ex:=ex) («as»:=a1++(row'++a4)) (tail:=tail) (xs:=xs.set k d') (fp:=f1++(f'++f4))
      (by rw[hm.eq];simp) (fun y hy=>by
        rcases List.mem_or_eq_of_mem_set hy with g|g
        · exact hsz y g
        · rw[g,hdl]) ht (by simpa using hc) (by rw[hfl];exact o1'.append (o'.append o4'))
    simpa using this
  · simp only[List.mem_append,not_or]
    exact⟨fun h=>nb (by simp[h]),hbf',fun h=>nb (by simp[h])⟩
  · subst e
    rcases List.mem_append.1 hy with q|q
    · exact d1 x q hx
    · exact n3 x hx x (List.mem_append_right _ q) rfl
  · simp only[List.mem_cons,List.mem_append]at hc ⊢
    rcases hc with q|q|q|q
    · exact .inl ⟨.inl q,fun h=>nb (by rw[←q];simp[h])⟩
    · exact .inl ⟨.inr (.inl q),fun h=>n3 c q c (List.mem_append_left _ h) rfl⟩
    · exact .inr q
    · exact .inl ⟨.inr (.inr (.inr q)),fun h=>n6 c h c q rfl⟩
theorem VO.iy{H:AH}{b:Nat}{v:aA}{wE w2 wL w4:AV}{fE f2 fL f4:List Nat}(o:VO H b v wE w2 wL w4 fE f2 fL f4){k:Nat}(hk:k<v.entities.length):∃bL gL n row f0,eJ 12 wE (k:Int)=some (.gp bL gL n)∧(∀(e:List AV) (L:List (List AV)),(St.mk e L H).cells (.gp bL gL n) 12=some row)∧
    row.length=12∧aO H row v.entities[k].cd f0∧f0.Nodup∧(∀c∈f0,c∈fE)∧bL∈fE∧bL∉f0∧
    ∀(H4:AH) (i:Nat) (vs:List AV) (l':aE) (f' G:List Nat),H.length≤H4.length→(∀c∈G,c∉gB fE f2 fL f4∧c≠b)→(∀c,c<H.length→c∉f0→c∉G→H4[c]? = H[c]?)→i+vs.length≤12→vs.all bo=true→aO H4 (cB row i vs) l'.cd f'→f'.Nodup→(∀c∈f',c∈f0∨c∈G∨H.length≤c)→
      (∀(e:List AV) (L:List (List AV)) (off m:Nat),(St.mk e L H4).cells (.gp bL gL (n+off)) m=sub row off m∨12<off+m)∧
      ∃H5 f5,(∀(e:List AV) (L:List (List AV)),(St.mk e L H4).store (.gp bL gL (n+i)) vs=some ⟨e,L,H5⟩)∧H5.length=H4.length∧(∀c,c≠bL→H5[c]? = H4[c]?)∧
        js H5 b { v with entities:=v.entities.set k l' } f5∧(∀c∈f5,(c∈gB fE f2 fL f4∧c∉f0)∨c∈f'):=by
  have vlt:=o.lt
  have bf:=o.bf
  have blt:=o.blt
  have hb:=o.hb
  have hkm:k<(v.entities.map aE.cd).length:=by simpa using hk
  obtain⟨bL,gL,pre,rowL,post,fL0,iL,mL,lL,oLr,nLr,sLr,bmL,bnL,close⟩:=o.oE.BH o.nE hkm
  rw[List.getElem_map]at oLr
  have hfE:∀c∈fE,c<H.length:=fun c hc=>vlt c (bU.2 (.inl hc))
  have hbq:=hfE bL bmL
  refine⟨bL,gL,pre.length,rowL,fL0,iL,fun e L=>by rw[mL.qn e L 12 (by omega)];exact pC lL,lL,oLr,nLr,sLr,bmL,bnL,fun H4 i vs l' f' G hl dG fr hi hv o' n' b'=>?_⟩
  have hbG:bL∉G:=fun h=>(dG bL h).1 (bU.2 (.inl bmL))
  have m4:pO H4 bL gL pre _ post:=mL.frame (fr bL hbq bnL hbG)
  obtain⟨H5,s5,m5,l5,r5⟩:=m4.store (i:=i) (vs:=vs) (by omega) hv
  refine⟨fun e L off m=>?_,?_⟩
  · by_cases ho:off+m≤12
    · exact .inl (m4.cells e L off m (by omega))
    · exact .inr (by omega)
  have nb:∀c∈f',c≠bL:=fun c hc e=>by
    rcases b' c hc with g|g|g
    · exact bnL (e▸g)
    · exact hbG (e▸g)
    · omega
  have o5:=o'.frame (h':=H5) fun c hc=>r5 c (nb c hc)
  obtain⟨fL',oL5,nL5,mL5⟩:=close H5 _ l'.cd f' o5 n' rfl (fun c hc=>by
    rcases b' c hc with g|g|g
    · exact .inl g
    · exact .inr (fun h=>(dG c g).1 (bU.2 (.inl h)))
    · exact .inr (fun h=>by have:=hfE c h;omega)) m5 (fun c hc hcf hcb=>by rw[r5 c hcb];exact fr c (hfE c hc) hcf (fun h=>(dG c h).1 (bU.2 (.inl hc))))
  have hb5:bJ H5 b=some (0,[.int .i64 v.id,wE,w2,wL,w4]):=by
    rw[bO (r5 b (fun e=>bf (bU.2 (.inl (e▸bmL))))),bO (fr b blt (fun h=>bf (bU.2 (.inl (sLr b h)))) (fun h=>(dG b h).2 rfl))];exact hb
  rw[←List.map_set]at oL5
  have u:=o.Tq (G:=G) hb5 oL5 nL5 (fun c hc=>by
    rcases mL5 c hc with g|g
    · exact .inl g.1
    · rcases b' c g with q|q|q
      · exact .inl (sLr c q)
      · exact .inr (.inl q)
      · exact .inr (.inr q)) dG (by omega)
    (fun c h1 h2 h3 h4=>by rw[r5 c (fun e=>h1 (e▸bmL)),fr c h4 (fun h=>h1 (sLr c h)) h2])
  refine⟨H5,_,s5,l5,r5,u.at,fun c hc=>?_⟩
  have out:∀c,c∈fL0→c∉f2∧c∉fL∧c∉f4:=fun c h=>⟨o.dE2 c (sLr c h),o.dEL c (sLr c h),o.dE4 c (sLr c h)⟩
  rcases bU.1 hc with g|g|g|g
  · rcases mL5 c g with q|q
    · exact .inl ⟨bU.2 (.inl q.1),q.2⟩
    · exact .inr q
  · exact .inl ⟨bU.2 (.inr (.inl g)),fun h=>(out c h).1 g⟩
  · exact .inl ⟨bU.2 (.inr (.inr (.inl g))),fun h=>(out c h).2.1 g⟩
  · exact .inl ⟨bU.2 (.inr (.inr (.inr g))),fun h=>(out c h).2.2 g⟩
theorem VO.frame{H H':AH}{b:Nat}{v:aA}{wE w2 wL w4:AV}{fE f2 fL f4:List Nat}(o:VO H b v wE w2 wL w4 fE f2 fL f4)(h:∀c,c∈gB fE f2 fL f4∨c=b→H'[c]? = H[c]?):VO H' b v wE w2 wL w4 fE f2 fL f4:=by
  refine⟨?_,o.oE.frame fun c hc=>h c (.inl (bU.2 (.inl hc))),o.o2.frame fun c hc=>h c (.inl (bU.2 (.inr (.inl hc)))),o.oL.frame fun c hc=>h c (.inl (bU.2 (.inr (.inr (.inl hc))))),o.o4.frame fun c hc=>h c (.inl (bU.2 (.inr (.inr (.inr hc))))),o.nE,o.n2,o.nL,o.n4,o.dE2,o.dEL,o.dE4,o.d2L,o.d24,o.dL4,o.bE,o.b2,o.bL,o.b4⟩
  rw[bO (h b (.inr rfl))];exact o.hb
def Fq(H:AH)(b:Nat)(wE w2 wL w4:AV)(fE f2 fL f4:List Nat)(H':AH)(v':aA):Prop:=
  ∃fL',VO H' b v' wE w2 wL w4 fE f2 fL' f4∧H.length≤H'.length∧(∀c∈fL',c∈fL∨H.length≤c)∧∀c,c∉fL→c<H.length→H'[c]? = H[c]?
theorem Fq.refl{H:AH}{b:Nat}{v:aA}{wE w2 wL w4:AV}{fE f2 fL f4:List Nat}(o:VO H b v wE w2 wL w4 fE f2 fL f4):Fq H b wE w2 wL w4 fE f2 fL f4 H v:=⟨fL,o,Nat.le_refl _,fun c h=>.inl h,fun _ _ _=>rfl⟩
theorem VO.B0{H:AH}{b:Nat}{v:aA}{wE w2 wL w4:AV}{fE f2 fL f4:List Nat}(o:VO H b v wE w2 wL w4 fE f2 fL f4){k:Nat}(hk:k<v.aq.length):∃bL gL n row f0,eJ 7 wL (k:Int)=some (.gp bL gL n)∧(∀(e:List AV) (L:List (List AV)),(St.mk e L H).cells (.gp bL gL n) 7=some row)∧
    aO H row v.aq[k].cd f0∧f0.Nodup∧(∀c∈f0,c∈fL)∧∀(H4:AH) (row':List AV) (l':aC) (f':List Nat),bQ H H4→aO H4 row' l'.cd f'→f'.Nodup→(∀c∈f',c∈f0∨H.length≤c)→
      ∃H5,(∀(e:List AV) (L:List (List AV)),(St.mk e L H4).store (.gp bL gL n) row'=some ⟨e,L,H5⟩)∧H5.length=H4.length∧(∀c,c∉fL→H5[c]? = H4[c]?)∧Fq H b wE w2 wL w4 fE f2 fL f4 H5 { v with aq:=v.aq.set k l' }:=by
  have vlt:=o.lt
  have bf:=o.bf
  have blt:=o.blt
  have hb:=o.hb
  have hkm:k<(v.aq.map aC.cd).length:=by simpa using hk
  obtain⟨bL,gL,pre,rowL,post,fL0,iL,mL,lL,oLr,nLr,sLr,bmL,bnL,close⟩:=o.oL.kK o.nL hkm
  rw[List.getElem_map]at oLr
  refine⟨bL,gL,pre.length,rowL,fL0,iL,fun e L=>by rw[mL.qn e L 7 (by omega)];exact pC lL,oLr,nLr,sLr,fun H4 row' l' f' eg o' n' b'=>?_⟩
  have hfL:∀c∈fL,c<H.length:=fun c hc=>vlt c (bU.2 (.inr (.inr (.inl hc))))
  have hbq:=hfL bL bmL
  have rl:row'.length=7:=by rw[o'.len];rfl
  have m4:pO H4 bL gL pre _ post:=mL.frame (eg.fr bL hbq)
  obtain⟨H5,s5,m5,l5,r5⟩:=m4.store (i:=0) (vs:=row') (by rw[rl,lL];exact Nat.le_refl 7) o'.bo
  rw[Nat.add_zero]at s5
  have ov:cB rowL 0 row'=row':=by simp[cB,rl,lL]
  rw[ov]at m5
  have lx:=eg.len
  have nb:∀c∈f',c≠bL:=fun c hc e=>by
    rcases b' c hc with g|g
    · exact bnL (e▸g)
    · omega
  have o5:=o'.frame (h':=H5) fun c hc=>r5 c (nb c hc)
  obtain⟨fL',oL5,nL5,mL5⟩:=close H5 _ l'.cd f' o5 n' rfl (fun c hc=>(b' c hc).imp id fun g hm=>by have:=hfL c hm;omega) m5 (fun c hc hcf hcb=>by rw[r5 c hcb];exact eg.fr c (hfL c hc))
  have hb5:bJ H5 b=some (0,[.int .i64 v.id,wE,w2,wL,w4]):=by
    rw[bO (r5 b (fun e=>bf (bU.2 (.inr (.inr (.inl (e▸bmL))))))),bO (eg.fr b blt)];exact hb
  rw[←List.map_set]at oL5
  have mf:∀c∈fL',c∈fL∨H.length≤c:=fun c hc=>by
    rcases mL5 c hc with g|g
    · exact .inl g
    · exact(b' c g).imp (sLr c) id
  have u:=o.Of (G:=[]) hb5 oL5 nL5 (fun c hc=>(mf c hc).imp id .inr) (fun c hc=>by simp at hc) (by omega)
    (fun c h1 h2 h3 h4=>by rw[r5 c (fun e=>h1 (e▸bmL)),eg.fr c h4])
  exact⟨H5,s5,l5,fun c hc=>r5 c (fun e=>hc (e▸bmL)),fL',u,by omega,mf,fun c h1 h3=>by rw[r5 c (fun e=>h1 (e▸bmL)),eg.fr c h3]⟩
theorem aO.rows{H:AH}{sz:Nat}:∀{xs:List (List CD)} {az:List AV} {fp:List Nat},aO H az xs.flatten fp→(∀l∈xs,l.length=sz)→fp.Nodup→
    ∃fpr:Nat→List Nat,∀(j:Nat) (hj:j<xs.length),aO H ((az.drop (j*sz)).take sz) xs[j] (fpr j)∧(fpr j).Nodup∧(∀c∈fpr j,c∈fp)∧∀j',j'<xs.length→j'≠j→∀c∈fpr j,c∉fpr j'
  | [],_,_,_,_,_=>⟨fun _=>[],fun j hj=>by simp at hj⟩
  | x::xs,az,fp,o,hs,nd=>by
    rw[List.flatten_cons]at o
    obtain⟨a1,a2,f1,f2,rfl,rfl,o1,o2⟩:=o.split
    obtain⟨n1,n2,n3⟩:=List.nodup_append.1 nd
    obtain⟨g,hg⟩:=aO.rows o2 (fun l hl=>hs l (by simp[hl])) n2
    have la:a1.length=sz:=by rw[o1.len];exact hs x (by simp)
    refine⟨fun j=>match j with|0=>f1|j+1=>g j,fun j hj=>?_⟩
    cases j with
    | zero=>
      refine⟨by simpa[←la]using o1,n1,fun c hc=>by simp[show c∈f1 from hc],fun j' h1 h2 c hc=>?_⟩
      cases j' with
      | zero=>omega
      | succ j'=>exact fun h=>n3 c hc c ((hg j' (by simpa using h1)).2.2.1 c h) rfl
    | succ j=>
      obtain⟨k1,k2,k3,k4⟩:=hg j (by simpa using hj)
      refine⟨?_,k2,fun c hc=>by simp[k3 c hc],fun j' h1 h2 c hc=>?_⟩
      · have e:(j+1)*sz=a1.length+j*sz:=by rw[la,Nat.add_mul];omega
        rw[e,List.drop_append,List.drop_of_length_le (by omega),List.nil_append,Nat.add_sub_cancel_left]
        simpa using k1
      · cases j' with
        | zero=>exact fun h=>n3 c h c (k3 c hc) rfl
        | succ j'=>exact k4 j' (by simpa using h1) (by omega) c hc
theorem bN.rows{H:AH}{w:AV}{sz:Nat}{xs:List (List CD)}{fp:List Nat}(o:bN H w (.sl sz xs) fp)(nd:fp.Nodup):
    ∃(ptr:Nat→AV) (row:Nat→List AV) (fpr:Nat→List Nat) (qb:Nat),∀(j:Nat) (hj:j<xs.length),eJ sz w (j:Int)=some (ptr j)∧(∀(H':AH) (e:List AV) (L:List (List AV)),H'[qb]? = H[qb]?→(St.mk e L H').cells (ptr j) sz=some (row j))∧
      aO H (row j) xs[j] (fpr j)∧(fpr j).Nodup∧(∀c∈fpr j,c∈fp∧c≠qb)∧qb∈fp∧∀j',j'<xs.length→j'≠j→∀c∈fpr j,c∉fpr j':=by
  rcases o.jW with⟨rfl,e,rfl⟩|⟨b,g,cap,ex,az,tail,fp',rfl,rfl,hg,hsz,ht,hc,hown⟩
  · subst e
    exact⟨fun _=>.any,fun _=>[],fun _=>[],0,fun j hj=>by simp at hj⟩
  obtain⟨nb,nd'⟩:=List.nodup_cons.1 nd
  obtain⟨fpr,hf⟩:=hown.rows hsz nd'
  have lz:az.length=xs.length*sz:=by
    rw[hown.len]
    have:∀(ys:List (List CD)),(∀l∈ys,l.length=sz)→ys.flatten.length=ys.length*sz:=fun ys=>by
      induction ys with
      | nil=>intro _;simp
      | cons y ys ih=>intro h;rw[List.flatten_cons,List.length_append,ih (fun l hl=>h l (by simp[hl])),h y (by simp),List.length_cons,Nat.add_mul];omega
    exact this _ hsz
  refine⟨fun j=>.gp b g (j*sz),fun j=>(az.drop (j*sz)).take sz,fpr,b,fun j hj=>?_⟩
  obtain⟨k1,k2,k3,k4⟩:=hf j hj
  refine⟨by have:=nN (b:=b) (g:=g) (off:=0) (len:=xs.length) (cap:=cap) (sz:=sz) (ex:=ex) hj;rwa[Nat.zero_add]at this,fun H' e L hb=>?_,k1,k2,fun c hc=>⟨by simp[k3 c hc],fun e=>nb (e▸k3 c hc)⟩,by simp,k4⟩
  have hg':bJ H' b=some (g,az++tail):=by rw[bO hb];exact hg
  have hle:j*sz+sz≤az.length:=by rw[lz];calc j*sz+sz=(j+1)*sz:=by rw[Nat.add_mul];omega
    _≤xs.length*sz:=Nat.mul_le_mul_right _ hj
  rw[bk hg',sub,if_pos (by rw[List.length_append];omega),List.drop_append_of_le_length (by omega),List.take_append_of_le_length (by rw[List.length_drop];omega)]
end Go.AM
